/- The mutations: Apply. -/
import Derived.Test.YtjnbfgogmhfbiaaVo
namespace Go.Proofs.Ytjnbfgogmhfbiaa
open Go Go.RowKit
/-- What Apply answers. -/
def Answers (res : Except Int (List (List Value) × Int)) (w : World) (r : Ending) (w' : World) : Prop :=
  match res with
  | .error e => r = .returned (.tuple #[.agg #[.slice none 0 0, .int .i64 0], .int .i64 e])
  | .ok (L', x') => ∃ A n k, r = .returned (.tuple #[.agg #[.slice A n k, .int .i64 x'], .int .i64 0]) ∧ Own w' w.heap.size 32 51 A n k L'.flatten ∧ L'.length = n ∧ ∀ y ∈ L', OkAll nodeLs y
def ApplyPost (L : List (List Value)) (x : Int) (c : Chg) (w : World) (r : Ending) (w' : World) : Prop :=
  (∃ res, Applies L x c res ∧ Answers res w r w') ∧ w.grownBy w' none
set_option maxRecDepth 100000 in
set_option maxHeartbeats 4000000 in
theorem apply_any (A : Option Addr) (n k : Nat) (x : Int) (L : List (List Value)) (c : Chg) (w : World) (hN : NodesAt w w.heap.size A n L) (hsm : ∀ i, i < n → lenN (nd L i) ≤ 5000) (hc : c.ok) (hcy : lenN c.y ≤ 5000) :
    Calls Try.prog 10 #[.agg #[.slice A n k, .int .i64 x], .agg c.cells] w (ApplyPost L x c w) := by
  have hmf : ∀ (fn : Fn) (first cap : Array Value) (w : World), (Instr.makeFunc fn first cap).run Try.prog w = .ok (.func fn first cap) w := fun _ _ _ _ => rfl
  obtain ⟨W0, hW0, bD, rC, bO, rE, hg0⟩ := boxes4 w (.slice A n k) x c
  have hW0' := Lib.hid hW0
  have CM := Lib.hid (may7_any A n k x L W0 (hN.grow hg0) hsm)
  have hN' := Lib.hid hN
  have hsm' := Lib.hid hsm
  have hc' := Lib.hid hc
  have hcy' := Lib.hid hcy
  have hn := hN.few
  have hlen := Lib.hid hN.len
  have c0 := bD.c0
  have c1 := bD.c1
  have bO' := Lib.hid bO
  have rC' := Lib.hid rC
  have rE' := Lib.hid rE
  have hg0' := Lib.hid hg0
  have bD' := Lib.hid bD
  clear hW0 hN hsm hc hcy bO rC rE bD
  generalize hcs : c.cells = cs at hW0'
  go_enter_defers Try.func10, Try.ntmps10
  go_wp2_with fail
  rw [hW0'.out]
  have hpp := Lib.hid (show (w.heap.size + 1 + 1 ≠ w.heap.size + 1 + 1 + 1 ∧ w.heap.size ≤ w.heap.size + 1 + 1 ∧ w.heap.size ≤ w.heap.size + 1 + 1 + 1) ∧ w.heap.size + 1 + 1 < W0.heap.size ∧ w.heap.size + 1 + 1 + 1 < W0.heap.size from ⟨by omega, by have := rE'.out.lt; omega, rE'.out.lt⟩)
  have hpp3 := Lib.hid (show w.heap.size + 1 ≠ w.heap.size + 1 + 1 by omega)
  generalize w.heap.size + 1 + 1 + 1 = pe at *
  generalize w.heap.size + 1 + 1 = po at *
  generalize w.heap.size + 1 = pc at *
  refine CM.out.mono ?_; rintro r w1 ⟨⟨b, rfl, hb⟩, hg1⟩
  clear c0 c1 CM
  have bO1 := bO'.out.kept hg1 (by simp)
  have rE1 := rE'.out.kept0 hg1
  have bD1 := bD'.out.kept hg1 (by simp)
  have rC1 := rC'.out.kept0 hg1
  replace hg1 := grown_trans hg0'.out hg1
  cases b with
  | false =>
    have hno : ¬ MayL L x := fun h => by have := hb.2 h; cases this
    have hno' := Lib.hid hno
    have d0 := bO1.c0
    have d1 := bO1.c1
    have f0 := bO1.f 0
    have f1 := bO1.f 1
    have e0 : w1.cell? ⟨pe, 0, none⟩ = some (.int .i64 0) := rE1.at 0
    have fe := rE1.free 0
    obtain ⟨⟨h1, h2, h3⟩, h4, h5⟩ := hpp.out
    have h1' := Ne.symm h1
    clear hb hno
    go_wp2_with fail
    have x0 := (((bO1.s0 (.slice none 0 0)).s1 (.int .i64 0)).other (k := 0) h1 (.int .i64 50))
    have x1 := ((rE1.keptNe (grownBy_setCell w1 po 0 (.slice none 0 0)) (Ne.symm h1)).keptNe (grownBy_setCell _ po 1 (.int .i64 0)) (Ne.symm h1)).set 0 (.int .i64 50)
    have hgF := grown_put (grown_put (grown_put hg1 h2 0 (.slice none 0 0)) h2 1 (.int .i64 0)) h3 0 (.int .i64 50)
    generalize ((w1.setCell ⟨po, 0, none⟩ (.slice none 0 0)).setCell ⟨po, 1, none⟩ (.int .i64 0)).setCell ⟨pe, 0, none⟩ (.int .i64 50) = w5 at *
    have y0 := x0.c0
    have y1 := x0.c1
    have y2 : w5.cell? ⟨pe, 0, none⟩ = some (.int .i64 50) := x1.at 0
    refine ⟨.tuple #[.agg #[.slice none 0 0, .int .i64 0], .int .i64 50], by simp [results, Try.results10, go_sem, y0, y1, y2], ⟨.error 50, .inl ⟨hno'.out, rfl⟩, rfl⟩, hgF⟩
  | true =>
    have hM := Lib.hid (hb.1 rfl)
    clear hb
    have hfail : ∀ (e : Int) (W : World), w.grownBy W none → (∃ u v, Two W po 24 u v) → Row W pe 37 #[.int .i64 0] → Applies L x c (.error e) → ∀ tmps : Array Value, tmps[4]? = some (.pointer (some ⟨po, 0, none⟩)) → tmps[5]? = some (.pointer (some ⟨pe, 0, none⟩)) →
        Leaves Try.prog Try.f10 tmps (ApplyPost L x c w) [{ target := .fn (.func 22) #[.pointer (some ⟨po, 0, none⟩), .pointer (some ⟨pe, 0, none⟩)], args := #[] }] (.panicking [{ v := wrongV e, recovered := false }]) W := fun e W hg hO hE hA tmps h4 h5 => by
      obtain ⟨u, v, hO⟩ := hO
      obtain ⟨⟨h1, h2, h3⟩, _, _⟩ := hpp.out
      refine leaves_cons (f := 22) (args := #[.pointer (some ⟨po, 0, none⟩), .pointer (some ⟨pe, 0, none⟩)]) (by simp) (by simp [go_sem]) ?_
      refine (catch_wrong po pe e 0 u v W hO hE h1).mono ?_
      rintro r u' w'' ⟨rfl, rfl, P1, P2, hG⟩
      have y0 := P1.c0
      have y1 := P1.c1
      have y2 : w''.cell? ⟨pe, 0, none⟩ = some (.int .i64 e) := P2.at 0
      refine ⟨.tuple #[.agg #[.slice none 0 0, .int .i64 0], .int .i64 e], by simp [results, Try.results10, go_sem, y0, y1, y2, h4, h5], ⟨.error e, hA, rfl⟩, hG w hg h2 h3⟩
    have e6 : w1.cell? ⟨pc, 0, none⟩ = some (.int .u8 c.kd) := (rC1.at 0).trans Chg.c0
    by_cases hk : 1 ≤ c.kd ∧ c.kd ≤ 5
    · obtain ⟨f1n, f2n, hx, hdp⟩ := hM.out.facts
      have hLn := hlen.out
      have d1 : decide (1 ≤ c.kd) = true := decide_eq_true hk.1
      have d2 : decide (c.kd ≤ 5) = true := decide_eq_true hk.2
      have hfl := Lib.hid hfail
      have hk' := Lib.hid hk
      clear hk hfail
      go_wp2_with fail
      refine (must_yes 70 w1).mono ?_; rintro r w2 ⟨rfl, rfl⟩
      have t0 := bD1.c0
      have t1 := bD1.c1
      have CC := Lib.hid (copy_any A n k L x w2 w.heap.size hN'.out.ok hlen.out (hN'.out.reads.grown0 hg1) (by omega))
      clear d1 d2
      go_wp2_with fail
      refine CC.out.mono ?_; rintro r w3 ⟨A2, k2, rfl, hown, hg3⟩
      clear t0 t1 CC
      have bO3 := bO1.kept hg3 (by simp)
      have rE3 := rE1.kept0 hg3
      have rC3 := rC1.kept0 hg3
      have hszw := hg1.size
      have hrow := hown.row_ge
      have hg3w := grown_trans hg1 hg3
      have t0 := bO3.c0
      have t1 := bO3.c1
      have t2 := bO3.f 0
      have t3 := bO3.f 1
      have hDpo : DocAt ((w3.setCell ⟨po, 0, none⟩ (.slice A2 n k2)).setCell ⟨po, 1, none⟩ (.int .i64 x)) w.heap.size po A2 n k2 L x :=
        ⟨(bO3.s0 _).s1 _, ((hown.base_ hszw).kept_ (grownBy_setCell _ _ _ _) bO3 (by decide)).kept_ (grownBy_setCell _ _ _ _) (bO3.s0 _) (by decide), hN'.out.ok, by omega⟩
      obtain ⟨⟨h1, h2, h3⟩, h4, h5⟩ := hpp.out
      have rE4 := (rE3.keptNe (grownBy_setCell w3 po 0 (.slice A2 n k2)) (Ne.symm h1)).keptNe (grownBy_setCell _ po 1 (.int .i64 x)) (Ne.symm h1)
      have hpc := Lib.hid hpp3.out
      have rC4 := (rC3.keptNe (grownBy_setCell w3 po 0 (.slice A2 n k2)) hpc.out).keptNe (grownBy_setCell _ po 1 (.int .i64 x)) hpc.out
      have hg4 := grown_put (grown_put hg3w h2 0 (.slice A2 n k2)) h2 1 (.int .i64 x)
      have hpl := rE1.lt
      have hfar := Lib.hid (show some pe ≠ rowOf A2 k2 ∧ ∀ g, rowOf A2 k2 = some g → w.heap.size ≤ g from ⟨fun e => by have := (hrow pe e.symm).1; omega, fun g e => by have := (hrow g e).1; omega⟩)
      have hDpo' := Lib.hid hDpo
      have rE4' := Lib.hid rE4
      have rC4' := Lib.hid rC4
      have hg4' := Lib.hid hg4
      clear bO1 rE1 bD1 rC1 bO3 rE3 rC3 hown hg3 hg3w hrow hszw hDpo rE4 rC4 hg4 e6 hpl
      go_wp2_with fail
      clear t0 t1 t2 t3
      generalize (w3.setCell ⟨po, 0, none⟩ (.slice A2 n k2)).setCell ⟨po, 1, none⟩ (.int .i64 x) = w4 at *
      refine wp_region_held (S := fun _ => True) (by kernel_rfl) ?_
      refine Grow.wpAnyH_from (w0 := w4.drew) [] [0, 1, 2, 3, 4] #[true, true, true, true, true, false] [(some 22, 0), (some 23, 1), (some 24, 2), (some 25, 3), (some 26, 4)] 1 (TG (fun j lo => match j with | 0 => .agg doers | 1 => .pointer (some ⟨pc, 0, none⟩) | 2 => .int .u8 c.kd | 3 => .func (.func (doer c.kd)) #[] #[] | _ => .agg cs) (fun _ => none)) (by kernel_rfl) (by kernel_rfl) (by kernel_rfl) (by decide) (by kernel_rfl) (by kernel_rfl) (by kernel_rfl) (fun _ _ => trivial) (TG.mono _ _) ?_ ?_
      · refine Grow.StepsD.cons [] [] rfl (by kernel_rfl) (by kernel_rfl) (fun vs lo up W hg hT K hK => ?_) ?_
        · simp only [Grow.putL] at hK ⊢
          go_simp
          refine (doing_any W).mono ?_; rintro r V ⟨rfl, hgx⟩
          exact hK _ _ hgx (TG.plain rfl rfl)
        refine Grow.StepsD.cons [] [] rfl (by kernel_rfl) (by kernel_rfl) (fun vs lo up W hg hT K hK => ?_) ?_
        · simp only [Grow.putL] at hK ⊢
          go_simp
          exact hK _ _ (World.grownBy.refl _ _) (TG.plain rfl rfl)
        refine Grow.StepsD.cons [1] [(some 23, 1)] rfl (by kernel_rfl) (by kernel_rfl) (fun vs lo up W hg hT K hK => ?_) ?_
        · have t1 : vs 1 = .pointer (some ⟨pc, 0, none⟩) := hT.1
          have e6 : W.cell? ⟨pc, 0, none⟩ = some (.int .u8 c.kd) := ((rC4'.out.kept0 (grown_undrew hg)).at 0).trans Chg.c0
          simp only [Grow.putL, t1] at hK ⊢
          go_simp
          exact hK _ _ (World.grownBy.refl _ _) (TG.plain rfl rfl)
        refine Grow.StepsD.cons [0, 2] [(some 22, 0), (some 24, 2)] rfl (by kernel_rfl) (by kernel_rfl) (fun vs lo up W hg hT K hK => ?_) ?_
        · have t0 : vs 0 = .agg doers := hT.1.1
          have t2 : vs 2 = .int .u8 c.kd := hT.2.1
          have hrd := run_doer hk'.out W
          simp only [Grow.putL, t0, t2] at hK ⊢
          go_simp
          exact hK _ _ (World.grownBy.refl _ _) (TG.plain rfl rfl)
        refine Grow.StepsD.cons [] [] rfl (by kernel_rfl) (by kernel_rfl) (fun vs lo up W hg hT K hK => ?_) Grow.StepsD.nil
        · have hrW := rC4'.out.kept0 (grown_undrew hg)
          rw [hcs] at hrW
          simp only [Grow.putL] at hK ⊢
          refine wp_value (exec_load_row bigC (x := .tmp 3) rfl (by kernel_rfl) W hrW (by rw [← hcs]; exact Chg.size hc'.out)) ?_
          exact hK _ _ (World.grownBy.refl _ _) (TG.plain rfl rfl)
      intro vs lo up V hgV hT hbb hap
      have hgW := grown_undrew hgV
      obtain ⟨t0, t1, t2, t3, t4⟩ := hT
      have q0 : vs 0 = .agg doers := t0.1
      have q1 : vs 1 = .pointer (some ⟨pc, 0, none⟩) := t1.1
      have q2 : vs 2 = .int .u8 c.kd := t2.1
      have q3 : vs 3 = .func (.func (doer c.kd)) #[] #[] := t3.1
      have q4 : vs 4 = .agg cs := t4.1
      simp only [Grow.putL, q0, q1, q2, q3, q4, Act.put, List.getElem_toArray, List.getElem_cons_succ, List.getElem_cons_zero, List.setIfInBounds_toArray, List.set_cons_zero, List.set_cons_succ]
      clear hbb hap q0 q1 q2 q3 q4 t0 t1 t2 t3 t4 hgV
      have DV := hDpo'.out.grown hgW
      have rEV := rE4'.out.kept0 hgW
      have hgwV := grown_trans hg4'.out hgW
      have CO := Lib.hid (op_any w.heap.size po A2 n k2 L x c V DV hgwV.size hc'.out (by omega) hx (fun i hi => by have := hdp i (by omega); omega) hk'.out)
      rw [hcs] at CO
      have rEV' := Lib.hid rEV
      have hgwV' := Lib.hid hgwV
      clear DV rEV hgW hgwV
      refine wpAnyH_ready (rs := [5]) (by kernel_rfl) (by simp) ?_
      refine AllReadyH.cons rfl (fun K hK => ?_) AllReadyH.nil
      have hcl := fun args W => call_doer hk'.out args W
      go_simp
      clear hcl
      refine CO.out.mono ?_; intro r w6 hres
      have hM6 : Mut V w6 po (rowOf A2 k2) := by
        unfold OpPost at hres
        split at hres
        · exact hres.2.2
        · exact hres.2.2
      have rE6 := hM6.row rEV'.out (Ne.symm h1) hfar.out.1
      have hg6 := hM6.toGrown hgwV'.out h2 hfar.out.2
      cases hop : opL L x c with
      | error e =>
        rw [hop] at hres
        obtain ⟨rfl, hO, _⟩ := hres
        exact hfl.out e _ hg6 hO rE6 (.inr (.inr (.inl ⟨hM.out, hk'.out, hop⟩))) _ rfl rfl
      | ok res =>
        obtain ⟨L', x'⟩ := res
        rw [hop] at hres
        obtain ⟨rfl, ⟨A6, n6, k6, D6⟩, _⟩ := hres
        have hop' := Lib.hid hop
        have D6' := Lib.hid D6
        have rE6' := Lib.hid rE6
        have hg6' := Lib.hid hg6
        have hsm6 := opL_len hN'.out.ok hc'.out hop (fun y hy => by
          obtain ⟨i, hi, rfl⟩ := List.mem_iff_getElem.1 hy
          have := hsm'.out i (by omega)
          rwa [nd_some (List.getElem?_eq_getElem hi)] at this) hcy'.out
        have CM6 := Lib.hid (may7_any A6 n6 k6 x' L' w6 D6.nodes (fun i hi => hsm6 _ (List.mem_of_getElem? (nd_get (by rw [D6.len]; exact hi)))))
        obtain ⟨t0, t1⟩ := D6.cells
        refine hK.out _ _ trivial (fun _ => ?_)
        clear hK K
        refine wpAnyH_done (by kernel_rfl) ?_ _
        clear hop D6 rE6 hg6 hM6 CO hsm6
        go_wp2_with fail
        refine CM6.out.mono ?_; rintro r w7 ⟨⟨b, rfl, hb⟩, hg7⟩
        clear t0 t1 CM6
        have D7 := D6'.out.grown hg7
        have rE7 := rE6'.out.kept0 hg7
        have hg7w := grown_trans hg6'.out hg7
        cases b with
        | false =>
          have hno : ¬ MayL L' x' := fun h => by have := hb.2 h; cases this
          have hno' := Lib.hid hno
          clear hb hno
          go_wp2_with fail
          refine (must_no 4 w7).mono ?_; rintro r w8 ⟨rfl, rfl⟩
          exact hfl.out 4 _ hg7w ⟨_, _, D7.two⟩ rE7 (.inr (.inr (.inr ⟨hM.out, hk'.out, ⟨L', x', hop'.out, hno'.out⟩, rfl⟩))) _ rfl rfl
        | true =>
          have hyes := Lib.hid (hb.1 rfl)
          clear hb
          go_wp2_with fail
          refine (must_yes 4 w7).mono ?_; rintro r w8 ⟨rfl, rfl⟩
          obtain ⟨t0, t1⟩ := D7.cells
          have t2 := D7.two.f 0
          have t3 := D7.two.f 1
          have e0 : w8.cell? ⟨pe, 0, none⟩ = some (.int .i64 0) := rE7.at 0
          have fe := rE7.free 0
          have h1' := Ne.symm h1
          have D7' := Lib.hid D7
          have rE7' := Lib.hid rE7
          clear D7 rE7
          go_wp2_with fail
          have x0 := ((D7'.out.two.s0 (.slice A6 n6 k6)).s1 (.int .i64 x')).other (k := 0) h1 (.int .i64 0)
          have x1 := ((rE7'.out.keptNe (grownBy_setCell w8 po 0 (.slice A6 n6 k6)) h1').keptNe (grownBy_setCell _ po 1 (.int .i64 x')) h1').set 0 (.int .i64 0)
          have ho := ((D7'.out.own.kept_ (grownBy_setCell w8 po 0 (.slice A6 n6 k6)) D7'.out.two (by decide)).kept_ (grownBy_setCell _ po 1 (.int .i64 x')) (D7'.out.two.s0 _) (by decide)).kept_ (grownBy_setCell _ pe 0 (.int .i64 0)) ((rE7'.out.keptNe (grownBy_setCell w8 po 0 (.slice A6 n6 k6)) h1').keptNe (grownBy_setCell _ po 1 (.int .i64 x')) h1') (by decide)
          have hgF := grown_put (grown_put (grown_put hg7w h2 0 (.slice A6 n6 k6)) h2 1 (.int .i64 x')) h3 0 (.int .i64 0)
          clear t0 t1 t2 t3 e0 fe
          generalize ((w8.setCell ⟨po, 0, none⟩ (.slice A6 n6 k6)).setCell ⟨po, 1, none⟩ (.int .i64 x')).setCell ⟨pe, 0, none⟩ (.int .i64 0) = w9 at *
          refine leaves_cons (f := 22) (args := #[.pointer (some ⟨po, 0, none⟩), .pointer (some ⟨pe, 0, none⟩)]) (by simp) (by simp [go_sem]) ?_
          refine (catch_idle po pe w9).mono ?_
          rintro r u' w'' ⟨rfl, rfl, rfl⟩
          have y0 := x0.c0
          have y1 := x0.c1
          have y2 : w''.cell? ⟨pe, 0, none⟩ = some (.int .i64 0) := x1.at 0
          refine ⟨.tuple #[.agg #[.slice A6 n6 k6, .int .i64 x'], .int .i64 0], by simp [results, Try.results10, go_sem, y0, y1, y2], ⟨.ok (L', x'), ⟨hM.out, hk'.out, hop'.out, hyes.out⟩, A6, n6, k6, rfl, ho, D6'.out.len, D6'.out.ok⟩, hgF⟩
    · have hfl := Lib.hid hfail
      have hk' := Lib.hid hk
      rcases (by have := hc'.out.kd; omega : c.kd < 1 ∨ (1 ≤ c.kd ∧ 5 < c.kd)) with h | ⟨h, h'⟩
      · have d1 : decide (1 ≤ c.kd) = false := decide_eq_false (by omega)
        clear hk h hfail
        go_wp2_with fail
        refine (must_no 70 w1).mono ?_; rintro r w2 ⟨rfl, rfl⟩
        exact hfl.out 70 _ hg1 ⟨_, _, bO1⟩ rE1 (.inr (.inl ⟨hM.out, hk'.out, rfl⟩)) _ rfl rfl
      · have d1 : decide (1 ≤ c.kd) = true := decide_eq_true (by omega)
        have d2 : decide (c.kd ≤ 5) = false := decide_eq_false (by omega)
        clear hk h h' hfail
        go_wp2_with fail
        refine (must_no 70 w1).mono ?_; rintro r w2 ⟨rfl, rfl⟩
        exact hfl.out 70 _ hg1 ⟨_, _, bO1⟩ rE1 (.inr (.inl ⟨hM.out, hk'.out, rfl⟩)) _ rfl rfl
end Go.Proofs.Ytjnbfgogmhfbiaa
