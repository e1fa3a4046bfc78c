/- MutateKeeps: the walk. -/
import Derived.Test.YtjnbfgogmhfbiaaWc
namespace Go.Proofs.Ytjnbfgogmhfbiaa
open Go Go.RowKit
def chgLs : List Lf := [.int .u8, .int .i64, .int .i64, .int .i64] ++ nodeLs
theorem wf_u8 {n : Int} (h : (Lit.int .u8 n).wf = true) : 0 ≤ n ∧ n ≤ 255 := by simpa [Lit.wf, IntKind.min, IntKind.max, IntKind.signed, IntKind.bits] using h
theorem chg_of {cs : List Value} (h : OkAll chgLs cs) : ∃ c : Chg, c.ok ∧ cs.toArray = c.cells := by
  obtain ⟨v0, r0, rfl, ⟨kd, rfl, h0⟩, h⟩ := h
  obtain ⟨v1, r1, rfl, ⟨key, rfl, h1⟩, h⟩ := h
  obtain ⟨v2, r2, rfl, ⟨par, rfl, h2⟩, h⟩ := h
  obtain ⟨v3, y, rfl, ⟨num, rfl, h3⟩, h⟩ := h
  exact ⟨⟨kd, key, par, num, y⟩, ⟨wf_u8 h0, wfI h1, wfI h2, wfI h3, h⟩, rfl⟩
theorem opL_err {L : List (List Value)} {x e : Int} {c : Chg} (h : opL L x c = .error e) : e = 60 ∨ e = 70 := by
  have hg : ∀ {L : List (List Value)} {p n e : Int}, gapE L p n = .error e → e = 70 := fun h => by
    unfold gapE at h
    split at h
    · dsimp only at h
      split at h
      · cases h
      · cases h; rfl
    · cases h; rfl
  have hc : ∀ {L : List (List Value)} {k e : Int}, cutL L k = .error e → e = 70 := fun h => by
    unfold cutL at h
    split at h
    · cases h
    · cases h; rfl
  unfold opL at h
  split at h
  · unfold insertL at h
    split at h
    · rename_i e' he
      cases h
      exact .inr (hg he)
    · split at h
      · split at h
        · cases h
        · cases h; exact .inl rfl
      · split at h
        · cases h
        · cases h; exact .inr rfl
  split at h
  · unfold removeL at h
    split at h
    · rename_i e' he
      cases h
      exact .inr (hc he)
    · cases h
  split at h
  · unfold moveL at h
    split at h
    · rename_i e' he
      cases h
      exact .inr (hc he)
    · split at h
      · rename_i e' he
        cases h
        exact .inr (hg he)
      · cases h
  split at h
  · unfold styleL at h
    split at h
    · dsimp only at h
      split at h
      · split at h
        · cases h
        · cases h; exact .inl rfl
      · cases h; exact .inr rfl
    · cases h; exact .inr rfl
  · unfold textL at h
    split at h
    · dsimp only at h
      split at h
      · cases h
      · cases h; exact .inr rfl
    · cases h; exact .inr rfl
theorem opL_next {L L' : List (List Value)} {x x' : Int} {c : Chg} (h : opL L x c = .ok (L', x')) : x' = if c.kd = 1 then x + 1 else x := by
  unfold opL at h
  split at h
  · rename_i hk
    rw [if_pos hk]
    unfold insertL at h
    split at h
    · cases h
    · split at h
      · split at h
        · cases h; rfl
        · cases h
      · split at h
        · cases h; rfl
        · cases h
  rename_i hk
  rw [if_neg hk]
  split at h
  · unfold removeL at h
    split at h
    · cases h
    · cases h; rfl
  split at h
  · unfold moveL at h
    split at h
    · cases h
    · split at h
      · cases h
      · cases h; rfl
  split at h
  · unfold styleL at h
    split at h
    · dsimp only at h
      split at h
      · split at h
        · cases h; rfl
        · cases h
      · cases h
    · cases h
  · unfold textL at h
    split at h
    · dsimp only at h
      split at h
      · cases h; rfl
      · cases h
    · cases h
theorem applies_err {L : List (List Value)} {x e : Int} {c : Chg} (h : Applies L x c (.error e)) : e ≠ 0 ∧ (e = 50 ↔ ¬ MayL L x) := by
  rcases h with ⟨h1, rfl⟩ | ⟨h1, h2, rfl⟩ | ⟨h1, h2, h3⟩ | ⟨h1, h2, h3, rfl⟩
  · exact ⟨by decide, fun _ => h1, fun _ => rfl⟩
  · exact ⟨by decide, fun e => absurd e (by decide), fun e => absurd h1 e⟩
  · rcases opL_err h3 with rfl | rfl
    · exact ⟨by decide, fun e => absurd e (by decide), fun e => absurd h1 e⟩
    · exact ⟨by decide, fun e => absurd e (by decide), fun e => absurd h1 e⟩
  · exact ⟨by decide, fun e => absurd e (by decide), fun e => absurd h1 e⟩
theorem total_mem {L : List (List Value)} : ∀ y ∈ L, lenN y ≤ total L := by
  induction L with
  | nil => intro y hy; simp at hy
  | cons a r ih =>
    intro y hy
    have : total (a :: r) = lenN a + total r := by simp [total]
    rcases List.mem_cons.1 hy with rfl | hy
    · omega
    · have := ih y hy; omega
/-- The law's two boxes. -/
theorem boxes2 (w : World) (v : Value) (x : Int) (c : Chg) : ∃ W, (w.alloc (.cells #[v, .int .i64 x] 24)).alloc (.cells c.cells 34) = W ∧
    Two W w.heap.size 24 v (.int .i64 x) ∧ Row W (w.heap.size + 1) 34 c.cells ∧ w.grownBy W none := by
  refine ⟨_, rfl, (Two.new w _ _ _).kept (World.grownBy_alloc _ _ none) (by simp), ?_, grown_trans (World.grownBy_alloc _ _ _) (World.grownBy_alloc _ _ _)⟩
  have := Row.new (w.alloc (.cells #[v, .int .i64 x] 24)) 34 c.cells
  rwa [World.size_alloc] at this
set_option maxRecDepth 100000 in
set_option maxHeartbeats 4000000 in
theorem MutateKeeps_walk (w : World) (A : Option Addr) (n k : Nat) (L : List (List Value)) (x : Int) (_wx : (Lit.int .i64 x).wf = true) (R : IsNodes w A n k L) (cs : List Value) (ok : OkAll chgLs cs) :
    Calls Try.prog 3 #[.agg #[.slice A n k, .int .i64 x], .agg ⟨cs⟩] w fun e w' => e = .returned (.bool true) ∧ Below w.heap.size w w' := by
  obtain ⟨c, hc, hcs⟩ := chg_of ok
  rw [show (⟨cs⟩ : Array Value) = c.cells from hcs]
  have hnc := R.len_
  obtain ⟨W0, hW0, bD, rC, hg0⟩ := boxes2 w (.slice A n k) x c
  have CA := Lib.hid (awake_any W0)
  have hok := Lib.hid (fun y hy => (R.2.2.2.1 y hy).2)
  have hlen := Lib.hid R.1
  have hrd := Lib.hid (fun W (hg : w.grownBy W none) => (R.2.2.2.2.grown0 hg).more hg.size)
  have CG := Lib.hid (fun W (hg : w.grownBy W none) => great7_any A n k L x c W hok.out hlen.out (hrd.out W hg) (by omega) hc)
  have hc' := Lib.hid hc
  have hW0' := Lib.hid hW0
  have bD' := Lib.hid (fun W (hg : W0.grownBy W none) => bD.kept hg (by simp))
  have rC' := Lib.hid (fun W (hg : W0.grownBy W none) => rC.kept0 hg)
  have hg0' := Lib.hid hg0
  have hkb := hc.kd
  have hcz := Lib.hid (Chg.size hc)
  clear R hcs ok hW0 bD rC hg0 hc
  go_enter Try.func3, Try.ntmps3
  go_wp2_with fail
  rw [hW0'.out]
  refine CA.out.mono ?_; rintro r w1 ⟨rfl, hg⟩
  have c0 := (bD'.out _ hg).c0
  have c1 := (bD'.out _ hg).c1
  have rc := rC'.out _ hg
  go_wp2_with (refine wpList_row bigC rc hcz.out (x := .tmp 3) rfl (by kernel_rfl) (by kernel_rfl) ?_; simp only [Act.put, List.setIfInBounds_toArray, List.set_cons_zero, List.set_cons_succ])
  refine (CG.out _ (grown_trans hg0'.out hg)).mono ?_; rintro r w2 ⟨b, rfl, hb, hg2⟩
  replace hg := grown_trans hg hg2
  clear c0 c1 rc hg2 CA CG
  cases b with
  | true =>
    clear hb
    go_wp2_with fail
    go_ret
    exact ⟨rfl, grown_below (grown_trans hg0'.out hg)⟩
  | false =>
    obtain ⟨⟨hn, ht⟩, hy⟩ := hb rfl
    have hN := Lib.hid (fun W (hg : W0.grownBy W none) => show NodesAt W W.heap.size A n L from ⟨hok.out, hlen.out, hrd.out W (grown_trans hg0'.out hg), by omega⟩)
    have hsm := Lib.hid (fun i (hi : i < n) => show lenN (nd L i) ≤ 5000 from Nat.le_trans (total_mem _ (List.mem_of_getElem? (nd_get (by rw [hlen.out]; exact hi)))) ht)
    have CAp := Lib.hid (apply_any A n k x L c w2 (hN.out _ hg) hsm.out hc'.out hy)
    have CMd := Lib.hid (fun W (hg : W0.grownBy W none) => may7_any A n k x L W (hN.out W hg) hsm.out)
    have c0 := (bD'.out _ hg).c0
    have c1 := (bD'.out _ hg).c1
    have rc := rC'.out _ hg
    clear hb ht hy
    go_wp2_with (refine wpList_row bigC rc hcz.out (x := .tmp 3) rfl (by kernel_rfl) (by kernel_rfl) ?_; simp only [Act.put, List.setIfInBounds_toArray, List.set_cons_zero, List.set_cons_succ])
    refine CAp.out.mono ?_; rintro r w3 ⟨⟨res, hap, hans⟩, hg3⟩
    replace hg := grown_trans hg hg3
    clear c0 c1 rc CAp
    cases res with
    | error e =>
      obtain ⟨he0, he50⟩ := applies_err hap
      have ha := World.grownBy_alloc w3 (.cells #[.slice none 0 0, .int .i64 0] 24) none
      have bO := Two.new w3 24 (.slice none 0 0) (.int .i64 0)
      have d0 := bO.c0
      have d1 := bO.c1
      have hga := grown_trans hg ha
      have c0 := (bD'.out _ hga).c0
      have c1 := (bD'.out _ hga).c1
      have b0 : (e != 0) = true := by simpa using he0
      obtain rfl : r = _ := hans
      have he50' := Lib.hid he50
      clear he50 hap ha bO hg3 he0
      go_wp2_with fail
      refine (CMd.out _ hga).mono ?_; rintro r w4 ⟨⟨b, rfl, hb⟩, hg4⟩
      have hbe : ((e == 50) == !b) = true := by
        cases b with
        | true =>
          have hm := hb.1 rfl
          have : e ≠ 50 := fun h => (he50'.out.1 h) hm
          simp [this]
        | false =>
          have hm : ¬ MayL L x := fun h => by have := hb.2 h; cases this
          have : e = 50 := he50'.out.2 hm
          simp [this]
      clear hb
      go_wp2_with fail
      go_ret
      exact ⟨rfl, grown_below (grown_trans hg0'.out (grown_trans hga hg4))⟩
    | ok v =>
      obtain ⟨L', x'⟩ := v
      obtain ⟨A3, n3, k3, hans, hown, hl3, hok3⟩ := hans
      subst hans
      obtain ⟨hM, _, hop, hM'⟩ := hap
      have hx' := opL_next hop
      obtain ⟨_, hl300, _, _⟩ := hM'.facts
      obtain ⟨_, _, hx0, _⟩ := hM.facts
      have hN3 : NodesAt w3 w3.heap.size A3 n3 L' := ⟨hok3, hl3, hown.reads, by omega⟩
      have ha := World.grownBy_alloc w3 (.cells #[.slice A3 n3 k3, .int .i64 x'] 24) none
      have bO := Two.new w3 24 (.slice A3 n3 k3) (.int .i64 x')
      have hsm3 : ∀ i, i < n3 → lenN (nd L' i) ≤ 5000 := fun i hi => by
        have h1 := total_mem _ (List.mem_of_getElem? (nd_get (L := L') (i := i) (by omega)))
        have h2 := hM'.1.2.2.2.2.2
        omega
      have hga := grown_trans hg ha
      have hdoc := Lib.hid (fun W (hg : (w3.alloc (.cells #[.slice A3 n3 k3, .int .i64 x'] 24)).grownBy W none) => show (W.cell? ⟨w.heap.size, 0, none⟩ = some (.slice A n k) ∧ W.cell? ⟨w.heap.size, 1, none⟩ = some (.int .i64 x)) ∧ (W.cell? ⟨w3.heap.size, 0, none⟩ = some (.slice A3 n3 k3) ∧ W.cell? ⟨w3.heap.size, 1, none⟩ = some (.int .i64 x')) ∧ W.cell? ⟨w.heap.size + 1, 0, none⟩ = some (.int .u8 c.kd) from
        ⟨⟨(bD'.out _ (grown_trans hga hg)).c0, (bD'.out _ (grown_trans hga hg)).c1⟩, ⟨(bO.kept hg (by simp)).c0, (bO.kept hg (by simp)).c1⟩, ((rC'.out _ (grown_trans hga hg)).at 0).trans Chg.c0⟩)
      have CM1 := Lib.hid (fun W (hg : (w3.alloc (.cells #[.slice A3 n3 k3, .int .i64 x'] 24)).grownBy W none) => may_ok (k := k) (hN.out W (grown_trans hga hg)) hsm.out hM)
      have CM2 := Lib.hid (fun W (hg : (w3.alloc (.cells #[.slice A3 n3 k3, .int .i64 x'] 24)).grownBy W none) => may_ok (k := k3) (hN3.grow (grown_trans ha hg)) hsm3 hM')
      have hga' := Lib.hid hga
      have hr := World.grownBy.refl (w3.alloc (.cells #[.slice A3 n3 k3, .int .i64 x'] 24)) none
      obtain ⟨⟨c0, c1⟩, ⟨d0, d1⟩, e0⟩ := hdoc.out _ hr
      have hx'' := Lib.hid hx'
      clear hop hM hM' hN3 ha bO hsm3 hga hown hok3 hx' hg3 hl300
      by_cases hk : c.kd = 1
      · have hxk := Lib.hid (show x' = x + 1 by have := hx''.out; rw [if_pos hk] at this; exact this)
        have bk : (c.kd == 1) = true := by simp [hk]
        clear hk
        go_wp2_with fail
        refine (CM1.out _ hr).mono ?_; rintro r w5 ⟨rfl, hg5⟩
        clear c0 c1 d0 d1 e0
        obtain ⟨⟨c0, c1⟩, ⟨d0, d1⟩, e0⟩ := hdoc.out _ hg5
        go_wp2_with fail
        refine (CM2.out _ hg5).mono ?_; rintro r w6 ⟨rfl, hg6⟩
        replace hg5 := grown_trans hg5 hg6
        clear c0 c1 d0 d1 e0
        obtain ⟨⟨c0, c1⟩, ⟨d0, d1⟩, e0⟩ := hdoc.out _ hg5
        have hwx : IntKind.i64.wrap (x + 1) = x + 1 := by rw [IntKind.wrap_i64]; omega
        have bx : (x' == x + 1) = true := by simp [hxk.out]
        clear hxk
        go_wp2_with fail
        go_ret
        exact ⟨rfl, grown_below (grown_trans hg0'.out (grown_trans hga'.out hg5))⟩
      · have hxk := Lib.hid (show x' = x by have := hx''.out; rw [if_neg hk] at this; exact this)
        have bk : (c.kd == 1) = false := by simpa using hk
        clear hk
        go_wp2_with fail
        refine (CM1.out _ hr).mono ?_; rintro r w5 ⟨rfl, hg5⟩
        clear c0 c1 d0 d1 e0
        obtain ⟨⟨c0, c1⟩, ⟨d0, d1⟩, e0⟩ := hdoc.out _ hg5
        go_wp2_with fail
        refine (CM2.out _ hg5).mono ?_; rintro r w6 ⟨rfl, hg6⟩
        replace hg5 := grown_trans hg5 hg6
        clear c0 c1 d0 d1 e0
        obtain ⟨⟨c0, c1⟩, ⟨d0, d1⟩, e0⟩ := hdoc.out _ hg5
        have hwx : IntKind.i64.wrap (x + 0) = x := by rw [IntKind.wrap_i64]; omega
        have hwx2 : IntKind.i64.wrap x = x := by rw [IntKind.wrap_i64]; omega
        have bx : (x' == x) = true := by simp [hxk.out]
        clear hxk
        go_wp2_with fail
        go_ret
        exact ⟨rfl, grown_below (grown_trans hg0'.out (grown_trans hga'.out hg5))⟩
end Go.Proofs.Ytjnbfgogmhfbiaa
