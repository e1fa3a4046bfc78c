/- Texts of the claim MutateOthers, joined (part 3). -/
import Derived.Test.YtjnbfgogmhfbiaaZMutateOthers2
/- MutateOthers: the walk. -/
namespace Go.Proofs.Ytjnbfgogmhfbiaa
open Go Go.RowKit
theorem Oth.cb {L L' : List (List Value)} {c : Chg} {f cnt : Nat → Nat} (h : Oth L L' c f cnt) : ∀ i, i ≤ L.length → cnt i ≤ i
  | 0, _ => by rw [h.c0]; exact Nat.le_refl _
  | i + 1, hi => by
    have h1 := h.cs i (by omega)
    have h2 := h.cb i (by omega)
    rw [h1]
    split <;> omega
theorem gone_known {L L' : List (List Value)} {x x' : Int} {c : Chg} (hL : ∀ y ∈ L, OkAll nodeLs y) (hS : Shape L x) (h : opL L x c = .ok (L', x')) : c.kd = 2 ∨ c.kd = 3 → 0 ≤ findI L c.key := by
  rintro (hk | hk)
  · have h2 : removeL L x c.key = .ok (L', x') := by
      unfold opL at h
      rw [if_neg (by omega), if_pos hk] at h
      exact h
    obtain ⟨u, m, T, hf, hc⟩ := removed_of hS h2
    omega
  · obtain ⟨u, m, g, v, k, T, R, hM⟩ := moved_of hL hS (move_op hk h)
    have := hM.fu
    omega
theorem ins_known {L L' : List (List Value)} {x x' : Int} {c : Chg} (hS' : Shape L' x') (hk : c.kd = 1) (h : opL L x c = .ok (L', x')) : ∃ g : Nat, g < L'.length ∧ findI L' x = g ∧ upK L' g = c.par ∧ kindN (nd L' g) = kindN c.y := by
  obtain ⟨g, v, q, z, hI, _⟩ := ins_of hk h
  have h1 := hI.len
  have h2 := hI.gb
  exact ⟨g, by omega, hI.find hS', hI.up, by rw [hI.mid, hI.kind]⟩
theorem exec_neqNode {ρ : Operand → Value} {o : Oper} {x y : Operand} {t : TypeId} (ho : o.op = .binOp .neq 32 x y t) (xs ys : List Value) (hx : ρ x = .agg xs.toArray) (hy : ρ y = .agg ys.toArray)
    (o1 : OkAll nodeLs xs) (o2 : OkAll nodeLs ys) (b : Bool) (hb : eqV xs ys = b) (w : World) : (execOp ρ o).run Try.prog w = .ok (.value (.bool (!b))) w := by
  subst hb
  unfold execOp
  simp only [ho, hx, hy, Sem.run_bind, run_guardNode, binOp, node_equal o1 o2 w, Result.andThen_ok, Sem.run_pure]
theorem node_style {w : World} {g : Nat} {y : List Value} (hr : Row w g 32 y.toArray) (h : OkAll nodeLs y) : (Instr.loadAt 30 (.pointer (some ⟨g, 3, none⟩))).run Try.prog w = .ok (.agg (styN y).toArray) w := by
  refine run_loadStyle w _ _ (styN_len h) fun k hk => ?_
  rw [Addr.add_lit, hr.at, List.getElem?_toArray]
  unfold styN
  rw [List.getElem?_take, if_pos hk, List.getElem?_drop]
theorem copy_eq {z M : List Value} {s : ByteArray} (hz : z.take 3 = M.take 3) (hM : OkAll nodeLs M) (hz1 : z.length = 51) (hs : M[50]? = some (.string s)) : (withSty z M).set 50 (.string s) = M := by
  have h1 := hM.len
  rw [nodeLs_len] at h1
  have h2 := styN_len hM
  have h3 : withSty z M = M.take 50 ++ z.drop 50 := by
    unfold withSty
    rw [hz]
    congr 1
    unfold styN
    have : M.take 50 = (M.take 3) ++ ((M.drop 3).take 47) := by
      conv => lhs; rw [← List.take_append_drop 3 M]
      rw [List.take_append, List.length_take, List.take_take, show min 50 3 = 3 by omega, show 50 - min 3 M.length = 47 by omega]
    exact this.symm
  rw [h3]
  apply List.ext_getElem?
  intro t
  rw [List.getElem?_set]
  by_cases ht : 50 = t
  · subst ht
    rw [if_pos rfl, if_pos (by simp; omega), hs]
  · rw [if_neg ht]
    by_cases h4 : t < 50
    · rw [List.getElem?_append_left (by simp; omega), List.getElem?_take, if_pos h4]
    · rw [List.getElem?_append_right (by simp; omega), List.getElem?_eq_none (by simp; omega), List.getElem?_eq_none (by omega)]
set_option maxRecDepth 100000 in
set_option maxHeartbeats 8000000 in
theorem MutateOthers_walk (w : World) (A : Option Addr) (n k : Nat) (L : List (List Value)) (x : Int) (_wx : (Lit.int .i64 x).wf = true) (R : IsNodes w A n k L) (cs : List Value) (ok : OkAll chgLs cs) :
    Calls Try.prog 4 #[.agg #[.slice A n k, .int .i64 x], .agg ⟨cs⟩] w fun e w' => e = .returned (.bool true) ∧ Below w.heap.size w w' := by
  obtain ⟨c, hc, hcs⟩ := chg_of ok
  rw [show (⟨cs⟩ : Array Value) = c.cells from hcs]
  have hnc := R.len_
  obtain ⟨W0, hW0, bD, rC, hg0⟩ := boxes2 w (.slice A n k) x c
  have CA := Lib.hid (awake_any W0)
  have hok := Lib.hid (fun y hy => (R.2.2.2.1 y hy).2)
  have hlen := Lib.hid R.1
  have hrd := Lib.hid (fun W (hg : w.grownBy W none) => (R.2.2.2.2.grown0 hg).more hg.size)
  have CG := Lib.hid (fun W (hg : w.grownBy W none) => great7_any A n k L x c W hok.out hlen.out (hrd.out W hg) (by omega) hc)
  have hc' := Lib.hid hc
  have hW0' := Lib.hid hW0
  have bD' := Lib.hid (fun W (hg : W0.grownBy W none) => bD.kept hg (by simp))
  have rC' := Lib.hid (fun W (hg : W0.grownBy W none) => rC.kept0 hg)
  have hg0' := Lib.hid hg0
  have hkb := hc.kd
  have hcz := Lib.hid (Chg.size hc)
  clear R hcs ok hW0 bD rC hg0 hc
  go_enter Try.func4, Try.ntmps4
  go_wp2_with fail
  rw [hW0'.out]
  refine CA.out.mono ?_; rintro r w1 ⟨rfl, hg⟩
  have c0 := (bD'.out _ hg).c0
  have c1 := (bD'.out _ hg).c1
  have rc := rC'.out _ hg
  go_wp2_with (refine wpList_row bigC rc hcz.out (x := .tmp 3) rfl (by kernel_rfl) (by kernel_rfl) ?_; simp only [Act.put, List.setIfInBounds_toArray, List.set_cons_zero, List.set_cons_succ])
  refine (CG.out _ (grown_trans hg0'.out hg)).mono ?_; rintro r w2 ⟨b, rfl, hb, hg2⟩
  replace hg := grown_trans hg hg2
  clear c0 c1 rc hg2 CA CG
  cases b with
  | true =>
    clear hb
    go_wp2_with fail
    go_ret
    exact ⟨rfl, grown_below (grown_trans hg0'.out hg)⟩
  | false =>
    obtain ⟨⟨hn, ht⟩, hy⟩ := hb rfl
    have hN := Lib.hid (fun W (hg : W0.grownBy W none) => show NodesAt W W.heap.size A n L from ⟨hok.out, hlen.out, hrd.out W (grown_trans hg0'.out hg), by omega⟩)
    have hsm := Lib.hid (fun i (hi : i < n) => show lenN (nd L i) ≤ 5000 from Nat.le_trans (total_mem _ (List.mem_of_getElem? (nd_get (by rw [hlen.out]; exact hi)))) ht)
    have CAp := Lib.hid (apply_any A n k x L c w2 (hN.out _ hg) hsm.out hc'.out hy)
    have c0 := (bD'.out _ hg).c0
    have c1 := (bD'.out _ hg).c1
    have rc := rC'.out _ hg
    clear hb ht hy
    go_wp2_with (refine wpList_row bigC rc hcz.out (x := .tmp 3) rfl (by kernel_rfl) (by kernel_rfl) ?_; simp only [Act.put, List.setIfInBounds_toArray, List.set_cons_zero, List.set_cons_succ])
    refine CAp.out.mono ?_; rintro r w3 ⟨⟨res, hap, hans⟩, hg3⟩
    replace hg := grown_trans hg hg3
    clear c0 c1 rc CAp hg3
    cases res with
    | error e =>
      have he0 := (applies_err hap).1
      have ha := World.grownBy_alloc w3 (.cells #[.slice none 0 0, .int .i64 0] 24) none
      have hga := grown_trans hg ha
      have b0 : (e != 0) = true := by simpa using he0
      obtain rfl : r = _ := hans
      clear hap ha he0
      go_wp2_with fail
      go_ret
      exact ⟨rfl, grown_below (grown_trans hg0'.out hga)⟩
    | ok v =>
      obtain ⟨L', x'⟩ := v
      obtain ⟨A3, n3, k3, hans, hown, hl3, hok3⟩ := hans
      subst hans
      obtain ⟨hM, hkd, hop, hM'⟩ := hap
      obtain ⟨_, hl300, _, _⟩ := hM'.facts
      have hN3 : NodesAt w3 w3.heap.size A3 n3 L' := ⟨hok3, hl3, hown.reads, by omega⟩
      obtain ⟨f, cnt, hO0⟩ := oth_of hok.out hM.1 hM'.1 hkd hop
      have hO := Lib.hid hO0
      have hcb := Lib.hid (fun i (hi : i ≤ n) => show cnt i ≤ i from hO0.cb i (by rw [hlen.out]; exact hi))
      have hgk := Lib.hid (gone_known hok.out hM.1 hop)
      have hins := Lib.hid (fun (hk : c.kd = 1) => ins_known hM'.1 hk hop)
      have hS' := Lib.hid hM'.1
      have ha := World.grownBy_alloc w3 (.cells #[.slice A3 n3 k3, .int .i64 x'] 24) none
      have D1 := DB.new (k := k3) (x := x') hN3
      have hga := grown_trans hg ha
      have D0 : DB (w3.alloc (.cells #[.slice A3 n3 k3, .int .i64 x'] 24)) w.heap.size A n k L x := ⟨bD'.out _ hga, hN.out _ hga⟩
      have rC1 := rC'.out _ hga
      have hga' := Lib.hid hga
      have hl3' := Lib.hid hl3
      have hok3' := Lib.hid hok3
      obtain ⟨pd, hpd⟩ : ∃ pd, pd = w3.heap.size := ⟨_, rfl⟩
      obtain ⟨p0, hp0⟩ : ∃ p0, p0 = w.heap.size := ⟨_, rfl⟩
      obtain ⟨pc, hpc⟩ : ∃ pc, pc = w.heap.size + 1 := ⟨_, rfl⟩
      clear hop hM hM' hN3 ha hga hown hok3 hl3 hsm hO0 hkd
      go_upto_region 10 with fail
      generalize w3.alloc (.cells #[.slice A3 n3 k3, .int .i64 x'] 24) = W1 at *
      rw [← hpd] at D1 ⊢
      rw [← hpc] at rC1 ⊢
      rw [← hp0] at D0 ⊢
      clear hpd hpc hp0
      have HB := Lib.hid (fun W (hg : W1.grownBy W none) => show ((W.cell? ⟨p0, 0, none⟩ = some (.slice A n k) ∧ W.cell? ⟨p0, 1, none⟩ = some (.int .i64 x)) ∧ W.cell? ⟨pd, 0, none⟩ = some (.slice A3 n3 k3) ∧ W.cell? ⟨pd, 1, none⟩ = some (.int .i64 x')) ∧ W.cell? ⟨pc, 0, none⟩ = some (.int .u8 c.kd) ∧ W.cell? ⟨pc, 1, none⟩ = some (.int .i64 c.key) ∧ W.cell? ⟨pc, 2, none⟩ = some (.int .i64 c.par) ∧ W.cell? ⟨pc, 6, none⟩ = some (.int .u8 (kindN c.y)) from
        ⟨⟨(D0.grow hg).cells, (D1.grow hg).cells⟩, ((rC1.kept0 hg).at 0).trans Chg.c0, ((rC1.kept0 hg).at 1).trans Chg.c1, ((rC1.kept0 hg).at 2).trans Chg.c2, ((rC1.kept0 hg).at 6).trans ((Chg.cy 2).trans (n_kind hc'.out.y).1)⟩)
      have rC2 := Lib.hid (fun W (hg : W1.grownBy W none) => rC1.kept0 hg)
      have D0' := Lib.hid D0
      have D1' := Lib.hid D1
      have hCF := Lib.hid (fun W key (hg : W1.grownBy W none) => dfind_any A3 n3 k3 L' x' key W ((D1'.out.grow hg).nodes))
      clear D0 D1 rC1
      go_loopw [7, 8, 9] (fun la mn i wr => ∃ j : Nat, j ≤ n ∧ i = .int .i64 (j : Int) ∧ mn = .int .i64 (cnt j : Int) ∧ (∃ l : Int, la = .int .i64 l ∧ -1 ≤ l ∧ Hid (∀ q, j ≤ q → q < n → goneB L c q = false → l < (f q : Int))) ∧ W1.grownBy wr none) (fun _ _ i _ => n - (intOf i).toNat)
      case atStart => exact ⟨0, by omega, rfl, by rw [hO.out.c0]; rfl, ⟨-1, rfl, by omega, Lib.hid (fun q _ _ _ => by omega)⟩, World.grownBy.refl _ _⟩
      case round =>
        obtain ⟨j, hj, rfl, rfl, ⟨l, rfl, hl0, hla⟩, hgr⟩ := hrel
        obtain ⟨wo, rfl⟩ : ∃ wo : World, wo = wr := ⟨_, rfl⟩
        obtain ⟨⟨⟨c0, c1⟩, c2, c3⟩, e0, e1, e2, e6⟩ := HB.out _ hgr
        have hcj := hcb.out j hj
        by_cases hlt : j < n
        · obtain ⟨ad, hA, _⟩ := ((D0'.out.grow hgr).nodes).some_ hlt
          subst hA
          have hld := Lib.hid (((D0'.out.grow hgr).nodes).load hlt)
          have hokj := Lib.hid (((D0'.out.grow hgr).nodes).nd_ok hlt)
          have hlj := Lib.hid (show (nd L j).length = 51 from by have := hokj.out.len; rw [nodeLs_len] at this; exact this)
          have hsz := Lib.hid (show (nd L j).toArray.size = 51 by rw [List.size_toArray]; exact hlj.out)
          have hone := Lib.hid (okAll_one hokj.out)
          have i1 : (0 : Int) ≤ (j : Int) := by omega
          have i2 : (j : Int) < (n : Int) := by omega
          go_upto_region 13 with (first
            | (refine wpList_value_w rfl (exec_load rfl rfl hld.out) ?_; simp only [Act.put, List.setIfInBounds_toArray, List.set_cons_zero, List.set_cons_succ])
            | (refine wpList_fresh bigN rfl rfl rfl rfl _ _ rfl (nd L j).toArray hsz.out (by have := hone.out; simpa using this) rfl rfl ?_; intro W2 hg2 hr2; simp only [Act.put, List.setIfInBounds_toArray, List.set_cons_zero, List.set_cons_succ]))
          clear c0 c1 c2 c3 e0 e1 e2 e6 hld
          obtain ⟨pn, hpn⟩ : ∃ pn, pn = wo.heap.size := ⟨_, rfl⟩
          rw [← hpn] at hr2 ⊢
          have hpnb := Lib.hid (show W1.heap.size ≤ pn by rw [hpn]; exact hgr.size)
          replace hgr := grown_trans hgr hg2
          have hpn2 := Lib.hid hr2.lt
          clear hpn hg2
          obtain ⟨⟨⟨c0, c1⟩, c2, c3⟩, e0, e1, e2, e6⟩ := HB.out _ hgr
          have z0 := (row_node hr2 hokj.out).1
          obtain ⟨F, hF⟩ : ∃ F, F = findI L' (keyN (nd L j)) := ⟨_, rfl⟩
          have CF0 := hCF.out W2 (keyN (nd L j)) hgr
          rw [← hF] at CF0
          have CF := Lib.hid CF0
          have hF' := Lib.hid hF
          obtain ⟨kj, hkj⟩ : ∃ kj, kj = keyN (nd L j) := ⟨_, rfl⟩
          rw [← hkj] at CF z0
          have hkj' := Lib.hid hkj
          clear CF0 hF hkj
          go_wp2_with fail
          refine CF.out.mono ?_; rintro r w4 ⟨rfl, hgq⟩
          replace hgr := grown_trans hgr hgq
          replace hr2 := hr2.kept0 hgq
          have hpn3 := Lib.hid (Nat.lt_of_lt_of_le hpn2.out hgq.size)
          clear c0 c1 c2 c3 e0 e1 e2 e6 z0 CF hgq hpn2
          obtain ⟨⟨⟨c0, c1⟩, c2, c3⟩, e0, e1, e2, e6⟩ := HB.out _ hgr
          have rc := rC2.out _ hgr
          have CG1 := gone_any (some ad) n k x j L c w4 ((D0'.out.grow hgr).nodes) hc'.out hlt hgk.out
          have hcs0 := hO.out.cs j (by rw [hlen.out]; exact hlt)
          cases hgq : goneB L c j with
          | true =>
            rw [hgq] at CG1 hcs0
            have CG1' := Lib.hid CG1
            have hla' := Lib.hid (fun q (h1 : j + 1 ≤ q) (h2 : q < n) (h3 : goneB L c q = false) => hla.out q (by omega) h2 h3)
            have hgq' := Lib.hid hgq
            clear CG1 hgq
            go_wp2_with (refine wpList_row bigC rc hcz.out (x := .tmp 3) rfl (by kernel_rfl) (by kernel_rfl) ?_; simp only [Act.put, List.setIfInBounds_toArray, List.set_cons_zero, List.set_cons_succ])
            refine CG1'.out.mono ?_; rintro r w5 ⟨rfl, hg5⟩
            replace hgr := grown_trans hgr hg5
            clear c0 c1 c2 c3 e0 e1 e2 e6 rc CG1' hg5 hr2
            obtain ⟨⟨⟨c0, c1⟩, c2, c3⟩, e0, e1, e2, e6⟩ := HB.out _ hgr
            by_cases hk2 : c.kd = 2
            · have hFn : F < 0 := by rw [hF'.out]; exact hO.out.dead hk2 j (by rw [hlen.out]; exact hlt) hgq'.out
              have d0 : decide (F < 0) = true := decide_eq_true hFn
              have d1 : decide (0 ≤ F) = false := decide_eq_false (by omega)
              have b2 : (c.kd == 2) = true := by simp [hk2]
              rw [if_pos ⟨by simp, hk2⟩] at hcs0
              have hcs := Lib.hid hcs0
              clear hk2 hFn hcs0
              go_wp2_with fail
              exact ⟨⟨j + 1, by omega, by go_num, by rw [hcs.out]; rfl, ⟨l, rfl, hl0, hla'⟩, hgr⟩, by simp [intOf]; omega⟩
            · have hFp : 0 ≤ F := by rw [hF'.out]; exact hO.out.live hk2 j (by rw [hlen.out]; exact hlt) hgq'.out
              have d0 : decide (F < 0) = false := decide_eq_false (by omega)
              have d1 : decide (0 ≤ F) = true := decide_eq_true hFp
              have b2 : (c.kd == 2) = false := by simp [hk2]
              rw [if_neg (fun e => hk2 e.2)] at hcs0
              have hcs := Lib.hid hcs0
              have hwm : IntKind.i64.wrap ((cnt j : Int) + 1) = (cnt j : Int) + 1 := by rw [IntKind.wrap_i64]; omega
              clear hk2 hFp hcs0
              go_wp2_with fail
              exact ⟨⟨j + 1, by omega, by go_num, by rw [hcs.out]; go_num, ⟨l, rfl, hl0, hla'⟩, hgr⟩, by simp [intOf]; omega⟩
          | false =>
            rw [hgq] at CG1 hcs0
            rw [if_neg (fun e => by cases e.1)] at hcs0
            have hcs := Lib.hid hcs0
            have CG1' := Lib.hid CG1
            have hjl : j < L.length := by rw [hlen.out]; exact hlt
            have hfl := hO.out.lt j hjl hgq
            have hFf : F = (f j : Int) := by
              rw [hF'.out, ← hO.out.key j hjl hgq]
              exact find_key hS'.out hfl
            subst hFf
            rw [hl3'.out] at hfl
            have hla' := Lib.hid (Lib.hid (fun q (h1 : j + 1 ≤ q) (h2 : q < n) (h3 : goneB L c q = false) => show (f j : Int) < (f q : Int) from by
              have := hO.out.mono j q (by omega) (by rw [hlen.out]; exact h2) hgq h3
              omega))
            have hlaj := hla.out j (Nat.le_refl _) hlt hgq
            have hup := hO.out.up j hjl hgq
            have hnode := Lib.hid (hO.out.node j hjl hgq)
            have hthree := Lib.hid (hO.out.three j hjl hgq)
            obtain ⟨ku, hku⟩ : ∃ ku, ku = upK L j := ⟨_, rfl⟩
            have CU1 := Lib.hid (fun W (hg : W1.grownBy W none) => show Calls Try.prog 14 #[.agg #[.slice A3 n3 k3, .int .i64 x'], .int .i64 (f j : Int)] W fun e w' => e = .returned (.int .i64 ku) ∧ W.grownBy w' none from by
              have := up_any A3 n3 k3 x' (f j) L' W ((D1'.out.grow hg).nodes) hfl
              rw [hup, ← hku] at this
              exact this)
            have CU2 := Lib.hid (fun W (hg : W1.grownBy W none) => show Calls Try.prog 14 #[.agg #[.slice (some ad) n k, .int .i64 x], .int .i64 (j : Int)] W fun e w' => e = .returned (.int .i64 ku) ∧ W.grownBy w' none from by
              have := up_any (some ad) n k x j L W ((D0'.out.grow hg).nodes) hlt
              rw [← hku] at this
              exact this)
            clear CG1 hgq hcs0 hku hup hla hF'
            go_wp2_with (refine wpList_row bigC rc hcz.out (x := .tmp 3) rfl (by kernel_rfl) (by kernel_rfl) ?_; simp only [Act.put, List.setIfInBounds_toArray, List.set_cons_zero, List.set_cons_succ])
            refine CG1'.out.mono ?_; rintro r w5 ⟨rfl, hg5⟩
            replace hgr := grown_trans hgr hg5
            replace hr2 := hr2.kept0 hg5
            have hpn4 := Lib.hid (Nat.lt_of_lt_of_le hpn3.out hg5.size)
            clear c0 c1 c2 c3 e0 e1 e2 e6 rc CG1' hg5 hpn3
            obtain ⟨⟨⟨c0, c1⟩, c2, c3⟩, e0, e1, e2, e6⟩ := HB.out _ hgr
            obtain ⟨ad3, hA3, _⟩ := ((D1'.out.grow hgr).nodes).some_ hfl
            subst hA3
            have hldm := Lib.hid (((D1'.out.grow hgr).nodes).load hfl)
            have hokm := Lib.hid (((D1'.out.grow hgr).nodes).nd_ok hfl)
            have hszm := Lib.hid (show (nd L' (f j)).toArray.size = 51 by rw [List.size_toArray]; exact hokm.out.len)
            have honem := Lib.hid (okAll_one hokm.out)
            have i3 : (0 : Int) ≤ (f j : Int) := by omega
            have i4 : (f j : Int) < (n3 : Int) := by omega
            have d0 : decide ((f j : Int) < 0) = false := decide_eq_false (by omega)
            have d2 : decide ((f j : Int) ≤ l) = false := decide_eq_false (by omega)
            have hwm : IntKind.i64.wrap ((cnt j : Int) + 1) = (cnt j : Int) + 1 := by rw [IntKind.wrap_i64]; omega
            have hrow := Lib.hid (fun W (hg : w5.grownBy W none) => hr2.kept0 hg)
            clear hr2 hlaj
            go_upto_region 24 with (first
              | (refine wpList_value_w rfl (exec_load rfl rfl hldm.out) ?_; simp only [Act.put, List.setIfInBounds_toArray, List.set_cons_zero, List.set_cons_succ])
              | (refine wpList_fresh bigN rfl rfl rfl rfl _ _ rfl (nd L' (f j)).toArray hszm.out (by have := honem.out; simpa using this) rfl rfl ?_; intro W5 hg5 hr5; simp only [Act.put, List.setIfInBounds_toArray, List.set_cons_zero, List.set_cons_succ]))
            clear c0 c1 c2 c3 e0 e1 e2 e6 hldm
            obtain ⟨pm, hpm⟩ : ∃ pm, pm = w5.heap.size := ⟨_, rfl⟩
            rw [← hpm] at hr5 ⊢
            have hne := Lib.hid (show pm ≠ pn by have := hpn4.out; omega)
            have hrn0 := hrow.out _ hg5
            have hrm := hr5
            replace hg5 := grown_trans hgr hg5
            clear hpm hr5 hgr hrow
            obtain ⟨⟨⟨c0, c1⟩, c2, c3⟩, e0, e1, e2, e6⟩ := HB.out _ hg5
            have z0 := (row_node hrn0 hokj.out).1
            rw [← hkj'.out] at z0
            rcases (by omega : c.kd = 4 ∨ c.kd = 5 ∨ (c.kd ≠ 4 ∧ c.kd ≠ 5)) with hk4 | hk5 | ⟨hk4, hk5⟩
            · have b4 : (c.kd == 4) = true := by simp [hk4]
              by_cases hkk : kj = c.key
              · have bk : (kj == c.key) = true := by simp [hkk]
                have h3 := Lib.hid (hthree.out (⟨.inl hk4, by rw [← hkk, hkj'.out]⟩))
                obtain ⟨s, hs0, _⟩ := okAll_text hokm.out
                have hs1 := Lib.hid hs0
                clear hs0
                go_upto_region 25 with fail
                clear c0 c1 c2 c3 e0 e1 e2 e6 z0
                have hS25 : W1.grownBy W5.drew none ∧ Row W5.drew pm 32 (nd L' (f j)).toArray := ⟨grown_drew hg5, hrm.kept0 (grown_drew (World.grownBy.refl _ none))⟩
                refine wp_region_held (S := fun V => W1.grownBy V none ∧ Row V pm 32 (nd L' (f j)).toArray) (by kernel_rfl) ?_
                have hr5 := hrn0.kept0 (grown_drew (World.grownBy.refl W5 none))
                change wpAnyH _ _ _ _ _ _ _ _ W5.drew
                generalize W5.drew = Wd at *
                refine wpAnyH_take (i := 0) (v := .pointer (some ⟨pm, 3, none⟩)) rfl (by kernel_rfl) (by kernel_rfl) (by kernel_rfl) (fun _ _ _ h => h) (Or.inl ⟨by kernel_rfl, fun V _ => by kernel_rfl⟩) hS25 ?_
                simp only [Act.put, List.getElem_toArray, List.getElem_cons_succ, List.getElem_cons_zero, List.setIfInBounds_toArray, List.set_cons_zero, List.set_cons_succ]
                refine wpAnyH_take (i := 1) (v := .agg (styN (nd L' (f j))).toArray) rfl (by kernel_rfl) (by kernel_rfl) (by kernel_rfl) (fun _ _ _ h => h) (Or.inl ⟨by kernel_rfl, fun V hV => exec_load rfl (by kernel_rfl) (node_style hV.2 hokm.out)⟩) hS25 ?_
                simp only [Act.put, List.getElem_toArray, List.getElem_cons_succ, List.getElem_cons_zero, List.setIfInBounds_toArray, List.set_cons_zero, List.set_cons_succ]
                refine wpAnyH_take (i := 2) (v := .pointer (some ⟨pm, 50, none⟩)) rfl (by kernel_rfl) (by kernel_rfl) (by kernel_rfl) (fun _ _ _ h => h) (Or.inl ⟨by kernel_rfl, fun V _ => by kernel_rfl⟩) hS25 ?_
                simp only [Act.put, List.getElem_toArray, List.getElem_cons_succ, List.getElem_cons_zero, List.setIfInBounds_toArray, List.set_cons_zero, List.set_cons_succ]
                refine wpAnyH_take (i := 3) (v := .string s) rfl (by kernel_rfl) (by kernel_rfl) (by kernel_rfl) (fun _ _ _ h => h) (Or.inl ⟨by kernel_rfl, fun V hV => by have z : V.cell? ⟨pm, 50, none⟩ = some (.string s) := (hV.2.at 50).trans (by rw [List.getElem?_toArray]; exact hs1.out); go_simp⟩) hS25 ?_
                simp only [Act.put, List.getElem_toArray, List.getElem_cons_succ, List.getElem_cons_zero, List.setIfInBounds_toArray, List.set_cons_zero, List.set_cons_succ]
                refine wpAnyH_take (i := 4) (v := .pointer (some ⟨pn, 3, none⟩)) rfl (by kernel_rfl) (by kernel_rfl) (by kernel_rfl) (fun _ _ _ h => h) (Or.inl ⟨by kernel_rfl, fun V _ => by kernel_rfl⟩) hS25 ?_
                simp only [Act.put, List.getElem_toArray, List.getElem_cons_succ, List.getElem_cons_zero, List.setIfInBounds_toArray, List.set_cons_zero, List.set_cons_succ]
                have hr6 : Row (Wd.setCells pn 3 (styN (nd L' (f j)))) pn 32 (withSty (nd L j) (nd L' (f j))).toArray := by
                  have h1 := hr5.setCells (styN (nd L' (f j))) 3
                  rw [layL_sty _ _ hlj.out (styN_len hokm.out)] at h1
                  exact h1
                have hS26 : W1.grownBy (Wd.setCells pn 3 (styN (nd L' (f j)))) none ∧ Row (Wd.setCells pn 3 (styN (nd L' (f j)))) pm 32 (nd L' (f j)).toArray := ⟨grown_new hS25.1 (grownBy_setCells _ 3 _) (fun g e => by cases e; exact hpnb.out), hS25.2.kept (grownBy_setCells _ 3 _) (fun e => hne.out (by cases e; rfl))⟩
                refine wpAnyH_store_many (T := 30) (g := pn) (off := 3) (ds := styN (nd L' (f j))) 5 (.tmp 87) (.tmp 84) (by kernel_rfl) (by kernel_rfl) rfl rfl (by rw [styN_len hokm.out]; exact infoSty) (okAll_one (styN_ok hokm.out)) (fun t ht => by
                  rw [styN_len hokm.out] at ht
                  rw [hr5.at, List.getElem?_toArray, List.getElem?_eq_getElem (by rw [hlj.out]; omega)]
                  rfl) (fun t ht => hr5.free _) hS26 ?_
                generalize Wd.setCells pn 3 (styN (nd L' (f j))) = W6 at *
                refine wpAnyH_take (i := 6) (v := .pointer (some ⟨pn, 50, none⟩)) rfl (by kernel_rfl) (by kernel_rfl) (by kernel_rfl) (fun _ _ _ h => h) (Or.inl ⟨by kernel_rfl, fun V _ => by kernel_rfl⟩) hS26 ?_
                try simp only [Act.put, List.getElem_toArray, List.getElem_cons_succ, List.getElem_cons_zero, List.setIfInBounds_toArray, List.set_cons_zero, List.set_cons_succ]
                have hrz : Row (W6.setCell ⟨pn, 50, none⟩ (.string s)) pn 32 (nd L' (f j)).toArray := by
                  have h1 := hr6.set 50 (.string s)
                  rw [List.setIfInBounds_toArray, copy_eq (h3.out.symm) hokm.out hlj.out hs1.out] at h1
                  exact h1
                have hgw := grown_new hS26.1 (grownBy_setCell W6 pn 50 (.string s)) (fun g e => by cases e; exact hpnb.out)
                have hrm6 : Row (W6.setCell ⟨pn, 50, none⟩ (.string s)) pm 32 (nd L' (f j)).toArray := hS26.2.kept (grownBy_setCell W6 pn 50 (.string s)) (fun e => hne.out (by cases e; rfl))
                have z50 : ∃ v, W6.cell? ⟨pn, 50, none⟩ = some v := ⟨_, (hr6.at 50).trans (by rw [List.getElem?_toArray, List.getElem?_eq_getElem (by unfold withSty; rw [List.length_append, List.length_append, styN_len hokm.out, List.length_take, List.length_drop, hlj.out]; omega)])⟩
                obtain ⟨v50, z50⟩ := z50
                have f50 := hr6.free 50
                have hrz' := Lib.hid hrz
                have hgw' := Lib.hid hgw
                have hrm6' := Lib.hid hrm6
                clear hrz hgw hrm6 hr6 hr5 hS25 hS26
                refine wpAnyH_ready (rs := [7]) (by kernel_rfl) (by simp) ?_
                refine AllReadyH.cons rfl (fun K hK => ?_) AllReadyH.nil
                go_simp
                refine hK.out _ _ ⟨hgw'.out, hrm6'.out⟩ (fun _ => ?_)
                clear hK K
                refine wpAnyH_done (by kernel_rfl) ?_ _
                have hrn := hrz'.out
                have hgx := hgw'.out
                have hrm := hrm6'.out
                clear hrz' hgw' hrm6' z50 f50 hg5 hrn0
                generalize W6.setCell ⟨pn, 50, none⟩ (.string s) = W7 at *
                go_upto_region 26 with fail
                have hS26 : (W1.grownBy W7.drew none ∧ Row W7.drew pm 32 (nd L' (f j)).toArray) ∧ Row W7.drew pn 32 (nd L' (f j)).toArray := ⟨⟨grown_drew hgx, hrm.kept0 (grown_drew (World.grownBy.refl _ none))⟩, hrn.kept0 (grown_drew (World.grownBy.refl _ none))⟩
                refine wp_region_held (S := fun V => (W1.grownBy V none ∧ Row V pm 32 (nd L' (f j)).toArray) ∧ Row V pn 32 (nd L' (f j)).toArray) (by kernel_rfl) ?_
                refine wpAnyH_take (i := 0) (v := .agg (nd L' (f j)).toArray) rfl (by kernel_rfl) (by kernel_rfl) (by kernel_rfl) (fun _ _ _ h => h) (Or.inl ⟨by kernel_rfl, fun V hV => exec_load_row bigN (x := .tmp 12) rfl (by kernel_rfl) V hV.1.2 (by rw [List.size_toArray]; exact hokm.out.len)⟩) hS26 ?_
                simp only [Act.put, List.getElem_toArray, List.getElem_cons_succ, List.getElem_cons_zero, List.setIfInBounds_toArray, List.set_cons_zero, List.set_cons_succ]
                refine wpAnyH_take (i := 1) (v := .agg (nd L' (f j)).toArray) rfl (by kernel_rfl) (by kernel_rfl) (by kernel_rfl) (fun _ _ _ h => h) (Or.inl ⟨by kernel_rfl, fun V hV => exec_load_row bigN (x := .tmp 10) rfl (by kernel_rfl) V hV.2 (by rw [List.size_toArray]; exact hokm.out.len)⟩) hS26 ?_
                simp only [Act.put, List.getElem_toArray, List.getElem_cons_succ, List.getElem_cons_zero, List.setIfInBounds_toArray, List.set_cons_zero, List.set_cons_succ]
                refine wpAnyH_take (i := 2) (v := .bool false) rfl (by kernel_rfl) (by kernel_rfl) (by kernel_rfl) (fun _ _ _ h => h) (Or.inl ⟨by kernel_rfl, fun V hV => exec_neqNode (b := true) rfl (nd L' (f j)) (nd L' (f j)) (by kernel_rfl) (by kernel_rfl) hokm.out hokm.out (eqV_self hokm.out) V⟩) hS26 ?_
                simp only [Act.put, List.getElem_toArray, List.getElem_cons_succ, List.getElem_cons_zero, List.setIfInBounds_toArray, List.set_cons_zero, List.set_cons_succ]
                refine wpAnyH_take (i := 3) (v := .bool false) rfl (by kernel_rfl) (by kernel_rfl) (by kernel_rfl) (fun _ _ _ h => h) (Or.inl ⟨by kernel_rfl, fun V _ => by kernel_rfl⟩) hS26 ?_
                simp only [Act.put, List.getElem_toArray, List.getElem_cons_succ, List.getElem_cons_zero, List.setIfInBounds_toArray, List.set_cons_zero, List.set_cons_succ]
                refine wpAnyH_take (i := 4) (v := .agg #[.slice (some ad3) n3 k3, .int .i64 x']) rfl (by kernel_rfl) (by kernel_rfl) (by kernel_rfl) (fun _ _ _ h => h) (Or.inl ⟨by kernel_rfl, fun V hV => by obtain ⟨⟨⟨c0, c1⟩, c2, c3⟩, e0, e1, e2, e6⟩ := HB.out _ hV.1.1; go_simp⟩) hS26 ?_
                simp only [Act.put, List.getElem_toArray, List.getElem_cons_succ, List.getElem_cons_zero, List.setIfInBounds_toArray, List.set_cons_zero, List.set_cons_succ]
                refine wpAnyH_take (i := 5) (v := .int .i64 (f j : Int)) rfl (by kernel_rfl) (by kernel_rfl) (by kernel_rfl) (fun _ _ _ h => h) (Or.inl ⟨by kernel_rfl, fun V _ => by kernel_rfl⟩) hS26 ?_
                simp only [Act.put, List.getElem_toArray, List.getElem_cons_succ, List.getElem_cons_zero, List.setIfInBounds_toArray, List.set_cons_zero, List.set_cons_succ]
                refine wpAnyH_take (i := 7) (v := .agg #[.slice (some ad) n k, .int .i64 x]) rfl (by kernel_rfl) (by kernel_rfl) (by kernel_rfl) (fun _ _ _ h => h) (Or.inl ⟨by kernel_rfl, fun V hV => by obtain ⟨⟨⟨c0, c1⟩, c2, c3⟩, e0, e1, e2, e6⟩ := HB.out _ hV.1.1; go_simp⟩) hS26 ?_
                simp only [Act.put, List.getElem_toArray, List.getElem_cons_succ, List.getElem_cons_zero, List.setIfInBounds_toArray, List.set_cons_zero, List.set_cons_succ]
                refine wpAnyH_take (i := 8) (v := .int .i64 (j : Int)) rfl (by kernel_rfl) (by kernel_rfl) (by kernel_rfl) (fun _ _ _ h => h) (Or.inl ⟨by kernel_rfl, fun V _ => by kernel_rfl⟩) hS26 ?_
                simp only [Act.put, List.getElem_toArray, List.getElem_cons_succ, List.getElem_cons_zero, List.setIfInBounds_toArray, List.set_cons_zero, List.set_cons_succ]
                refine wpAnyH_ready (rs := [6]) (by kernel_rfl) (by simp) ?_
                refine AllReadyH.cons rfl (fun K hK => ?_) AllReadyH.nil
                go_simp
                refine (CU1.out _ hS26.1.1).mono ?_; rintro r w7 ⟨rfl, hgq⟩
                have hS27 : (W1.grownBy w7 none ∧ Row w7 pm 32 (nd L' (f j)).toArray) ∧ Row w7 pn 32 (nd L' (f j)).toArray := ⟨⟨grown_trans hS26.1.1 hgq, hS26.1.2.kept0 hgq⟩, hS26.2.kept0 hgq⟩
                refine hK.out _ _ hS27 (fun _ => ?_)
                clear hK K hgq
                refine wpAnyH_ready (rs := [9]) (by kernel_rfl) (by simp) ?_
                refine AllReadyH.cons rfl (fun K hK => ?_) AllReadyH.nil
                go_simp
                refine (CU2.out _ hS27.1.1).mono ?_; rintro r w8 ⟨rfl, hgq⟩
                have hS28 : (W1.grownBy w8 none ∧ Row w8 pm 32 (nd L' (f j)).toArray) ∧ Row w8 pn 32 (nd L' (f j)).toArray := ⟨⟨grown_trans hS27.1.1 hgq, hS27.1.2.kept0 hgq⟩, hS27.2.kept0 hgq⟩
                refine hK.out _ _ hS28 (fun _ => ?_)
                clear hK K hgq
                have bku : (ku != ku) = false := by simp
                refine wpAnyH_take (i := 10) (v := .bool false) rfl (by kernel_rfl) (by kernel_rfl) (by kernel_rfl) (fun _ _ _ h => h) (Or.inl ⟨by kernel_rfl, fun V hV => by go_simp⟩) hS28 ?_
                try simp only [Act.put, List.getElem_toArray, List.getElem_cons_succ, List.getElem_cons_zero, List.setIfInBounds_toArray, List.set_cons_zero, List.set_cons_succ]
                refine wpAnyH_take (i := 11) (v := .bool false) rfl (by kernel_rfl) (by kernel_rfl) (by kernel_rfl) (fun _ _ _ h => h) (Or.inl ⟨by kernel_rfl, fun V _ => by kernel_rfl⟩) hS28 ?_
                simp only [Act.put, List.getElem_toArray, List.getElem_cons_succ, List.getElem_cons_zero, List.setIfInBounds_toArray, List.set_cons_zero, List.set_cons_succ]
                refine wpAnyH_done (by kernel_rfl) ?_ _
                have hgr8 := hS28.1.1
                clear hS26 hS27 hS28 bku hrn hrm hgx
                go_wp2_with fail
                exact ⟨⟨j + 1, by omega, by go_num, by rw [hcs.out]; go_num, ⟨f j, rfl, by omega, hla'.out⟩, hgr8⟩, by simp [intOf]; omega⟩
              · have bk : (kj == c.key) = false := by simp [hkk]
                have hrn := hrn0
                rw [← hnode.out (fun e => hkk (by rw [hkj'.out]; exact e.2))] at hrn
                have hgx := hg5
                clear hrn0 hg5
                go_upto_region 26 with fail
                clear c0 c1 c2 c3 e0 e1 e2 e6 z0
                have hS26 : (W1.grownBy W5.drew none ∧ Row W5.drew pm 32 (nd L' (f j)).toArray) ∧ Row W5.drew pn 32 (nd L' (f j)).toArray := ⟨⟨grown_drew hgx, hrm.kept0 (grown_drew (World.grownBy.refl _ none))⟩, hrn.kept0 (grown_drew (World.grownBy.refl _ none))⟩
                refine wp_region_held (S := fun V => (W1.grownBy V none ∧ Row V pm 32 (nd L' (f j)).toArray) ∧ Row V pn 32 (nd L' (f j)).toArray) (by kernel_rfl) ?_
                refine wpAnyH_take (i := 0) (v := .agg (nd L' (f j)).toArray) rfl (by kernel_rfl) (by kernel_rfl) (by kernel_rfl) (fun _ _ _ h => h) (Or.inl ⟨by kernel_rfl, fun V hV => exec_load_row bigN (x := .tmp 12) rfl (by kernel_rfl) V hV.1.2 (by rw [List.size_toArray]; exact hokm.out.len)⟩) hS26 ?_
                simp only [Act.put, List.getElem_toArray, List.getElem_cons_succ, List.getElem_cons_zero, List.setIfInBounds_toArray, List.set_cons_zero, List.set_cons_succ]
                refine wpAnyH_take (i := 1) (v := .agg (nd L' (f j)).toArray) rfl (by kernel_rfl) (by kernel_rfl) (by kernel_rfl) (fun _ _ _ h => h) (Or.inl ⟨by kernel_rfl, fun V hV => exec_load_row bigN (x := .tmp 10) rfl (by kernel_rfl) V hV.2 (by rw [List.size_toArray]; exact hokm.out.len)⟩) hS26 ?_
                simp only [Act.put, List.getElem_toArray, List.getElem_cons_succ, List.getElem_cons_zero, List.setIfInBounds_toArray, List.set_cons_zero, List.set_cons_succ]
                refine wpAnyH_take (i := 2) (v := .bool false) rfl (by kernel_rfl) (by kernel_rfl) (by kernel_rfl) (fun _ _ _ h => h) (Or.inl ⟨by kernel_rfl, fun V hV => exec_neqNode (b := true) rfl (nd L' (f j)) (nd L' (f j)) (by kernel_rfl) (by kernel_rfl) hokm.out hokm.out (eqV_self hokm.out) V⟩) hS26 ?_
                simp only [Act.put, List.getElem_toArray, List.getElem_cons_succ, List.getElem_cons_zero, List.setIfInBounds_toArray, List.set_cons_zero, List.set_cons_succ]
                refine wpAnyH_take (i := 3) (v := .bool false) rfl (by kernel_rfl) (by kernel_rfl) (by kernel_rfl) (fun _ _ _ h => h) (Or.inl ⟨by kernel_rfl, fun V _ => by kernel_rfl⟩) hS26 ?_
                simp only [Act.put, List.getElem_toArray, List.getElem_cons_succ, List.getElem_cons_zero, List.setIfInBounds_toArray, List.set_cons_zero, List.set_cons_succ]
                refine wpAnyH_take (i := 4) (v := .agg #[.slice (some ad3) n3 k3, .int .i64 x']) rfl (by kernel_rfl) (by kernel_rfl) (by kernel_rfl) (fun _ _ _ h => h) (Or.inl ⟨by kernel_rfl, fun V hV => by obtain ⟨⟨⟨c0, c1⟩, c2, c3⟩, e0, e1, e2, e6⟩ := HB.out _ hV.1.1; go_simp⟩) hS26 ?_
                simp only [Act.put, List.getElem_toArray, List.getElem_cons_succ, List.getElem_cons_zero, List.setIfInBounds_toArray, List.set_cons_zero, List.set_cons_succ]
                refine wpAnyH_take (i := 5) (v := .int .i64 (f j : Int)) rfl (by kernel_rfl) (by kernel_rfl) (by kernel_rfl) (fun _ _ _ h => h) (Or.inl ⟨by kernel_rfl, fun V _ => by kernel_rfl⟩) hS26 ?_
                simp only [Act.put, List.getElem_toArray, List.getElem_cons_succ, List.getElem_cons_zero, List.setIfInBounds_toArray, List.set_cons_zero, List.set_cons_succ]
                refine wpAnyH_take (i := 7) (v := .agg #[.slice (some ad) n k, .int .i64 x]) rfl (by kernel_rfl) (by kernel_rfl) (by kernel_rfl) (fun _ _ _ h => h) (Or.inl ⟨by kernel_rfl, fun V hV => by obtain ⟨⟨⟨c0, c1⟩, c2, c3⟩, e0, e1, e2, e6⟩ := HB.out _ hV.1.1; go_simp⟩) hS26 ?_
                simp only [Act.put, List.getElem_toArray, List.getElem_cons_succ, List.getElem_cons_zero, List.setIfInBounds_toArray, List.set_cons_zero, List.set_cons_succ]
                refine wpAnyH_take (i := 8) (v := .int .i64 (j : Int)) rfl (by kernel_rfl) (by kernel_rfl) (by kernel_rfl) (fun _ _ _ h => h) (Or.inl ⟨by kernel_rfl, fun V _ => by kernel_rfl⟩) hS26 ?_
                simp only [Act.put, List.getElem_toArray, List.getElem_cons_succ, List.getElem_cons_zero, List.setIfInBounds_toArray, List.set_cons_zero, List.set_cons_succ]
                refine wpAnyH_ready (rs := [6]) (by kernel_rfl) (by simp) ?_
                refine AllReadyH.cons rfl (fun K hK => ?_) AllReadyH.nil
                go_simp
                refine (CU1.out _ hS26.1.1).mono ?_; rintro r w7 ⟨rfl, hgq⟩
                have hS27 : (W1.grownBy w7 none ∧ Row w7 pm 32 (nd L' (f j)).toArray) ∧ Row w7 pn 32 (nd L' (f j)).toArray := ⟨⟨grown_trans hS26.1.1 hgq, hS26.1.2.kept0 hgq⟩, hS26.2.kept0 hgq⟩
                refine hK.out _ _ hS27 (fun _ => ?_)
                clear hK K hgq
                refine wpAnyH_ready (rs := [9]) (by kernel_rfl) (by simp) ?_
                refine AllReadyH.cons rfl (fun K hK => ?_) AllReadyH.nil
                go_simp
                refine (CU2.out _ hS27.1.1).mono ?_; rintro r w8 ⟨rfl, hgq⟩
                have hS28 : (W1.grownBy w8 none ∧ Row w8 pm 32 (nd L' (f j)).toArray) ∧ Row w8 pn 32 (nd L' (f j)).toArray := ⟨⟨grown_trans hS27.1.1 hgq, hS27.1.2.kept0 hgq⟩, hS27.2.kept0 hgq⟩
                refine hK.out _ _ hS28 (fun _ => ?_)
                clear hK K hgq
                have bku : (ku != ku) = false := by simp
                refine wpAnyH_take (i := 10) (v := .bool false) rfl (by kernel_rfl) (by kernel_rfl) (by kernel_rfl) (fun _ _ _ h => h) (Or.inl ⟨by kernel_rfl, fun V hV => by go_simp⟩) hS28 ?_
                try simp only [Act.put, List.getElem_toArray, List.getElem_cons_succ, List.getElem_cons_zero, List.setIfInBounds_toArray, List.set_cons_zero, List.set_cons_succ]
                refine wpAnyH_take (i := 11) (v := .bool false) rfl (by kernel_rfl) (by kernel_rfl) (by kernel_rfl) (fun _ _ _ h => h) (Or.inl ⟨by kernel_rfl, fun V _ => by kernel_rfl⟩) hS28 ?_
                simp only [Act.put, List.getElem_toArray, List.getElem_cons_succ, List.getElem_cons_zero, List.setIfInBounds_toArray, List.set_cons_zero, List.set_cons_succ]
                refine wpAnyH_done (by kernel_rfl) ?_ _
                have hgr8 := hS28.1.1
                clear hS26 hS27 hS28 bku hrn hrm hgx
                go_wp2_with fail
                exact ⟨⟨j + 1, by omega, by go_num, by rw [hcs.out]; go_num, ⟨f j, rfl, by omega, hla'.out⟩, hgr8⟩, by simp [intOf]; omega⟩
            · have b4 : (c.kd == 4) = false := by simp [hk5]
              have b5 : (c.kd == 5) = true := by simp [hk5]
              by_cases hkk : kj = c.key
              · have bk : (kj == c.key) = true := by simp [hkk]
                have h3 := Lib.hid (hthree.out (⟨.inr hk5, by rw [← hkk, hkj'.out]⟩))
                obtain ⟨s, hs0, _⟩ := okAll_text hokm.out
                have hs1 := Lib.hid hs0
                clear hs0
                go_upto_region 25 with fail
                clear c0 c1 c2 c3 e0 e1 e2 e6 z0
                have hS25 : W1.grownBy W5.drew none ∧ Row W5.drew pm 32 (nd L' (f j)).toArray := ⟨grown_drew hg5, hrm.kept0 (grown_drew (World.grownBy.refl _ none))⟩
                refine wp_region_held (S := fun V => W1.grownBy V none ∧ Row V pm 32 (nd L' (f j)).toArray) (by kernel_rfl) ?_
                have hr5 := hrn0.kept0 (grown_drew (World.grownBy.refl W5 none))
                change wpAnyH _ _ _ _ _ _ _ _ W5.drew
                generalize W5.drew = Wd at *
                refine wpAnyH_take (i := 0) (v := .pointer (some ⟨pm, 3, none⟩)) rfl (by kernel_rfl) (by kernel_rfl) (by kernel_rfl) (fun _ _ _ h => h) (Or.inl ⟨by kernel_rfl, fun V _ => by kernel_rfl⟩) hS25 ?_
                simp only [Act.put, List.getElem_toArray, List.getElem_cons_succ, List.getElem_cons_zero, List.setIfInBounds_toArray, List.set_cons_zero, List.set_cons_succ]
                refine wpAnyH_take (i := 1) (v := .agg (styN (nd L' (f j))).toArray) rfl (by kernel_rfl) (by kernel_rfl) (by kernel_rfl) (fun _ _ _ h => h) (Or.inl ⟨by kernel_rfl, fun V hV => exec_load rfl (by kernel_rfl) (node_style hV.2 hokm.out)⟩) hS25 ?_
                simp only [Act.put, List.getElem_toArray, List.getElem_cons_succ, List.getElem_cons_zero, List.setIfInBounds_toArray, List.set_cons_zero, List.set_cons_succ]
                refine wpAnyH_take (i := 2) (v := .pointer (some ⟨pm, 50, none⟩)) rfl (by kernel_rfl) (by kernel_rfl) (by kernel_rfl) (fun _ _ _ h => h) (Or.inl ⟨by kernel_rfl, fun V _ => by kernel_rfl⟩) hS25 ?_
                simp only [Act.put, List.getElem_toArray, List.getElem_cons_succ, List.getElem_cons_zero, List.setIfInBounds_toArray, List.set_cons_zero, List.set_cons_succ]
                refine wpAnyH_take (i := 3) (v := .string s) rfl (by kernel_rfl) (by kernel_rfl) (by kernel_rfl) (fun _ _ _ h => h) (Or.inl ⟨by kernel_rfl, fun V hV => by have z : V.cell? ⟨pm, 50, none⟩ = some (.string s) := (hV.2.at 50).trans (by rw [List.getElem?_toArray]; exact hs1.out); go_simp⟩) hS25 ?_
                simp only [Act.put, List.getElem_toArray, List.getElem_cons_succ, List.getElem_cons_zero, List.setIfInBounds_toArray, List.set_cons_zero, List.set_cons_succ]
                refine wpAnyH_take (i := 4) (v := .pointer (some ⟨pn, 3, none⟩)) rfl (by kernel_rfl) (by kernel_rfl) (by kernel_rfl) (fun _ _ _ h => h) (Or.inl ⟨by kernel_rfl, fun V _ => by kernel_rfl⟩) hS25 ?_
                simp only [Act.put, List.getElem_toArray, List.getElem_cons_succ, List.getElem_cons_zero, List.setIfInBounds_toArray, List.set_cons_zero, List.set_cons_succ]
                have hr6 : Row (Wd.setCells pn 3 (styN (nd L' (f j)))) pn 32 (withSty (nd L j) (nd L' (f j))).toArray := by
                  have h1 := hr5.setCells (styN (nd L' (f j))) 3
                  rw [layL_sty _ _ hlj.out (styN_len hokm.out)] at h1
                  exact h1
                have hS26 : W1.grownBy (Wd.setCells pn 3 (styN (nd L' (f j)))) none ∧ Row (Wd.setCells pn 3 (styN (nd L' (f j)))) pm 32 (nd L' (f j)).toArray := ⟨grown_new hS25.1 (grownBy_setCells _ 3 _) (fun g e => by cases e; exact hpnb.out), hS25.2.kept (grownBy_setCells _ 3 _) (fun e => hne.out (by cases e; rfl))⟩
                refine wpAnyH_store_many (T := 30) (g := pn) (off := 3) (ds := styN (nd L' (f j))) 5 (.tmp 87) (.tmp 84) (by kernel_rfl) (by kernel_rfl) rfl rfl (by rw [styN_len hokm.out]; exact infoSty) (okAll_one (styN_ok hokm.out)) (fun t ht => by
                  rw [styN_len hokm.out] at ht
                  rw [hr5.at, List.getElem?_toArray, List.getElem?_eq_getElem (by rw [hlj.out]; omega)]
                  rfl) (fun t ht => hr5.free _) hS26 ?_
                generalize Wd.setCells pn 3 (styN (nd L' (f j))) = W6 at *
                refine wpAnyH_take (i := 6) (v := .pointer (some ⟨pn, 50, none⟩)) rfl (by kernel_rfl) (by kernel_rfl) (by kernel_rfl) (fun _ _ _ h => h) (Or.inl ⟨by kernel_rfl, fun V _ => by kernel_rfl⟩) hS26 ?_
                try simp only [Act.put, List.getElem_toArray, List.getElem_cons_succ, List.getElem_cons_zero, List.setIfInBounds_toArray, List.set_cons_zero, List.set_cons_succ]
                have hrz : Row (W6.setCell ⟨pn, 50, none⟩ (.string s)) pn 32 (nd L' (f j)).toArray := by
                  have h1 := hr6.set 50 (.string s)
                  rw [List.setIfInBounds_toArray, copy_eq (h3.out.symm) hokm.out hlj.out hs1.out] at h1
                  exact h1
                have hgw := grown_new hS26.1 (grownBy_setCell W6 pn 50 (.string s)) (fun g e => by cases e; exact hpnb.out)
                have hrm6 : Row (W6.setCell ⟨pn, 50, none⟩ (.string s)) pm 32 (nd L' (f j)).toArray := hS26.2.kept (grownBy_setCell W6 pn 50 (.string s)) (fun e => hne.out (by cases e; rfl))
                have z50 : ∃ v, W6.cell? ⟨pn, 50, none⟩ = some v := ⟨_, (hr6.at 50).trans (by rw [List.getElem?_toArray, List.getElem?_eq_getElem (by unfold withSty; rw [List.length_append, List.length_append, styN_len hokm.out, List.length_take, List.length_drop, hlj.out]; omega)])⟩
                obtain ⟨v50, z50⟩ := z50
                have f50 := hr6.free 50
                have hrz' := Lib.hid hrz
                have hgw' := Lib.hid hgw
                have hrm6' := Lib.hid hrm6
                clear hrz hgw hrm6 hr6 hr5 hS25 hS26
                refine wpAnyH_ready (rs := [7]) (by kernel_rfl) (by simp) ?_
                refine AllReadyH.cons rfl (fun K hK => ?_) AllReadyH.nil
                go_simp
                refine hK.out _ _ ⟨hgw'.out, hrm6'.out⟩ (fun _ => ?_)
                clear hK K
                refine wpAnyH_done (by kernel_rfl) ?_ _
                have hrn := hrz'.out
                have hgx := hgw'.out
                have hrm := hrm6'.out
                clear hrz' hgw' hrm6' z50 f50 hg5 hrn0
                generalize W6.setCell ⟨pn, 50, none⟩ (.string s) = W7 at *
                go_upto_region 26 with fail
                have hS26 : (W1.grownBy W7.drew none ∧ Row W7.drew pm 32 (nd L' (f j)).toArray) ∧ Row W7.drew pn 32 (nd L' (f j)).toArray := ⟨⟨grown_drew hgx, hrm.kept0 (grown_drew (World.grownBy.refl _ none))⟩, hrn.kept0 (grown_drew (World.grownBy.refl _ none))⟩
                refine wp_region_held (S := fun V => (W1.grownBy V none ∧ Row V pm 32 (nd L' (f j)).toArray) ∧ Row V pn 32 (nd L' (f j)).toArray) (by kernel_rfl) ?_
                refine wpAnyH_take (i := 0) (v := .agg (nd L' (f j)).toArray) rfl (by kernel_rfl) (by kernel_rfl) (by kernel_rfl) (fun _ _ _ h => h) (Or.inl ⟨by kernel_rfl, fun V hV => exec_load_row bigN (x := .tmp 12) rfl (by kernel_rfl) V hV.1.2 (by rw [List.size_toArray]; exact hokm.out.len)⟩) hS26 ?_
                simp only [Act.put, List.getElem_toArray, List.getElem_cons_succ, List.getElem_cons_zero, List.setIfInBounds_toArray, List.set_cons_zero, List.set_cons_succ]
                refine wpAnyH_take (i := 1) (v := .agg (nd L' (f j)).toArray) rfl (by kernel_rfl) (by kernel_rfl) (by kernel_rfl) (fun _ _ _ h => h) (Or.inl ⟨by kernel_rfl, fun V hV => exec_load_row bigN (x := .tmp 10) rfl (by kernel_rfl) V hV.2 (by rw [List.size_toArray]; exact hokm.out.len)⟩) hS26 ?_
                simp only [Act.put, List.getElem_toArray, List.getElem_cons_succ, List.getElem_cons_zero, List.setIfInBounds_toArray, List.set_cons_zero, List.set_cons_succ]
                refine wpAnyH_take (i := 2) (v := .bool false) rfl (by kernel_rfl) (by kernel_rfl) (by kernel_rfl) (fun _ _ _ h => h) (Or.inl ⟨by kernel_rfl, fun V hV => exec_neqNode (b := true) rfl (nd L' (f j)) (nd L' (f j)) (by kernel_rfl) (by kernel_rfl) hokm.out hokm.out (eqV_self hokm.out) V⟩) hS26 ?_
                simp only [Act.put, List.getElem_toArray, List.getElem_cons_succ, List.getElem_cons_zero, List.setIfInBounds_toArray, List.set_cons_zero, List.set_cons_succ]
                refine wpAnyH_take (i := 3) (v := .bool false) rfl (by kernel_rfl) (by kernel_rfl) (by kernel_rfl) (fun _ _ _ h => h) (Or.inl ⟨by kernel_rfl, fun V _ => by kernel_rfl⟩) hS26 ?_
                simp only [Act.put, List.getElem_toArray, List.getElem_cons_succ, List.getElem_cons_zero, List.setIfInBounds_toArray, List.set_cons_zero, List.set_cons_succ]
                refine wpAnyH_take (i := 4) (v := .agg #[.slice (some ad3) n3 k3, .int .i64 x']) rfl (by kernel_rfl) (by kernel_rfl) (by kernel_rfl) (fun _ _ _ h => h) (Or.inl ⟨by kernel_rfl, fun V hV => by obtain ⟨⟨⟨c0, c1⟩, c2, c3⟩, e0, e1, e2, e6⟩ := HB.out _ hV.1.1; go_simp⟩) hS26 ?_
                simp only [Act.put, List.getElem_toArray, List.getElem_cons_succ, List.getElem_cons_zero, List.setIfInBounds_toArray, List.set_cons_zero, List.set_cons_succ]
                refine wpAnyH_take (i := 5) (v := .int .i64 (f j : Int)) rfl (by kernel_rfl) (by kernel_rfl) (by kernel_rfl) (fun _ _ _ h => h) (Or.inl ⟨by kernel_rfl, fun V _ => by kernel_rfl⟩) hS26 ?_
                simp only [Act.put, List.getElem_toArray, List.getElem_cons_succ, List.getElem_cons_zero, List.setIfInBounds_toArray, List.set_cons_zero, List.set_cons_succ]
                refine wpAnyH_take (i := 7) (v := .agg #[.slice (some ad) n k, .int .i64 x]) rfl (by kernel_rfl) (by kernel_rfl) (by kernel_rfl) (fun _ _ _ h => h) (Or.inl ⟨by kernel_rfl, fun V hV => by obtain ⟨⟨⟨c0, c1⟩, c2, c3⟩, e0, e1, e2, e6⟩ := HB.out _ hV.1.1; go_simp⟩) hS26 ?_
                simp only [Act.put, List.getElem_toArray, List.getElem_cons_succ, List.getElem_cons_zero, List.setIfInBounds_toArray, List.set_cons_zero, List.set_cons_succ]
                refine wpAnyH_take (i := 8) (v := .int .i64 (j : Int)) rfl (by kernel_rfl) (by kernel_rfl) (by kernel_rfl) (fun _ _ _ h => h) (Or.inl ⟨by kernel_rfl, fun V _ => by kernel_rfl⟩) hS26 ?_
                simp only [Act.put, List.getElem_toArray, List.getElem_cons_succ, List.getElem_cons_zero, List.setIfInBounds_toArray, List.set_cons_zero, List.set_cons_succ]
                refine wpAnyH_ready (rs := [6]) (by kernel_rfl) (by simp) ?_
                refine AllReadyH.cons rfl (fun K hK => ?_) AllReadyH.nil
                go_simp
                refine (CU1.out _ hS26.1.1).mono ?_; rintro r w7 ⟨rfl, hgq⟩
                have hS27 : (W1.grownBy w7 none ∧ Row w7 pm 32 (nd L' (f j)).toArray) ∧ Row w7 pn 32 (nd L' (f j)).toArray := ⟨⟨grown_trans hS26.1.1 hgq, hS26.1.2.kept0 hgq⟩, hS26.2.kept0 hgq⟩
                refine hK.out _ _ hS27 (fun _ => ?_)
                clear hK K hgq
                refine wpAnyH_ready (rs := [9]) (by kernel_rfl) (by simp) ?_
                refine AllReadyH.cons rfl (fun K hK => ?_) AllReadyH.nil
                go_simp
                refine (CU2.out _ hS27.1.1).mono ?_; rintro r w8 ⟨rfl, hgq⟩
                have hS28 : (W1.grownBy w8 none ∧ Row w8 pm 32 (nd L' (f j)).toArray) ∧ Row w8 pn 32 (nd L' (f j)).toArray := ⟨⟨grown_trans hS27.1.1 hgq, hS27.1.2.kept0 hgq⟩, hS27.2.kept0 hgq⟩
                refine hK.out _ _ hS28 (fun _ => ?_)
                clear hK K hgq
                have bku : (ku != ku) = false := by simp
                refine wpAnyH_take (i := 10) (v := .bool false) rfl (by kernel_rfl) (by kernel_rfl) (by kernel_rfl) (fun _ _ _ h => h) (Or.inl ⟨by kernel_rfl, fun V hV => by go_simp⟩) hS28 ?_
                try simp only [Act.put, List.getElem_toArray, List.getElem_cons_succ, List.getElem_cons_zero, List.setIfInBounds_toArray, List.set_cons_zero, List.set_cons_succ]
                refine wpAnyH_take (i := 11) (v := .bool false) rfl (by kernel_rfl) (by kernel_rfl) (by kernel_rfl) (fun _ _ _ h => h) (Or.inl ⟨by kernel_rfl, fun V _ => by kernel_rfl⟩) hS28 ?_
                simp only [Act.put, List.getElem_toArray, List.getElem_cons_succ, List.getElem_cons_zero, List.setIfInBounds_toArray, List.set_cons_zero, List.set_cons_succ]
                refine wpAnyH_done (by kernel_rfl) ?_ _
                have hgr8 := hS28.1.1
                clear hS26 hS27 hS28 bku hrn hrm hgx
                go_wp2_with fail
                exact ⟨⟨j + 1, by omega, by go_num, by rw [hcs.out]; go_num, ⟨f j, rfl, by omega, hla'.out⟩, hgr8⟩, by simp [intOf]; omega⟩
              · have bk : (kj == c.key) = false := by simp [hkk]
                have hrn := hrn0
                rw [← hnode.out (fun e => hkk (by rw [hkj'.out]; exact e.2))] at hrn
                have hgx := hg5
                clear hrn0 hg5
                go_upto_region 26 with fail
                clear c0 c1 c2 c3 e0 e1 e2 e6 z0
                have hS26 : (W1.grownBy W5.drew none ∧ Row W5.drew pm 32 (nd L' (f j)).toArray) ∧ Row W5.drew pn 32 (nd L' (f j)).toArray := ⟨⟨grown_drew hgx, hrm.kept0 (grown_drew (World.grownBy.refl _ none))⟩, hrn.kept0 (grown_drew (World.grownBy.refl _ none))⟩
                refine wp_region_held (S := fun V => (W1.grownBy V none ∧ Row V pm 32 (nd L' (f j)).toArray) ∧ Row V pn 32 (nd L' (f j)).toArray) (by kernel_rfl) ?_
                refine wpAnyH_take (i := 0) (v := .agg (nd L' (f j)).toArray) rfl (by kernel_rfl) (by kernel_rfl) (by kernel_rfl) (fun _ _ _ h => h) (Or.inl ⟨by kernel_rfl, fun V hV => exec_load_row bigN (x := .tmp 12) rfl (by kernel_rfl) V hV.1.2 (by rw [List.size_toArray]; exact hokm.out.len)⟩) hS26 ?_
                simp only [Act.put, List.getElem_toArray, List.getElem_cons_succ, List.getElem_cons_zero, List.setIfInBounds_toArray, List.set_cons_zero, List.set_cons_succ]
                refine wpAnyH_take (i := 1) (v := .agg (nd L' (f j)).toArray) rfl (by kernel_rfl) (by kernel_rfl) (by kernel_rfl) (fun _ _ _ h => h) (Or.inl ⟨by kernel_rfl, fun V hV => exec_load_row bigN (x := .tmp 10) rfl (by kernel_rfl) V hV.2 (by rw [List.size_toArray]; exact hokm.out.len)⟩) hS26 ?_
                simp only [Act.put, List.getElem_toArray, List.getElem_cons_succ, List.getElem_cons_zero, List.setIfInBounds_toArray, List.set_cons_zero, List.set_cons_succ]
                refine wpAnyH_take (i := 2) (v := .bool false) rfl (by kernel_rfl) (by kernel_rfl) (by kernel_rfl) (fun _ _ _ h => h) (Or.inl ⟨by kernel_rfl, fun V hV => exec_neqNode (b := true) rfl (nd L' (f j)) (nd L' (f j)) (by kernel_rfl) (by kernel_rfl) hokm.out hokm.out (eqV_self hokm.out) V⟩) hS26 ?_
                simp only [Act.put, List.getElem_toArray, List.getElem_cons_succ, List.getElem_cons_zero, List.setIfInBounds_toArray, List.set_cons_zero, List.set_cons_succ]
                refine wpAnyH_take (i := 3) (v := .bool false) rfl (by kernel_rfl) (by kernel_rfl) (by kernel_rfl) (fun _ _ _ h => h) (Or.inl ⟨by kernel_rfl, fun V _ => by kernel_rfl⟩) hS26 ?_
                simp only [Act.put, List.getElem_toArray, List.getElem_cons_succ, List.getElem_cons_zero, List.setIfInBounds_toArray, List.set_cons_zero, List.set_cons_succ]
                refine wpAnyH_take (i := 4) (v := .agg #[.slice (some ad3) n3 k3, .int .i64 x']) rfl (by kernel_rfl) (by kernel_rfl) (by kernel_rfl) (fun _ _ _ h => h) (Or.inl ⟨by kernel_rfl, fun V hV => by obtain ⟨⟨⟨c0, c1⟩, c2, c3⟩, e0, e1, e2, e6⟩ := HB.out _ hV.1.1; go_simp⟩) hS26 ?_
                simp only [Act.put, List.getElem_toArray, List.getElem_cons_succ, List.getElem_cons_zero, List.setIfInBounds_toArray, List.set_cons_zero, List.set_cons_succ]
                refine wpAnyH_take (i := 5) (v := .int .i64 (f j : Int)) rfl (by kernel_rfl) (by kernel_rfl) (by kernel_rfl) (fun _ _ _ h => h) (Or.inl ⟨by kernel_rfl, fun V _ => by kernel_rfl⟩) hS26 ?_
                simp only [Act.put, List.getElem_toArray, List.getElem_cons_succ, List.getElem_cons_zero, List.setIfInBounds_toArray, List.set_cons_zero, List.set_cons_succ]
                refine wpAnyH_take (i := 7) (v := .agg #[.slice (some ad) n k, .int .i64 x]) rfl (by kernel_rfl) (by kernel_rfl) (by kernel_rfl) (fun _ _ _ h => h) (Or.inl ⟨by kernel_rfl, fun V hV => by obtain ⟨⟨⟨c0, c1⟩, c2, c3⟩, e0, e1, e2, e6⟩ := HB.out _ hV.1.1; go_simp⟩) hS26 ?_
                simp only [Act.put, List.getElem_toArray, List.getElem_cons_succ, List.getElem_cons_zero, List.setIfInBounds_toArray, List.set_cons_zero, List.set_cons_succ]
                refine wpAnyH_take (i := 8) (v := .int .i64 (j : Int)) rfl (by kernel_rfl) (by kernel_rfl) (by kernel_rfl) (fun _ _ _ h => h) (Or.inl ⟨by kernel_rfl, fun V _ => by kernel_rfl⟩) hS26 ?_
                simp only [Act.put, List.getElem_toArray, List.getElem_cons_succ, List.getElem_cons_zero, List.setIfInBounds_toArray, List.set_cons_zero, List.set_cons_succ]
                refine wpAnyH_ready (rs := [6]) (by kernel_rfl) (by simp) ?_
                refine AllReadyH.cons rfl (fun K hK => ?_) AllReadyH.nil
                go_simp
                refine (CU1.out _ hS26.1.1).mono ?_; rintro r w7 ⟨rfl, hgq⟩
                have hS27 : (W1.grownBy w7 none ∧ Row w7 pm 32 (nd L' (f j)).toArray) ∧ Row w7 pn 32 (nd L' (f j)).toArray := ⟨⟨grown_trans hS26.1.1 hgq, hS26.1.2.kept0 hgq⟩, hS26.2.kept0 hgq⟩
                refine hK.out _ _ hS27 (fun _ => ?_)
                clear hK K hgq
                refine wpAnyH_ready (rs := [9]) (by kernel_rfl) (by simp) ?_
                refine AllReadyH.cons rfl (fun K hK => ?_) AllReadyH.nil
                go_simp
                refine (CU2.out _ hS27.1.1).mono ?_; rintro r w8 ⟨rfl, hgq⟩
                have hS28 : (W1.grownBy w8 none ∧ Row w8 pm 32 (nd L' (f j)).toArray) ∧ Row w8 pn 32 (nd L' (f j)).toArray := ⟨⟨grown_trans hS27.1.1 hgq, hS27.1.2.kept0 hgq⟩, hS27.2.kept0 hgq⟩
                refine hK.out _ _ hS28 (fun _ => ?_)
                clear hK K hgq
                have bku : (ku != ku) = false := by simp
                refine wpAnyH_take (i := 10) (v := .bool false) rfl (by kernel_rfl) (by kernel_rfl) (by kernel_rfl) (fun _ _ _ h => h) (Or.inl ⟨by kernel_rfl, fun V hV => by go_simp⟩) hS28 ?_
                try simp only [Act.put, List.getElem_toArray, List.getElem_cons_succ, List.getElem_cons_zero, List.setIfInBounds_toArray, List.set_cons_zero, List.set_cons_succ]
                refine wpAnyH_take (i := 11) (v := .bool false) rfl (by kernel_rfl) (by kernel_rfl) (by kernel_rfl) (fun _ _ _ h => h) (Or.inl ⟨by kernel_rfl, fun V _ => by kernel_rfl⟩) hS28 ?_
                simp only [Act.put, List.getElem_toArray, List.getElem_cons_succ, List.getElem_cons_zero, List.setIfInBounds_toArray, List.set_cons_zero, List.set_cons_succ]
                refine wpAnyH_done (by kernel_rfl) ?_ _
                have hgr8 := hS28.1.1
                clear hS26 hS27 hS28 bku hrn hrm hgx
                go_wp2_with fail
                exact ⟨⟨j + 1, by omega, by go_num, by rw [hcs.out]; go_num, ⟨f j, rfl, by omega, hla'.out⟩, hgr8⟩, by simp [intOf]; omega⟩
            · have b4 : (c.kd == 4) = false := by simp [hk4]
              have b5 : (c.kd == 5) = false := by simp [hk5]
              have hrn := hrn0
              rw [← hnode.out (fun e => e.1.elim hk4 hk5)] at hrn
              have hgx := hg5
              clear hrn0 hg5
              go_upto_region 26 with fail
              clear c0 c1 c2 c3 e0 e1 e2 e6 z0
              have hS26 : (W1.grownBy W5.drew none ∧ Row W5.drew pm 32 (nd L' (f j)).toArray) ∧ Row W5.drew pn 32 (nd L' (f j)).toArray := ⟨⟨grown_drew hgx, hrm.kept0 (grown_drew (World.grownBy.refl _ none))⟩, hrn.kept0 (grown_drew (World.grownBy.refl _ none))⟩
              refine wp_region_held (S := fun V => (W1.grownBy V none ∧ Row V pm 32 (nd L' (f j)).toArray) ∧ Row V pn 32 (nd L' (f j)).toArray) (by kernel_rfl) ?_
              refine wpAnyH_take (i := 0) (v := .agg (nd L' (f j)).toArray) rfl (by kernel_rfl) (by kernel_rfl) (by kernel_rfl) (fun _ _ _ h => h) (Or.inl ⟨by kernel_rfl, fun V hV => exec_load_row bigN (x := .tmp 12) rfl (by kernel_rfl) V hV.1.2 (by rw [List.size_toArray]; exact hokm.out.len)⟩) hS26 ?_
              simp only [Act.put, List.getElem_toArray, List.getElem_cons_succ, List.getElem_cons_zero, List.setIfInBounds_toArray, List.set_cons_zero, List.set_cons_succ]
              refine wpAnyH_take (i := 1) (v := .agg (nd L' (f j)).toArray) rfl (by kernel_rfl) (by kernel_rfl) (by kernel_rfl) (fun _ _ _ h => h) (Or.inl ⟨by kernel_rfl, fun V hV => exec_load_row bigN (x := .tmp 10) rfl (by kernel_rfl) V hV.2 (by rw [List.size_toArray]; exact hokm.out.len)⟩) hS26 ?_
              simp only [Act.put, List.getElem_toArray, List.getElem_cons_succ, List.getElem_cons_zero, List.setIfInBounds_toArray, List.set_cons_zero, List.set_cons_succ]
              refine wpAnyH_take (i := 2) (v := .bool false) rfl (by kernel_rfl) (by kernel_rfl) (by kernel_rfl) (fun _ _ _ h => h) (Or.inl ⟨by kernel_rfl, fun V hV => exec_neqNode (b := true) rfl (nd L' (f j)) (nd L' (f j)) (by kernel_rfl) (by kernel_rfl) hokm.out hokm.out (eqV_self hokm.out) V⟩) hS26 ?_
              simp only [Act.put, List.getElem_toArray, List.getElem_cons_succ, List.getElem_cons_zero, List.setIfInBounds_toArray, List.set_cons_zero, List.set_cons_succ]
              refine wpAnyH_take (i := 3) (v := .bool false) rfl (by kernel_rfl) (by kernel_rfl) (by kernel_rfl) (fun _ _ _ h => h) (Or.inl ⟨by kernel_rfl, fun V _ => by kernel_rfl⟩) hS26 ?_
              simp only [Act.put, List.getElem_toArray, List.getElem_cons_succ, List.getElem_cons_zero, List.setIfInBounds_toArray, List.set_cons_zero, List.set_cons_succ]
              refine wpAnyH_take (i := 4) (v := .agg #[.slice (some ad3) n3 k3, .int .i64 x']) rfl (by kernel_rfl) (by kernel_rfl) (by kernel_rfl) (fun _ _ _ h => h) (Or.inl ⟨by kernel_rfl, fun V hV => by obtain ⟨⟨⟨c0, c1⟩, c2, c3⟩, e0, e1, e2, e6⟩ := HB.out _ hV.1.1; go_simp⟩) hS26 ?_
              simp only [Act.put, List.getElem_toArray, List.getElem_cons_succ, List.getElem_cons_zero, List.setIfInBounds_toArray, List.set_cons_zero, List.set_cons_succ]
              refine wpAnyH_take (i := 5) (v := .int .i64 (f j : Int)) rfl (by kernel_rfl) (by kernel_rfl) (by kernel_rfl) (fun _ _ _ h => h) (Or.inl ⟨by kernel_rfl, fun V _ => by kernel_rfl⟩) hS26 ?_
              simp only [Act.put, List.getElem_toArray, List.getElem_cons_succ, List.getElem_cons_zero, List.setIfInBounds_toArray, List.set_cons_zero, List.set_cons_succ]
              refine wpAnyH_take (i := 7) (v := .agg #[.slice (some ad) n k, .int .i64 x]) rfl (by kernel_rfl) (by kernel_rfl) (by kernel_rfl) (fun _ _ _ h => h) (Or.inl ⟨by kernel_rfl, fun V hV => by obtain ⟨⟨⟨c0, c1⟩, c2, c3⟩, e0, e1, e2, e6⟩ := HB.out _ hV.1.1; go_simp⟩) hS26 ?_
              simp only [Act.put, List.getElem_toArray, List.getElem_cons_succ, List.getElem_cons_zero, List.setIfInBounds_toArray, List.set_cons_zero, List.set_cons_succ]
              refine wpAnyH_take (i := 8) (v := .int .i64 (j : Int)) rfl (by kernel_rfl) (by kernel_rfl) (by kernel_rfl) (fun _ _ _ h => h) (Or.inl ⟨by kernel_rfl, fun V _ => by kernel_rfl⟩) hS26 ?_
              simp only [Act.put, List.getElem_toArray, List.getElem_cons_succ, List.getElem_cons_zero, List.setIfInBounds_toArray, List.set_cons_zero, List.set_cons_succ]
              refine wpAnyH_ready (rs := [6]) (by kernel_rfl) (by simp) ?_
              refine AllReadyH.cons rfl (fun K hK => ?_) AllReadyH.nil
              go_simp
              refine (CU1.out _ hS26.1.1).mono ?_; rintro r w7 ⟨rfl, hgq⟩
              have hS27 : (W1.grownBy w7 none ∧ Row w7 pm 32 (nd L' (f j)).toArray) ∧ Row w7 pn 32 (nd L' (f j)).toArray := ⟨⟨grown_trans hS26.1.1 hgq, hS26.1.2.kept0 hgq⟩, hS26.2.kept0 hgq⟩
              refine hK.out _ _ hS27 (fun _ => ?_)
              clear hK K hgq
              refine wpAnyH_ready (rs := [9]) (by kernel_rfl) (by simp) ?_
              refine AllReadyH.cons rfl (fun K hK => ?_) AllReadyH.nil
              go_simp
              refine (CU2.out _ hS27.1.1).mono ?_; rintro r w8 ⟨rfl, hgq⟩
              have hS28 : (W1.grownBy w8 none ∧ Row w8 pm 32 (nd L' (f j)).toArray) ∧ Row w8 pn 32 (nd L' (f j)).toArray := ⟨⟨grown_trans hS27.1.1 hgq, hS27.1.2.kept0 hgq⟩, hS27.2.kept0 hgq⟩
              refine hK.out _ _ hS28 (fun _ => ?_)
              clear hK K hgq
              have bku : (ku != ku) = false := by simp
              refine wpAnyH_take (i := 10) (v := .bool false) rfl (by kernel_rfl) (by kernel_rfl) (by kernel_rfl) (fun _ _ _ h => h) (Or.inl ⟨by kernel_rfl, fun V hV => by go_simp⟩) hS28 ?_
              try simp only [Act.put, List.getElem_toArray, List.getElem_cons_succ, List.getElem_cons_zero, List.setIfInBounds_toArray, List.set_cons_zero, List.set_cons_succ]
              refine wpAnyH_take (i := 11) (v := .bool false) rfl (by kernel_rfl) (by kernel_rfl) (by kernel_rfl) (fun _ _ _ h => h) (Or.inl ⟨by kernel_rfl, fun V _ => by kernel_rfl⟩) hS28 ?_
              simp only [Act.put, List.getElem_toArray, List.getElem_cons_succ, List.getElem_cons_zero, List.setIfInBounds_toArray, List.set_cons_zero, List.set_cons_succ]
              refine wpAnyH_done (by kernel_rfl) ?_ _
              have hgr8 := hS28.1.1
              clear hS26 hS27 hS28 bku hrn hrm hgx
              go_wp2_with fail
              exact ⟨⟨j + 1, by omega, by go_num, by rw [hcs.out]; go_num, ⟨f j, rfl, by omega, hla'.out⟩, hgr8⟩, by simp [intOf]; omega⟩
        · obtain rfl : j = n := by omega
          have hce := Lib.hid hO.out.ce
          by_cases hk1 : c.kd = 1
          · have b1 : (c.kd == 1) = true := by simp [hk1]
            obtain ⟨g, hgl, hfg, hug, hkg⟩ := hins.out hk1
            rw [hl3'.out] at hgl
            have hcn : cnt j + 1 = n3 := by have := hce.out; rw [if_pos hk1, hlen.out, hl3'.out] at this; exact this
            have CF0 := fun W hg => hCF.out W x hg
            rw [hfg] at CF0
            have CF := Lib.hid CF0
            have CU1 := Lib.hid (fun W (hg : W1.grownBy W none) => show Calls Try.prog 14 #[.agg #[.slice A3 n3 k3, .int .i64 x'], .int .i64 (g : Int)] W fun e w' => e = .returned (.int .i64 c.par) ∧ W.grownBy w' none from by
              have := up_any A3 n3 k3 x' g L' W ((D1'.out.grow hg).nodes) hgl
              rw [hug] at this
              exact this)
            have hwm : IntKind.i64.wrap ((cnt j : Int) + 1) = (n3 : Int) := by rw [IntKind.wrap_i64]; omega
            have hkg' := Lib.hid hkg
            clear hk1 hcn CF0 hfg hug hkg hla hce
            go_wp2_with fail
            refine (CF.out _ hgr).mono ?_; rintro r w4 ⟨rfl, hgq⟩
            have hgx := grown_drew (grown_trans hgr hgq)
            clear c0 c1 c2 c3 e0 e1 e2 e6 CF hgq
            obtain ⟨ad3, hA3, _⟩ := ((D1'.out.grow hgx).nodes).some_ hgl
            subst hA3
            have d0 : decide ((g : Int) < 0) = false := decide_eq_false (by omega)
            have i3 : (0 : Int) ≤ (g : Int) := by omega
            have i4 : (g : Int) < (n3 : Int) := by omega
            have bp : (c.par != c.par) = false := by simp
            have bq : (kindN c.y != kindN c.y) = false := by simp
            have hzk := Lib.hid (fun W (hg : W1.grownBy W none) => show W.cell? ⟨(ad3.add (g * 51)).block, (ad3.add (g * 51)).off + 2, none⟩ = some (.int .u8 (kindN c.y)) from by
              have := ((D1'.out.grow hg).nodes).kind_ hgl
              rw [hkg'.out] at this
              exact this)
            go_upto_region 31 with fail
            refine wp_region_held (S := fun V => W1.grownBy V none) (by kernel_rfl) ?_
            refine wpAnyH_take (i := 0) (v := .int .i64 (g : Int)) rfl (by kernel_rfl) (by kernel_rfl) (by kernel_rfl) (fun _ _ _ h => h) (Or.inl ⟨by kernel_rfl, fun V _ => by kernel_rfl⟩) hgx ?_
            simp only [Act.put, List.getElem_toArray, List.getElem_cons_succ, List.getElem_cons_zero, List.setIfInBounds_toArray, List.set_cons_zero, List.set_cons_succ]
            refine wpAnyH_take (i := 1) (v := .bool false) rfl (by kernel_rfl) (by kernel_rfl) (by kernel_rfl) (fun _ _ _ h => h) (Or.inl ⟨by kernel_rfl, fun V hV => by go_simp⟩) hgx ?_
            simp only [Act.put, List.getElem_toArray, List.getElem_cons_succ, List.getElem_cons_zero, List.setIfInBounds_toArray, List.set_cons_zero, List.set_cons_succ]
            refine wpAnyH_take (i := 2) (v := .bool false) rfl (by kernel_rfl) (by kernel_rfl) (by kernel_rfl) (fun _ _ _ h => h) (Or.inl ⟨by kernel_rfl, fun V _ => by kernel_rfl⟩) hgx ?_
            simp only [Act.put, List.getElem_toArray, List.getElem_cons_succ, List.getElem_cons_zero, List.setIfInBounds_toArray, List.set_cons_zero, List.set_cons_succ]
            refine wpAnyH_take (i := 3) (v := .agg #[.slice (some ad3) n3 k3, .int .i64 x']) rfl (by kernel_rfl) (by kernel_rfl) (by kernel_rfl) (fun _ _ _ h => h) (Or.inl ⟨by kernel_rfl, fun V hV => by obtain ⟨⟨⟨c0, c1⟩, c2, c3⟩, e0, e1, e2, e6⟩ := HB.out _ hV; go_simp⟩) hgx ?_
            simp only [Act.put, List.getElem_toArray, List.getElem_cons_succ, List.getElem_cons_zero, List.setIfInBounds_toArray, List.set_cons_zero, List.set_cons_succ]
            refine wpAnyH_take (i := 4) (v := .int .i64 (g : Int)) rfl (by kernel_rfl) (by kernel_rfl) (by kernel_rfl) (fun _ _ _ h => h) (Or.inl ⟨by kernel_rfl, fun V _ => by kernel_rfl⟩) hgx ?_
            simp only [Act.put, List.getElem_toArray, List.getElem_cons_succ, List.getElem_cons_zero, List.setIfInBounds_toArray, List.set_cons_zero, List.set_cons_succ]
            refine wpAnyH_take (i := 6) (v := .pointer (some ⟨pc, 2, none⟩)) rfl (by kernel_rfl) (by kernel_rfl) (by kernel_rfl) (fun _ _ _ h => h) (Or.inl ⟨by kernel_rfl, fun V _ => by kernel_rfl⟩) hgx ?_
            simp only [Act.put, List.getElem_toArray, List.getElem_cons_succ, List.getElem_cons_zero, List.setIfInBounds_toArray, List.set_cons_zero, List.set_cons_succ]
            refine wpAnyH_take (i := 7) (v := .int .i64 c.par) rfl (by kernel_rfl) (by kernel_rfl) (by kernel_rfl) (fun _ _ _ h => h) (Or.inl ⟨by kernel_rfl, fun V hV => by obtain ⟨⟨⟨c0, c1⟩, c2, c3⟩, e0, e1, e2, e6⟩ := HB.out _ hV; go_simp⟩) hgx ?_
            simp only [Act.put, List.getElem_toArray, List.getElem_cons_succ, List.getElem_cons_zero, List.setIfInBounds_toArray, List.set_cons_zero, List.set_cons_succ]
            refine wpAnyH_ready (rs := [5]) (by kernel_rfl) (by simp) ?_
            refine AllReadyH.cons rfl (fun K hK => ?_) AllReadyH.nil
            go_simp
            refine (CU1.out _ hgx).mono ?_; rintro r w7 ⟨rfl, hgq⟩
            have hgy := grown_trans hgx hgq
            refine hK.out _ _ hgy (fun _ => ?_)
            clear hK K hgq
            refine wpAnyH_take (i := 8) (v := .bool false) rfl (by kernel_rfl) (by kernel_rfl) (by kernel_rfl) (fun _ _ _ h => h) (Or.inl ⟨by kernel_rfl, fun V hV => by go_simp⟩) hgy ?_
            try simp only [Act.put, List.getElem_toArray, List.getElem_cons_succ, List.getElem_cons_zero, List.setIfInBounds_toArray, List.set_cons_zero, List.set_cons_succ]
            refine wpAnyH_take (i := 9) (v := .bool false) rfl (by kernel_rfl) (by kernel_rfl) (by kernel_rfl) (fun _ _ _ h => h) (Or.inl ⟨by kernel_rfl, fun V _ => by kernel_rfl⟩) hgy ?_
            simp only [Act.put, List.getElem_toArray, List.getElem_cons_succ, List.getElem_cons_zero, List.setIfInBounds_toArray, List.set_cons_zero, List.set_cons_succ]
            refine wpAnyH_take (i := 10) (v := .bool false) rfl (by kernel_rfl) (by kernel_rfl) (by kernel_rfl) (fun _ _ _ h => h) (Or.inl ⟨by kernel_rfl, fun V _ => by kernel_rfl⟩) hgy ?_
            simp only [Act.put, List.getElem_toArray, List.getElem_cons_succ, List.getElem_cons_zero, List.setIfInBounds_toArray, List.set_cons_zero, List.set_cons_succ]
            refine wpAnyH_take (i := 11) (v := .pointer (some ⟨pd, 0, none⟩)) rfl (by kernel_rfl) (by kernel_rfl) (by kernel_rfl) (fun _ _ _ h => h) (Or.inl ⟨by kernel_rfl, fun V _ => by kernel_rfl⟩) hgy ?_
            simp only [Act.put, List.getElem_toArray, List.getElem_cons_succ, List.getElem_cons_zero, List.setIfInBounds_toArray, List.set_cons_zero, List.set_cons_succ]
            refine wpAnyH_take (i := 12) (v := .slice (some ad3) n3 k3) rfl (by kernel_rfl) (by kernel_rfl) (by kernel_rfl) (fun _ _ _ h => h) (Or.inl ⟨by kernel_rfl, fun V hV => by obtain ⟨⟨⟨c0, c1⟩, c2, c3⟩, e0, e1, e2, e6⟩ := HB.out _ hV; go_simp⟩) hgy ?_
            simp only [Act.put, List.getElem_toArray, List.getElem_cons_succ, List.getElem_cons_zero, List.setIfInBounds_toArray, List.set_cons_zero, List.set_cons_succ]
            refine wpAnyH_take (i := 13) (v := .int .i64 (g : Int)) rfl (by kernel_rfl) (by kernel_rfl) (by kernel_rfl) (fun _ _ _ h => h) (Or.inl ⟨by kernel_rfl, fun V _ => by kernel_rfl⟩) hgy ?_
            simp only [Act.put, List.getElem_toArray, List.getElem_cons_succ, List.getElem_cons_zero, List.setIfInBounds_toArray, List.set_cons_zero, List.set_cons_succ]
            refine wpAnyH_take (i := 14) (v := .pointer (some (ad3.add (g * 51)))) rfl (by kernel_rfl) (by kernel_rfl) (by kernel_rfl) (fun _ _ _ h => h) (Or.inl ⟨by kernel_rfl, fun V hV => by go_simp⟩) hgy ?_
            simp only [Act.put, List.getElem_toArray, List.getElem_cons_succ, List.getElem_cons_zero, List.setIfInBounds_toArray, List.set_cons_zero, List.set_cons_succ]
            refine wpAnyH_take (i := 15) (v := .pointer (some ⟨(ad3.add (g * 51)).block, (ad3.add (g * 51)).off + 2, none⟩)) rfl (by kernel_rfl) (by kernel_rfl) (by kernel_rfl) (fun _ _ _ h => h) (Or.inl ⟨by kernel_rfl, fun V _ => by kernel_rfl⟩) hgy ?_
            simp only [Act.put, List.getElem_toArray, List.getElem_cons_succ, List.getElem_cons_zero, List.setIfInBounds_toArray, List.set_cons_zero, List.set_cons_succ]
            refine wpAnyH_take (i := 16) (v := .int .u8 (kindN c.y)) rfl (by kernel_rfl) (by kernel_rfl) (by kernel_rfl) (fun _ _ _ h => h) (Or.inl ⟨by kernel_rfl, fun V hV => by have z := hzk.out V hV; go_simp⟩) hgy ?_
            simp only [Act.put, List.getElem_toArray, List.getElem_cons_succ, List.getElem_cons_zero, List.setIfInBounds_toArray, List.set_cons_zero, List.set_cons_succ]
            refine wpAnyH_take (i := 17) (v := .pointer (some ⟨pc, 4, none⟩)) rfl (by kernel_rfl) (by kernel_rfl) (by kernel_rfl) (fun _ _ _ h => h) (Or.inl ⟨by kernel_rfl, fun V _ => by kernel_rfl⟩) hgy ?_
            simp only [Act.put, List.getElem_toArray, List.getElem_cons_succ, List.getElem_cons_zero, List.setIfInBounds_toArray, List.set_cons_zero, List.set_cons_succ]
            refine wpAnyH_take (i := 18) (v := .pointer (some ⟨pc, 6, none⟩)) rfl (by kernel_rfl) (by kernel_rfl) (by kernel_rfl) (fun _ _ _ h => h) (Or.inl ⟨by kernel_rfl, fun V _ => by kernel_rfl⟩) hgy ?_
            simp only [Act.put, List.getElem_toArray, List.getElem_cons_succ, List.getElem_cons_zero, List.setIfInBounds_toArray, List.set_cons_zero, List.set_cons_succ]
            refine wpAnyH_take (i := 19) (v := .int .u8 (kindN c.y)) rfl (by kernel_rfl) (by kernel_rfl) (by kernel_rfl) (fun _ _ _ h => h) (Or.inl ⟨by kernel_rfl, fun V hV => by obtain ⟨⟨⟨c0, c1⟩, c2, c3⟩, e0, e1, e2, e6⟩ := HB.out _ hV; go_simp⟩) hgy ?_
            simp only [Act.put, List.getElem_toArray, List.getElem_cons_succ, List.getElem_cons_zero, List.setIfInBounds_toArray, List.set_cons_zero, List.set_cons_succ]
            refine wpAnyH_take (i := 20) (v := .bool false) rfl (by kernel_rfl) (by kernel_rfl) (by kernel_rfl) (fun _ _ _ h => h) (Or.inl ⟨by kernel_rfl, fun V hV => by go_simp⟩) hgy ?_
            simp only [Act.put, List.getElem_toArray, List.getElem_cons_succ, List.getElem_cons_zero, List.setIfInBounds_toArray, List.set_cons_zero, List.set_cons_succ]
            refine wpAnyH_take (i := 21) (v := .bool false) rfl (by kernel_rfl) (by kernel_rfl) (by kernel_rfl) (fun _ _ _ h => h) (Or.inl ⟨by kernel_rfl, fun V _ => by kernel_rfl⟩) hgy ?_
            simp only [Act.put, List.getElem_toArray, List.getElem_cons_succ, List.getElem_cons_zero, List.setIfInBounds_toArray, List.set_cons_zero, List.set_cons_succ]
            refine wpAnyH_done (by kernel_rfl) ?_ _
            obtain ⟨⟨⟨c0, c1⟩, c2, c3⟩, e0, e1, e2, e6⟩ := HB.out _ hgy
            go_wp2_with fail
            go_ret
            exact ⟨by simp, grown_below (grown_trans hg0'.out (grown_trans hga'.out hgy))⟩
          · have b1 : (c.kd == 1) = false := by simp [hk1]
            have hcn := Lib.hid (show ((cnt j : Nat) : Int) = (n3 : Int) from by have := hce.out; rw [if_neg hk1, hlen.out, hl3'.out] at this; omega)
            clear hk1 hla hce
            go_wp2_with fail
            go_ret
            exact ⟨by simp [hcn.out], grown_below (grown_trans hg0'.out (grown_trans hga'.out hgr))⟩
end Go.Proofs.Ytjnbfgogmhfbiaa
