/- Whether two documents are the same. -/
import Derived.Test.YthbdfibolgaapaaTa
import Derived.Deep.CutBlock
namespace Go.Proofs.Ythbdfibolgaapaa
open Go Go.RowKit
set_option maxRecDepth 100000 in
set_option maxHeartbeats 2000000 in
theorem equal_any (A1 : Option Addr) (n1 c1 : Nat) (L1 : List (List Value)) (A2 : Option Addr) (n2 c2 : Nat) (L2 : List (List Value)) (w : World) (h1 : ∀ y ∈ L1, OkAll nodeLs y) (h2 : ∀ y ∈ L2, OkAll nodeLs y) (l1 : L1.length = n1) (l2 : L2.length = n2)
    (r1 : Reads w w.heap.size A1 L1.flatten) (r2 : Reads w w.heap.size A2 L2.flatten) (hn : n1 ≤ 100000) (hn2 : n2 ≤ 100000) :
    Calls Try.prog 25 #[.slice A1 n1 c1, .slice A2 n2 c2] w fun e w' => e = .returned (.bool (nodesEq L1 L2)) ∧ w.grownBy w' none := by
  by_cases hnn : n1 = n2
  · subst hnn
    have HN := Lib.hid (fun k (hk : k < n1) => show ∃ ad1 ad2 y1 y2, A1 = some ad1 ∧ A2 = some ad2 ∧ L1[k]? = some y1 ∧ L2[k]? = some y2 ∧ OkAll nodeLs y1 ∧ OkAll nodeLs y2 ∧ (∀ q, (Instr.loadAt 36 (.pointer (some (ad1.add (k * 51))))).run Try.prog (w.drewN q) = .ok (.agg y1.toArray) (w.drewN q)) ∧ (∀ q, (Instr.loadAt 36 (.pointer (some (ad2.add (k * 51))))).run Try.prog (w.drewN q) = .ok (.agg y2.toArray) (w.drewN q)) from by
      obtain ⟨ad1, y1, e1, _, e2, e3, e4⟩ := nodes_cell h1 r1 (i := k) (by omega)
      obtain ⟨ad2, y2, f1, _, f2, f3, f4⟩ := nodes_cell h2 r2 (i := k) (by omega)
      exact ⟨ad1, ad2, y1, y2, e1, f1, e2, f2, e3, f3, fun q => run_loadNode _ _ _ e3.len (fun j hj => e4 j hj), fun q => run_loadNode _ _ _ f3.len (fun j hj => f4 j hj)⟩)
    have hnx : ((n1 : Int) != (n1 : Int)) = false := by simp
    have hfin := Lib.hid (fun (hLL : L1 = L2) => show nodesEq L1 L2 = true by rw [hLL]; exact (nodesEq_iff h2 h2).2 rfl)
    have hbad := Lib.hid (fun (hLL : L1 ≠ L2) => nodesEq_false h1 h2 hLL)
    have hl' := Lib.hid (show L1.length = n1 ∧ L2.length = n1 from ⟨l1, l2⟩)
    clear h1 h2 l1 l2 r1 r2
    go_enter Try.func25, Try.ntmps25
    go_wp2_with fail
    go_loopw [5, 13] (fun _ v wr => ∃ k : Nat, k ≤ n1 ∧ v = .int .i64 k ∧ Hid (∀ j, j < k → L1[j]? = L2[j]?) ∧ ∃ q, wr = w.drewN q) (fun _ v _ => n1 - (intOf v).toNat)
    case atStart => exact ⟨0, by omega, rfl, fun j hj => absurd hj (by omega), 0, rfl⟩
    case round =>
      obtain ⟨k, hk, rfl, heq, q, rfl⟩ := hrel
      by_cases hlt : k < n1
      · obtain ⟨ad1, ad2, y1, y2, rfl, rfl, e1, e2, o1, o2, ld1, ld2⟩ := HN.out k hlt
        have ld1 := Lib.hid ld1
        have ld2 := Lib.hid ld2
        cases hq : eqV y1 y2 with
        | true =>
          have hyy := (eqV_iff o1 o2).1 hq
          have hnx := Lib.hid (show ∀ j, j < k + 1 → L1[j]? = L2[j]? from fun j hj => by
            rcases Nat.lt_or_ge j k with h | h
            · exact heq.out j h
            · obtain rfl : j = k := by omega
              rw [e1, e2, hyy])
          have hq' := Lib.hid hq
          clear hq hyy e1 e2 heq
          go_upto_region 6 with fail
          refine wp_region_quiet_lit (by kernel_rfl) (by kernel_rfl) ?_
          repeat (first | go_big_quiet_step (fail) | quiet_step (fail))
          refine quiet_loadNode (by rfl) _ rfl (ad1.add (k * 51)) rfl y1 (fun V hV => by obtain ⟨n, rfl⟩ := hV; rw [World.drewN_drewN]; exact ld1.out _) ?_
          simp only [Act.put, List.setIfInBounds_toArray, List.set_cons_zero, List.set_cons_succ]
          repeat (first | go_big_quiet_step (fail) | quiet_step (fail))
          refine quiet_loadNode (by rfl) _ rfl (ad2.add (k * 51)) rfl y2 (fun V hV => by obtain ⟨n, rfl⟩ := hV; rw [World.drewN_drewN]; exact ld2.out _) ?_
          simp only [Act.put, List.setIfInBounds_toArray, List.set_cons_zero, List.set_cons_succ]
          refine quiet_neqNode (by rfl) _ _ _ rfl y1 y2 rfl rfl o1 o2 true hq'.out ?_
          simp only [Act.put, List.setIfInBounds_toArray, List.set_cons_zero, List.set_cons_succ]
          refine wpQuiet_nil ?_
          intro w9 hw9
          obtain ⟨nq, hw8⟩ := hw9
          subst hw8
          rw [World.drewN_drewN]
          simp only [Bool.not_true]
          go_wp2
          go_roundw
          case rel => exact ⟨k + 1, by omega, by go_num, hnx, _, rfl⟩
          case measure => simp [intOf]; omega
        | false =>
          have hnLL := Lib.hid (show L1 ≠ L2 from fun h => by
            rw [h, e2] at e1
            have := (eqV_iff o1 o2).2 (Option.some.inj e1).symm
            rw [this] at hq
            cases hq)
          have hq' := Lib.hid hq
          clear hq e1 e2 heq
          go_upto_region 6 with fail
          refine wp_region_quiet_lit (by kernel_rfl) (by kernel_rfl) ?_
          repeat (first | go_big_quiet_step (fail) | quiet_step (fail))
          refine quiet_loadNode (by rfl) _ rfl (ad1.add (k * 51)) rfl y1 (fun V hV => by obtain ⟨n, rfl⟩ := hV; rw [World.drewN_drewN]; exact ld1.out _) ?_
          simp only [Act.put, List.setIfInBounds_toArray, List.set_cons_zero, List.set_cons_succ]
          repeat (first | go_big_quiet_step (fail) | quiet_step (fail))
          refine quiet_loadNode (by rfl) _ rfl (ad2.add (k * 51)) rfl y2 (fun V hV => by obtain ⟨n, rfl⟩ := hV; rw [World.drewN_drewN]; exact ld2.out _) ?_
          simp only [Act.put, List.setIfInBounds_toArray, List.set_cons_zero, List.set_cons_succ]
          refine quiet_neqNode (by rfl) _ _ _ rfl y1 y2 rfl rfl o1 o2 false hq'.out ?_
          simp only [Act.put, List.setIfInBounds_toArray, List.set_cons_zero, List.set_cons_succ]
          refine wpQuiet_nil ?_
          intro w9 hw9
          obtain ⟨nq, hw8⟩ := hw9
          subst hw8
          rw [World.drewN_drewN]
          simp only [Bool.not_false]
          go_wp2
          go_ret
          exact ⟨by rw [hbad.out hnLL.out]; rfl, grown_drewN (World.grownBy.refl _ none) _⟩
      · obtain rfl : k = n1 := by omega
        have hLL : L1 = L2 := by
          refine List.ext_getElem? fun j => ?_
          rcases Nat.lt_or_ge j k with h | h
          · exact heq.out j h
          · rw [List.getElem?_eq_none (by have := hl'.out.1; omega), List.getElem?_eq_none (by have := hl'.out.2; omega)]
        have hf := Lib.hid (hfin.out hLL)
        clear hLL
        go_wp2_with fail
        go_ret
        exact ⟨by rw [hf.out]; rfl, grown_drewN (World.grownBy.refl _ none) _⟩
  · have hv : nodesEq L1 L2 = false := nodesEq_false h1 h2 (fun h => hnn (by rw [← l1, ← l2, h]))
    rw [hv]
    have hb : ((n1 : Int) != (n2 : Int)) = true := by simp; omega
    clear hv h1 h2 l1 l2
    go_enter Try.func25, Try.ntmps25
    go_wp2
    go_ret
    exact ⟨rfl, World.grownBy.refl _ _⟩
def docEq (L1 : List (List Value)) (x1 : Int) (L2 : List (List Value)) (x2 : Int) : Bool := decide (x1 = x2) && nodesEq L1 L2
theorem docEq_iff {L1 L2 : List (List Value)} {x1 x2 : Int} (h1 : ∀ y ∈ L1, OkAll nodeLs y) (h2 : ∀ y ∈ L2, OkAll nodeLs y) : docEq L1 x1 L2 x2 = true ↔ x1 = x2 ∧ L1 = L2 := by
  unfold docEq
  rw [Bool.and_eq_true, decide_eq_true_eq, nodesEq_iff h1 h2]
set_option maxRecDepth 100000 in
theorem same_any (A1 : Option Addr) (n1 c1 : Nat) (L1 : List (List Value)) (x1 : Int) (A2 : Option Addr) (n2 c2 : Nat) (L2 : List (List Value)) (x2 : Int) (w : World) (h1 : ∀ y ∈ L1, OkAll nodeLs y) (h2 : ∀ y ∈ L2, OkAll nodeLs y) (l1 : L1.length = n1) (l2 : L2.length = n2)
    (r1 : Reads w w.heap.size A1 L1.flatten) (r2 : Reads w w.heap.size A2 L2.flatten) (hn : n1 ≤ 100000) (hn2 : n2 ≤ 100000) :
    Calls Try.prog 16 #[.agg #[.slice A1 n1 c1, .int .i64 x1], .agg #[.slice A2 n2 c2, .int .i64 x2]] w fun e w' => e = .returned (.bool (docEq L1 x1 L2 x2)) ∧ w.grownBy w' none := by
  have gA := grown_trans (World.grownBy_alloc w (.cells #[.slice A1 n1 c1, .int .i64 x1] 24) none) (World.grownBy_alloc _ (.cells #[.slice A2 n2 c2, .int .i64 x2] 24) none)
  have b1 := (Two.new w 24 (.slice A1 n1 c1) (.int .i64 x1)).kept (World.grownBy_alloc _ (.cells #[.slice A2 n2 c2, .int .i64 x2] 24) none) (by simp)
  have b2 := Two.new (w.alloc (.cells #[.slice A1 n1 c1, .int .i64 x1] 24)) 24 (.slice A2 n2 c2) (.int .i64 x2)
  rw [World.size_alloc] at b2
  have CE := Lib.hid (equal_any A1 n1 c1 L1 A2 n2 c2 L2 _ h1 h2 l1 l2 ((r1.grown0 gA).more gA.size) ((r2.grown0 gA).more gA.size) hn hn2)
  have d1 := b1.c0
  have d2 := b1.c1
  have d3 := b2.c0
  have d4 := b2.c1
  clear h1 h2 l1 l2 r1 r2 b1 b2
  by_cases hx : x1 = x2
  · have hd : docEq L1 x1 L2 x2 = nodesEq L1 L2 := by unfold docEq; simp [hx]
    rw [hd]
    have hxx : (x1 == x2) = true := by simp [hx]
    clear hx hd
    generalize nodesEq L1 L2 = b at *
    go_enter Try.func16, Try.ntmps16
    go_wp2_with fail
    refine CE.out.mono ?_; rintro e w1 ⟨rfl, hg1⟩
    go_wp2_with fail
    go_ret
    exact ⟨rfl, grown_trans gA hg1⟩
  · have hd : docEq L1 x1 L2 x2 = false := by unfold docEq; simp [hx]
    rw [hd]
    have hxx : (x1 == x2) = false := by simp [hx]
    clear hx hd
    go_enter Try.func16, Try.ntmps16
    go_wp2_with fail
    go_ret
    exact ⟨rfl, gA⟩
end Go.Proofs.Ythbdfibolgaapaa
