/- The walks of the two Resolve and of StyleLengths. -/
import Derived.Test.YtjaeoaebkkmaaaaRes2
import Derived.Test.YtjaeoaebkkmaaaaFlat
namespace Go.Proofs.Ytjaeoaebkkmaaaa
open Go Go.RowKit
structure Got where
  n : Int
  is : Bool
  e : Int
def Got.val (g : Got) : Value := .tuple #[.int .i64 g.n, .bool g.is, .int .i64 g.e]
def resV (k n of : Int) : Got :=
  if k = 1 then (if far n then ⟨0, false, 10⟩ else ⟨n, true, 0⟩) else if k = 2 then ⟨(partV n of).1, (partV n of).2 == 0, (partV n of).2⟩ else ⟨0, false, 0⟩
def len2 (k n : Int) : Value := .agg #[.int .u8 k, .int .i64 n]


set_option maxHeartbeats 400000 in
theorem resolve_any (k n of : Int) (w : World) (k1 : 0 ≤ k) (k2 : k ≤ 255) (h1 : -9223372036854775808 ≤ n) (h2 : n ≤ 9223372036854775807) (h3 : -9223372036854775808 ≤ of) (h4 : of ≤ 9223372036854775807) :
    Calls Try.prog 27 #[len2 k n, .int .i64 of] w fun e w' => e = .returned (resV k n of).val ∧ w.grownBy w' none := by
  have C1 := Lib.hid (fun W e B hB => fits1 n W h1 h2 e B hB)
  have C2 := Lib.hid (fun W => part_any n of W h1 h2 h3 h4)
  unfold two at C2
  unfold len2
  by_cases hk1 : k = 1
  · subst hk1
    have hv := Lib.hid (show resV 1 n of = if far n then ⟨0, false, 10⟩ else ⟨n, true, 0⟩ by unfold resV; rw [if_pos rfl])
    cases hf : far n with
    | true =>
      rw [hf] at C1 hv
      clear hf C2
      go_enter Try.func27, Try.ntmps27
      go_wp2_with fail
      refine (C1.out _ _ _ (by simp)).mono ?_; rintro e w1 ⟨rfl, rfl⟩
      go_wp2
      go_ret3
      exact ⟨by rw [hv.out]; rfl, grown_trans (World.grownBy_alloc _ _ _) (World.grownBy_alloc _ _ _)⟩
    | false =>
      rw [hf] at C1 hv
      clear hf C2
      go_enter Try.func27, Try.ntmps27
      go_wp2_with fail
      refine (C1.out _ _ _ (by simp)).mono ?_; rintro e w1 ⟨rfl, rfl⟩
      go_wp2
      go_ret3
      exact ⟨by rw [hv.out]; rfl, grown_trans (World.grownBy_alloc _ _ _) (World.grownBy_alloc _ _ _)⟩
  by_cases hk2 : k = 2
  · subst hk2
    have hv := Lib.hid (show resV 2 n of = ⟨(partV n of).1, (partV n of).2 == 0, (partV n of).2⟩ by unfold resV; rw [if_neg (by omega), if_pos rfl])
    clear hk1 C1
    generalize partV n of = pr at *
    obtain ⟨x, y⟩ := pr
    go_enter Try.func27, Try.ntmps27
    go_wp2_with fail
    refine (C2.out _).mono ?_; rintro e w1 ⟨rfl, hg⟩
    go_wp2
    go_ret3
    exact ⟨by rw [hv.out]; rfl, grown_trans (World.grownBy_alloc _ _ _) hg⟩
  · have hv := Lib.hid (show resV k n of = ⟨0, false, 0⟩ by unfold resV; rw [if_neg hk1, if_neg hk2])
    have hb1 : (k == 1) = false := by simp [hk1]
    have hb2 : (k == 2) = false := by simp [hk2]
    clear hk1 hk2 C1 C2
    go_enter Try.func27, Try.ntmps27
    go_wp2
    go_ret3
    exact ⟨by rw [hv.out]; rfl, World.grownBy_alloc _ _ _⟩

set_option maxHeartbeats 400000 in
theorem rresolve_any (k n of : Int) (w : World) (k1 : 0 ≤ k) (k2 : k ≤ 255) (h1 : -9223372036854775808 ≤ n) (h2 : n ≤ 9223372036854775807) (h3 : -9223372036854775808 ≤ of) (h4 : of ≤ 9223372036854775807) :
    Calls Try.prog 32 #[len2 k n, .int .i64 of] w fun e w' => e = .returned (resV k n of).val ∧ w.grownBy w' none := by
  have C1 := Lib.hid (fun W => rfits n W h1 h2)
  have C2 := Lib.hid (fun W => rpart_any n of W h1 h2 h3 h4)
  unfold two at C2
  unfold len2
  by_cases hk1 : k = 1
  · subst hk1
    have hv := Lib.hid (show resV 1 n of = if far n then ⟨0, false, 10⟩ else ⟨n, true, 0⟩ by unfold resV; rw [if_pos rfl])
    cases hf : far n with
    | true =>
      rw [hf] at C1 hv
      clear hf C2
      go_enter Try.func32, Try.ntmps32
      go_wp2_with fail
      refine (C1.out _).mono ?_; rintro e w1 ⟨rfl, rfl⟩
      go_wp2
      go_ret3
      exact ⟨by rw [hv.out]; rfl, World.grownBy_alloc _ _ _⟩
    | false =>
      rw [hf] at C1 hv
      clear hf C2
      go_enter Try.func32, Try.ntmps32
      go_wp2_with fail
      refine (C1.out _).mono ?_; rintro e w1 ⟨rfl, rfl⟩
      go_wp2
      go_ret3
      exact ⟨by rw [hv.out]; rfl, World.grownBy_alloc _ _ _⟩
  by_cases hk2 : k = 2
  · subst hk2
    have hv := Lib.hid (show resV 2 n of = ⟨(partV n of).1, (partV n of).2 == 0, (partV n of).2⟩ by unfold resV; rw [if_neg (by omega), if_pos rfl])
    clear hk1 C1
    generalize partV n of = pr at *
    obtain ⟨x, y⟩ := pr
    go_enter Try.func32, Try.ntmps32
    go_wp2_with fail
    refine (C2.out _).mono ?_; rintro e w1 ⟨rfl, hg⟩
    go_wp2
    go_ret3
    exact ⟨by rw [hv.out]; rfl, grown_trans (World.grownBy_alloc _ _ _) hg⟩
  · have hv := Lib.hid (show resV k n of = ⟨0, false, 0⟩ by unfold resV; rw [if_neg hk1, if_neg hk2])
    have hb1 : (k == 1) = false := by simp [hk1]
    have hb2 : (k == 2) = false := by simp [hk2]
    clear hk1 hk2 C1 C2
    go_enter Try.func32, Try.ntmps32
    go_wp2
    go_ret3
    exact ⟨by rw [hv.out]; rfl, World.grownBy_alloc _ _ _⟩
end Go.Proofs.Ytjaeoaebkkmaaaa
