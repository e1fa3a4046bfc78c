/- The walks of Part and Resolve: the program's and the document's. -/
import Derived.Test.YtjaeoaebkkmaaaaRes
namespace Go.Proofs.Ytjaeoaebkkmaaaa
open Go Go.RowKit
def two (p : Int × Int) : Value := .tuple #[.int .i64 p.1, .int .i64 p.2]

theorem prod_bd {n of : Int} (h1 : 0 ≤ n) (h2 : n ≤ 100000) (h3 : -1099511627776 ≤ of) (h4 : of ≤ 1099511627776) : -109951162777600000 ≤ n * of ∧ n * of ≤ 109951162777600000 := by
  have a1 : n * of ≤ n * 1099511627776 := Int.mul_le_mul_of_nonneg_left h4 h1
  have a2 : n * (-1099511627776) ≤ n * of := Int.mul_le_mul_of_nonneg_left h3 h1
  omega
theorem tdiv_bd {x : Int} (h1 : -109951162777600000 ≤ x) (h2 : x ≤ 109951162777600000) : -109951162777600000 ≤ x.tdiv 10000 ∧ x.tdiv 10000 ≤ 109951162777600000 := by
  rcases Int.lt_or_le x 0 with h | h
  · have := Int.neg_tdiv (-x) 10000
    rw [Int.neg_neg] at this
    rw [this, Int.tdiv_eq_ediv_of_nonneg (by omega)]
    omega
  · rw [Int.tdiv_eq_ediv_of_nonneg h]
    omega

theorem part_any (n of : Int) (w : World) (h1 : -9223372036854775808 ≤ n) (h2 : n ≤ 9223372036854775807) (h3 : -9223372036854775808 ≤ of) (h4 : of ≤ 9223372036854775807) :
    Calls Try.prog 40 #[.int .i64 n, .int .i64 of] w fun e w' => e = .returned (two (partV n of)) ∧ w.grownBy w' none := by
  have C1 := Lib.hid (fun W e B hB => fits1 of W h3 h4 e B hB)
  by_cases hn : n < 0
  · have hv := Lib.hid (show partV n of = (0, 2) by unfold partV; rw [if_pos (.inl hn)])
    go_enter Try.func40, Try.ntmps40
    go_wp2
    go_ret2
    exact ⟨by rw [hv.out]; rfl, World.grownBy.refl _ _⟩
  by_cases hn2 : 100000 < n
  · have hv := Lib.hid (show partV n of = (0, 2) by unfold partV; rw [if_pos (.inr hn2)])
    go_enter Try.func40, Try.ntmps40
    go_wp2
    go_ret2
    exact ⟨by rw [hv.out]; rfl, World.grownBy.refl _ _⟩
  cases hf : far of with
  | true =>
    have hv := Lib.hid (show partV n of = (0, 10) by unfold partV; rw [if_neg (by omega), if_pos hf])
    rw [hf] at C1
    clear hf
    go_enter Try.func40, Try.ntmps40
    go_wp2_with fail
    refine (C1.out _ _ _ (by simp)).mono ?_; rintro e w1 ⟨rfl, rfl⟩
    go_wp2
    go_ret2
    exact ⟨by rw [hv.out]; rfl, World.grownBy_alloc _ _ _⟩
  | false =>
    have hr := far_false.1 hf
    have hp := prod_bd (n := n) (of := of) (by omega) (by omega) hr.1 hr.2
    have ht := tdiv_bd hp.1 hp.2
    have hv := Lib.hid (show (if far ((n * of).tdiv 10000) then #[Value.int .i64 0, .int .i64 10] else #[.int .i64 ((n * of).tdiv 10000), .int .i64 0]) = #[.int .i64 (partV n of).1, .int .i64 (partV n of).2] by
      unfold partV; rw [if_neg (show ¬ (n < 0 ∨ 100000 < n) by omega), hf]
      cases far ((n * of).tdiv 10000) <;> rfl)
    have CT := Lib.hid (fun W => told0 ((n * of).tdiv 10000) W (by omega) (by omega))
    rw [hv.out] at CT
    clear hv
    rw [hf] at C1
    clear hf
    go_enter Try.func40, Try.ntmps40
    go_wp2_with fail
    refine (C1.out _ _ _ (by simp)).mono ?_; rintro e w1 ⟨rfl, rfl⟩
    go_wp2_with fail
    refine (CT.out _).mono ?_; rintro e w1 ⟨rfl, hg⟩
    go_wp2
    go_ret2
    exact ⟨rfl, grown_trans (World.grownBy_alloc _ _ _) hg⟩

theorem rpart_any (n of : Int) (w : World) (h1 : -9223372036854775808 ≤ n) (h2 : n ≤ 9223372036854775807) (h3 : -9223372036854775808 ≤ of) (h4 : of ≤ 9223372036854775807) :
    Calls Try.prog 46 #[.int .i64 n, .int .i64 of] w fun e w' => e = .returned (two (partV n of)) ∧ w.grownBy w' none := by
  have C1 := Lib.hid (fun W => rfits of W h3 h4)
  by_cases hn : n < 0
  · have hv := Lib.hid (show partV n of = (0, 2) by unfold partV; rw [if_pos (.inl hn)])
    go_enter Try.func46, Try.ntmps46
    go_wp2
    go_ret2
    exact ⟨by rw [hv.out]; rfl, World.grownBy.refl _ _⟩
  by_cases hn2 : 100000 < n
  · have hv := Lib.hid (show partV n of = (0, 2) by unfold partV; rw [if_pos (.inr hn2)])
    go_enter Try.func46, Try.ntmps46
    go_wp2
    go_ret2
    exact ⟨by rw [hv.out]; rfl, World.grownBy.refl _ _⟩
  cases hf : far of with
  | true =>
    have hv := Lib.hid (show partV n of = (0, 10) by unfold partV; rw [if_neg (by omega), if_pos hf])
    rw [hf] at C1
    clear hf
    go_enter Try.func46, Try.ntmps46
    go_wp2_with fail
    refine (C1.out _).mono ?_; rintro e w1 ⟨rfl, rfl⟩
    go_wp2
    go_ret2
    exact ⟨by rw [hv.out]; rfl, World.grownBy.refl _ _⟩
  | false =>
    have hr := far_false.1 hf
    have hp := prod_bd (n := n) (of := of) (by omega) (by omega) hr.1 hr.2
    have ht := tdiv_bd hp.1 hp.2
    rw [Int.mul_comm] at hp
    rw [Int.mul_comm] at ht
    have hv : partV n of = if far ((of * n).tdiv 10000) then (0, 10) else ((of * n).tdiv 10000, 0) := by
      unfold partV; rw [if_neg (by omega), hf, Int.mul_comm]; rfl
    have CT := Lib.hid (fun W => rfits ((of * n).tdiv 10000) W (by omega) (by omega))
    rw [hf] at C1
    clear hf
    cases hf2 : far ((of * n).tdiv 10000) with
    | true =>
      rw [hf2] at hv CT
      rw [if_pos rfl] at hv
      clear hf2
      have hv' := Lib.hid hv; clear hv
      go_enter Try.func46, Try.ntmps46
      go_wp2_with fail
      refine (C1.out _).mono ?_; rintro e w1 ⟨rfl, rfl⟩
      go_wp2_with fail
      refine (CT.out _).mono ?_; rintro e w1 ⟨rfl, rfl⟩
      go_wp2
      go_ret2
      exact ⟨by rw [hv'.out]; rfl, World.grownBy.refl _ _⟩
    | false =>
      rw [hf2] at hv CT
      rw [if_neg (by simp)] at hv
      clear hf2
      have hv' := Lib.hid hv; clear hv
      go_enter Try.func46, Try.ntmps46
      go_wp2_with fail
      refine (C1.out _).mono ?_; rintro e w1 ⟨rfl, rfl⟩
      go_wp2_with fail
      refine (CT.out _).mono ?_; rintro e w1 ⟨rfl, rfl⟩
      go_wp2
      go_ret2
      exact ⟨by rw [hv'.out]; rfl, World.grownBy.refl _ _⟩
end Go.Proofs.Ytjaeoaebkkmaaaa
