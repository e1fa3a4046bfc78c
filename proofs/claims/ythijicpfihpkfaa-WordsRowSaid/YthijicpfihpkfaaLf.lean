/- The walk of WordsFolded. -/
import Derived.Test.YthijicpfihpkfaaAk
namespace Go.Proofs.Ythijicpfihpkfaa
open Go Go.RowKit
theorem ret_bool {b : Bool} (h : b = true) : Ending.returned (.bool b) = .returned (.bool true) := by rw [h]
theorem wfI64 {n : Int} (h : (Lit.int .i64 n).wf = true) : -9223372036854775808 ≤ n ∧ n ≤ 9223372036854775807 := by simpa [Lit.wf, IntKind.min, IntKind.max, IntKind.signed, IntKind.bits] using h
theorem wfU64 {n : Int} (h : (Lit.int .u64 n).wf = true) : 0 ≤ n ∧ n ≤ 18446744073709551615 := by simpa [Lit.wf, IntKind.min, IntKind.max, IntKind.signed, IntKind.bits] using h
theorem foldV_bd (i : Int) (h1 : -9223372036854775808 ≤ i) (h2 : i ≤ 9223372036854775807) : 0 ≤ foldV i ∧ foldV i ≤ 18446744073709551615 := by
  unfold foldV
  split <;> omega
theorem unfoldV_bd (n : Int) (h1 : 0 ≤ n) (h2 : n ≤ 18446744073709551615) : -9223372036854775808 ≤ unfoldV n ∧ unfoldV n ≤ 9223372036854775807 := by
  unfold unfoldV
  split <;> omega
set_option maxHeartbeats 1000000 in
theorem WordsFolded_walk (w : World) (i : Int) (wi : (Lit.int .i64 i).wf = true) (k : Int) (wk : (Lit.int .i64 k).wf = true) (n : Int) (wn : (Lit.int .u64 n).wf = true) :
    Calls Try.prog 7 #[.int .i64 i, .int .i64 k, .int .u64 n] w fun e w' => e = .returned (.bool true) ∧ Below w.heap.size w w' := by
  have hi := wfI64 wi
  have hk := wfI64 wk
  have hn := wfU64 wn
  have bi := foldV_bd i hi.1 hi.2
  have bk := foldV_bd k hk.1 hk.2
  have bu := unfoldV_bd n hn.1 hn.2
  have Ci := Lib.hid (fun W => fold_any i W hi.1 hi.2)
  have Ck := Lib.hid (fun W => fold_any k W hk.1 hk.2)
  have Cui := Lib.hid (fun W => unfold_any (foldV i) W bi.1 bi.2)
  have Cun := Lib.hid (fun W => unfold_any n W hn.1 hn.2)
  have Cfn := Lib.hid (fun W => fold_any (unfoldV n) W bu.1 bu.2)
  rw [unfold_fold] at Cui
  rw [fold_unfold n hn.1] at Cfn
  have hxi : foldV i = if i < 0 then 2 * (-(i + 1)) + 1 else 2 * i := rfl
  have hxk : foldV k = if k < 0 then 2 * (-(k + 1)) + 1 else 2 * k := rfl
  generalize foldV i = x at *
  generalize foldV k = y at *
  generalize unfoldV n = m at *
  have key : (i < 0 ∧ k < 0 ∧ k < i ∧ x < y ∧ (x % 2 == 1) = true) ∨ (i < 0 ∧ k < 0 ∧ i ≤ k ∧ y ≤ x ∧ (x % 2 == 1) = true) ∨ (0 ≤ i ∧ 0 ≤ k ∧ i < k ∧ x < y ∧ (x % 2 == 1) = false) ∨ (0 ≤ i ∧ 0 ≤ k ∧ k ≤ i ∧ y ≤ x ∧ (x % 2 == 1) = false)
      ∨ (i < 0 ∧ 0 ≤ k ∧ (x != y) = true ∧ (x % 2 == 1) = true) ∨ (0 ≤ i ∧ k < 0 ∧ (x != y) = true ∧ (x % 2 == 1) = false) := by
    by_cases h1 : i < 0
    · rw [if_pos h1] at hxi
      have h3 : (x % 2 == 1) = true := by simp; omega
      by_cases h2 : k < 0
      · rw [if_pos h2] at hxk
        by_cases h4 : k < i
        · exact .inl ⟨h1, h2, h4, by omega, h3⟩
        · exact .inr (.inl ⟨h1, h2, by omega, by omega, h3⟩)
      · rw [if_neg h2] at hxk
        exact .inr (.inr (.inr (.inr (.inl ⟨h1, by omega, by simp; omega, h3⟩))))
    · rw [if_neg h1] at hxi
      have h3 : (x % 2 == 1) = false := by simp; omega
      by_cases h2 : k < 0
      · rw [if_pos h2] at hxk
        exact .inr (.inr (.inr (.inr (.inr ⟨by omega, h2, by simp; omega, h3⟩))))
      · rw [if_neg h2] at hxk
        by_cases h4 : i < k
        · exact .inr (.inr (.inl ⟨by omega, by omega, h4, by omega, h3⟩))
        · exact .inr (.inr (.inr (.inl ⟨by omega, by omega, by omega, by omega, h3⟩)))
  clear hxi hxk wi wk wn
  rcases key with ⟨h1, h2, h3, h4, h5⟩ | ⟨h1, h2, h3, h4, h5⟩ | ⟨h1, h2, h3, h4, h5⟩ | ⟨h1, h2, h3, h4, h5⟩ | ⟨h1, h2, h3, h5⟩ | ⟨h1, h2, h3, h5⟩
  · have hd1 : decide (i < 0) = true := by simp; omega
    have hd2 : decide (k < 0) = true := by simp; omega
    go_enter Try.func7, Try.ntmps7
    go_wp2_with fail
    refine (awake_any _).mono ?_; rintro e w1 ⟨rfl, hg1⟩
    go_wp2_with fail
    refine (Ci.out _).mono ?_; rintro e w2 ⟨rfl, rfl⟩
    go_wp2_with fail
    refine (Ck.out _).mono ?_; rintro e w2 ⟨rfl, rfl⟩
    go_wp2_with fail
    refine (Cui.out _).mono ?_; rintro e w2 ⟨rfl, rfl⟩
    go_wp2_with fail
    refine (Cun.out _).mono ?_; rintro e w2 ⟨rfl, rfl⟩
    go_wp2_with fail
    refine (Cfn.out _).mono ?_; rintro e w2 ⟨rfl, rfl⟩
    go_wp2
    all_goals
      go_ret
      refine ⟨ret_bool ?_, grown_below hg1⟩
      first | rfl | exact h3 | (simp only [beq_iff_eq, decide_eq_decide]; omega)
  · have hd1 : decide (i < 0) = true := by simp; omega
    have hd2 : decide (k < 0) = true := by simp; omega
    go_enter Try.func7, Try.ntmps7
    go_wp2_with fail
    refine (awake_any _).mono ?_; rintro e w1 ⟨rfl, hg1⟩
    go_wp2_with fail
    refine (Ci.out _).mono ?_; rintro e w2 ⟨rfl, rfl⟩
    go_wp2_with fail
    refine (Ck.out _).mono ?_; rintro e w2 ⟨rfl, rfl⟩
    go_wp2_with fail
    refine (Cui.out _).mono ?_; rintro e w2 ⟨rfl, rfl⟩
    go_wp2_with fail
    refine (Cun.out _).mono ?_; rintro e w2 ⟨rfl, rfl⟩
    go_wp2_with fail
    refine (Cfn.out _).mono ?_; rintro e w2 ⟨rfl, rfl⟩
    go_wp2
    all_goals
      go_ret
      refine ⟨ret_bool ?_, grown_below hg1⟩
      first | rfl | exact h3 | (simp only [beq_iff_eq, decide_eq_decide]; omega)
  · have hd1 : decide (i < 0) = false := by simp; omega
    have hd2 : decide (k < 0) = false := by simp; omega
    go_enter Try.func7, Try.ntmps7
    go_wp2_with fail
    refine (awake_any _).mono ?_; rintro e w1 ⟨rfl, hg1⟩
    go_wp2_with fail
    refine (Ci.out _).mono ?_; rintro e w2 ⟨rfl, rfl⟩
    go_wp2_with fail
    refine (Ck.out _).mono ?_; rintro e w2 ⟨rfl, rfl⟩
    go_wp2_with fail
    refine (Cui.out _).mono ?_; rintro e w2 ⟨rfl, rfl⟩
    go_wp2_with fail
    refine (Cun.out _).mono ?_; rintro e w2 ⟨rfl, rfl⟩
    go_wp2_with fail
    refine (Cfn.out _).mono ?_; rintro e w2 ⟨rfl, rfl⟩
    go_wp2
    all_goals
      go_ret
      refine ⟨ret_bool ?_, grown_below hg1⟩
      first | rfl | exact h3 | (simp only [beq_iff_eq, decide_eq_decide]; omega)
  · have hd1 : decide (i < 0) = false := by simp; omega
    have hd2 : decide (k < 0) = false := by simp; omega
    go_enter Try.func7, Try.ntmps7
    go_wp2_with fail
    refine (awake_any _).mono ?_; rintro e w1 ⟨rfl, hg1⟩
    go_wp2_with fail
    refine (Ci.out _).mono ?_; rintro e w2 ⟨rfl, rfl⟩
    go_wp2_with fail
    refine (Ck.out _).mono ?_; rintro e w2 ⟨rfl, rfl⟩
    go_wp2_with fail
    refine (Cui.out _).mono ?_; rintro e w2 ⟨rfl, rfl⟩
    go_wp2_with fail
    refine (Cun.out _).mono ?_; rintro e w2 ⟨rfl, rfl⟩
    go_wp2_with fail
    refine (Cfn.out _).mono ?_; rintro e w2 ⟨rfl, rfl⟩
    go_wp2
    all_goals
      go_ret
      refine ⟨ret_bool ?_, grown_below hg1⟩
      first | rfl | exact h3 | (simp only [beq_iff_eq, decide_eq_decide]; omega)
  · have hd1 : decide (i < 0) = true := by simp; omega
    have hd2 : decide (k < 0) = false := by simp; omega
    go_enter Try.func7, Try.ntmps7
    go_wp2_with fail
    refine (awake_any _).mono ?_; rintro e w1 ⟨rfl, hg1⟩
    go_wp2_with fail
    refine (Ci.out _).mono ?_; rintro e w2 ⟨rfl, rfl⟩
    go_wp2_with fail
    refine (Ck.out _).mono ?_; rintro e w2 ⟨rfl, rfl⟩
    go_wp2_with fail
    refine (Cui.out _).mono ?_; rintro e w2 ⟨rfl, rfl⟩
    go_wp2_with fail
    refine (Cun.out _).mono ?_; rintro e w2 ⟨rfl, rfl⟩
    go_wp2_with fail
    refine (Cfn.out _).mono ?_; rintro e w2 ⟨rfl, rfl⟩
    go_wp2
    all_goals
      go_ret
      refine ⟨ret_bool ?_, grown_below hg1⟩
      first | rfl | exact h3 | (simp only [beq_iff_eq, decide_eq_decide]; omega)
  · have hd1 : decide (i < 0) = false := by simp; omega
    have hd2 : decide (k < 0) = true := by simp; omega
    go_enter Try.func7, Try.ntmps7
    go_wp2_with fail
    refine (awake_any _).mono ?_; rintro e w1 ⟨rfl, hg1⟩
    go_wp2_with fail
    refine (Ci.out _).mono ?_; rintro e w2 ⟨rfl, rfl⟩
    go_wp2_with fail
    refine (Ck.out _).mono ?_; rintro e w2 ⟨rfl, rfl⟩
    go_wp2_with fail
    refine (Cui.out _).mono ?_; rintro e w2 ⟨rfl, rfl⟩
    go_wp2_with fail
    refine (Cun.out _).mono ?_; rintro e w2 ⟨rfl, rfl⟩
    go_wp2_with fail
    refine (Cfn.out _).mono ?_; rintro e w2 ⟨rfl, rfl⟩
    go_wp2
    all_goals
      go_ret
      refine ⟨ret_bool ?_, grown_below hg1⟩
      first | rfl | exact h3 | (simp only [beq_iff_eq, decide_eq_decide]; omega)
end Go.Proofs.Ythijicpfihpkfaa
