/- The walks of Fold, Unfold, Size, the program's and the document's. -/
import Derived.Test.YthijicpfihpkfaaWpl
import Derived.Test.YthijicpfihpkfaaMem
import Derived.Test.YthijicpfihpkfaaRows
namespace Go.Proofs.Ythijicpfihpkfaa
open Go Go.RowKit
theorem foldv_lo {i : Int} (h : i < 0) : foldV i = 2 * (-(i + 1)) + 1 := if_pos h
theorem foldv_hi {i : Int} (h : ¬ i < 0) : foldV i = 2 * i := if_neg h
theorem fold_any (i : Int) (w : World) (_h1 : -9223372036854775808 ≤ i) (_h2 : i ≤ 9223372036854775807) :
    Calls Try.prog 22 #[.int .i64 i] w fun e w' => e = .returned (.int .u64 (foldV i)) ∧ w = w' := by
  by_cases h : i < 0
  · have hv := Lib.hid (foldv_lo h)
    go_enter Try.func22, Try.ntmps22
    go_wp2
    go_ret
    exact ⟨ret_int (by have := hv.out; omega), rfl⟩
  · have hv := Lib.hid (foldv_hi h)
    go_enter Try.func22, Try.ntmps22
    go_wp2
    go_ret
    exact ⟨ret_int (by have := hv.out; omega), rfl⟩
theorem rfold_any (i : Int) (w : World) (_h1 : -9223372036854775808 ≤ i) (_h2 : i ≤ 9223372036854775807) :
    Calls Try.prog 23 #[.int .i64 i] w fun e w' => e = .returned (.int .u64 (foldV i)) ∧ w = w' := by
  by_cases h : i < 0
  · have hv := Lib.hid (foldv_lo h)
    go_enter Try.func23, Try.ntmps23
    go_wp2
    go_ret
    exact ⟨ret_int (by have := hv.out; omega), rfl⟩
  · have hv := Lib.hid (foldv_hi h)
    go_enter Try.func23, Try.ntmps23
    go_wp2
    go_ret
    exact ⟨ret_int (by have := hv.out; omega), rfl⟩
theorem unfold_any (n : Int) (w : World) (_h1 : 0 ≤ n) (_h2 : n ≤ 18446744073709551615) :
    Calls Try.prog 24 #[.int .u64 n] w fun e w' => e = .returned (.int .i64 (unfoldV n)) ∧ w = w' := by
  by_cases h : n % 2 = 1
  · have hv := Lib.hid (show unfoldV n = -(n / 2) - 1 from if_pos h)
    have hb : (n % 2 == 1) = true := by simp [h]
    clear h
    go_enter Try.func24, Try.ntmps24
    go_wp2
    go_ret
    exact ⟨ret_int (by have := hv.out; omega), rfl⟩
  · have hv := Lib.hid (show unfoldV n = n / 2 from if_neg h)
    have hb : (n % 2 == 1) = false := by simp [h]
    clear h
    go_enter Try.func24, Try.ntmps24
    go_wp2
    go_ret
    exact ⟨ret_int (by have := hv.out; omega), rfl⟩
theorem runfold_any (n : Int) (w : World) (_h1 : 0 ≤ n) (_h2 : n ≤ 18446744073709551615) :
    Calls Try.prog 25 #[.int .u64 n] w fun e w' => e = .returned (.int .i64 (unfoldV n)) ∧ w = w' := by
  by_cases h : n % 2 = 1
  · have hv := Lib.hid (show unfoldV n = -(n / 2) - 1 from if_pos h)
    have hb : (n % 2 == 0) = false := by simp; omega
    clear h
    go_enter Try.func25, Try.ntmps25
    go_wp2
    go_ret
    exact ⟨ret_int (by have := hv.out; omega), rfl⟩
  · have hv := Lib.hid (show unfoldV n = n / 2 from if_neg h)
    have hb : (n % 2 == 0) = true := by simp; omega
    clear h
    go_enter Try.func25, Try.ntmps25
    go_wp2
    go_ret
    exact ⟨ret_int (by have := hv.out; omega), rfl⟩
end Go.Proofs.Ythijicpfihpkfaa
