/- The walks of the two Fit. -/
import Derived.Test.YtjaeoaebkkmaaaaAs
namespace Go.Proofs.Ytjaeoaebkkmaaaa
open Go Go.RowKit
theorem fitq (n least most : Int) (w : World) : Calls Try.prog 12 #[.int .i64 n, .int .i64 least, .int .i64 most] w fun e w' => e = .returned (.int .i64 (min (max n most) least)) ∧ w' = w :=
  (fit_any n least most w).mono fun _ _ ⟨h1, h2⟩ => ⟨h1, h2.symm⟩
theorem rfitq (n least most : Int) (w : World) (_hn : I64 n) (_hl : I64 least) (_hm : I64 most) : Calls Try.prog 13 #[.int .i64 n, .int .i64 least, .int .i64 most] w fun e w' => e = .returned (.int .i64 (min (max n most) least)) ∧ w' = w := by
  unfold I64 at *
  by_cases h1 : most < n
  · by_cases h2 : least < n
    all_goals
      go_enter Try.func13, Try.ntmps13
      go_wp2
      go_ret
      exact ⟨ret_int (by omega), rfl⟩
  · by_cases h2 : least < most
    all_goals
      go_enter Try.func13, Try.ntmps13
      go_wp2
      go_ret
      exact ⟨ret_int (by omega), rfl⟩
end Go.Proofs.Ytjaeoaebkkmaaaa
