/- The walk of RingLast, whole. -/
import Derived.Test.YtkailfigoogfeaaRl
import Derived.Test.YtkailfigoogfeaaRl2
namespace Go.Proofs.Ytkailfigoogfeaa
open Go Go.RowKit
theorem RingLast_walk (w : World) (a : Int) (wa : (Lit.int .i64 a).wf = true) (v : Int) (wv : (Lit.int .i64 v).wf = true) :
    Calls Try.prog 5 #[.int .i64 a, .int .i64 v] w fun e w' => e = .returned (.bool true) ∧ Below w.heap.size w w' := by
  have hv := wfI wv
  have hu0 : 0 ≤ IntKind.u64.wrap a := by rw [IntKind.wrap_u64]; omega
  obtain ⟨n, hq⟩ : ∃ n : Nat, (IntKind.u64.wrap a).tmod 301 = n := by
    rw [Int.tmod_eq_emod_of_nonneg hu0]
    exact ⟨(IntKind.u64.wrap a % 301).toNat, by omega⟩
  have hn : n ≤ 300 := by
    rw [Int.tmod_eq_emod_of_nonneg hu0] at hq
    omega
  have hq2 : (IntKind.u64.wrap a) % 301 = n := by rw [← Int.tmod_eq_emod_of_nonneg hu0]; exact hq
  rcases first_of n with h | h
  · exact RingLast_few a v w hv n hq hq2 hn h
  · exact RingLast_many a v w hv n hq hq2 hn h
end Go.Proofs.Ytkailfigoogfeaa
