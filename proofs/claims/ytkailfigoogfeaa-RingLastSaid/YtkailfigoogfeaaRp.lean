/- Helpers for the walk of RingLast. -/
import Derived.Test.YtkailfigoogfeaaRa
namespace Go.Proofs.Ytkailfigoogfeaa
open Go Go.RowKit
theorem same_num (A : Option Addr) (A2 : Option Addr) (c c2 : Nat) (k : Nat) (hk : k ≤ 1000000) (u : Int) (hu : u = (k : Int)) (w : World) (r1 : Reads w w.heap.size A [keyNode u].flatten) (r2 : Reads w w.heap.size A2 [keyNode u].flatten) :
    Calls Try.prog 11 #[.agg #[.slice A 1 c, .int .i64 u], .agg #[.slice A2 1 c2, .int .i64 u]] w fun e w' => e = .returned (.bool true) ∧ w.grownBy w' none := by
  subst hu
  have := dsame_any A 1 c [keyNode (k : Int)] (k : Int) A2 1 c2 [keyNode (k : Int)] (k : Int) w (keyNodes_ok k hk) (keyNodes_ok k hk) rfl rfl r1 r2 (by omega) (by omega)
  have h1 : docEq [keyNode (k : Int)] (k : Int) [keyNode (k : Int)] (k : Int) = true := by
    unfold docEq
    rw [(nodesEq_iff (keyNodes_ok k hk) (keyNodes_ok k hk)).2 rfl]
    simp
  rwa [h1] at this
/-- Where the oldest version that is kept stands, behind n more. -/
theorem first_of (n : Nat) : (n ≤ 3 ∧ firstOf (n + 1) = 1) ∨ (4 ≤ n ∧ firstOf (n + 1) = n - 2) := by
  have hf : firstOf (n + 1) = max 1 (n + 1 - 3) := if_neg (by omega)
  rcases Nat.lt_or_ge 3 n with h | h
  · exact .inr ⟨by omega, by omega⟩
  · exact .inl ⟨by omega, by omega⟩
end Go.Proofs.Ytkailfigoogfeaa
