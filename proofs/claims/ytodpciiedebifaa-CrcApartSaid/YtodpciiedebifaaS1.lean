/- The walk of the sum's closure. -/
import Derived.Test.YtodpciiedebifaaT1
import Derived.Test.YtodpciiedebifaaW1
import Derived.StillTailTactics
import Derived.Deep.QuietTactic
import Derived.BigQuiet
namespace Go.Proofs.Ytodpciiedebifaa
open Go Go.RowKit
theorem reg_lt (l : List Nat) (hb : Byt l) (k : Nat) : reg l k < 4294967296 := by
  induction k with
  | zero => simp [reg]
  | succ k ih => exact dvd_lt _ _ ih (rev8_lt _ (hb.nth k))

/-- A cell of its own, whatever else there is. -/
def One (w : World) (g : Nat) (t : TypeId) (v : Value) : Prop := w.heap[g]? = some (.cells #[v] t (0, 0))

theorem sum1_any (x l g : Nat) (w : World) (hx : x < 256) (hl : l < 4294967296) (hg : One w g 26 (.int .u32 l)) :
    Calls Try.prog 29 #[.int .u8 x, .pointer (some ⟨g, 0, none⟩)] w fun e w' => e = .returned (.tuple #[]) ∧ One w' g 26 (.int .u32 (dvd l (rev8 x) : Nat)) ∧ w.grownBy w' (some g) := by
  have hc : w.cell? ⟨g, 0, none⟩ = some (.int .u32 l) := cell_of_one hg
  have hf : w.frozen? ⟨g, 0, none⟩ = false := free_of_one hg
  have hr := rev8_lt x hx
  go_enter Try.func29, Try.ntmps29
  go_wp2
  go_still_tail 4, (by kernel_rfl)
  still_call ((rev8_any _ _ hx).mono fun e w' h => ⟨h.1, h.2.symm⟩)
  still_call ((div_any _ _ _ hr hl).mono fun e w' h => ⟨h.1, h.2.symm⟩)
  refine wpStill_nil ?_
  go_wp2
  go_end0
  exact ⟨rfl, one_setCell (w := w.drew) hg, grown_trans (grown_drew (World.grownBy.refl w _)) (grownBy_setCell _ _ _ _)⟩

end Go.Proofs.Ytodpciiedebifaa
