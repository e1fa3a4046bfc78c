/- The walk of WidthSolves. -/
import Derived.Test.YtjaeoaebkkmaaaaSol
import Derived.Test.YtjaeoaebkkmaaaaRsol
import Derived.Test.YtjaeoaebkkmaaaaFt
import Derived.Test.YtjaeoaebkkmaaaaOpn
namespace Go.Proofs.Ytjaeoaebkkmaaaa
open Go Go.RowKit
set_option maxHeartbeats 400000 in
theorem WidthSolves_walk (w : World) (of : Int) (wo : (Lit.int .i64 of).wf = true) (cs : List Value) (ok : OkAll [.bool, .int .i64, .int .i64, .int .i64, .int .i64, .int .i64, .bool, .bool, .int .i64] cs) :
    Calls Try.prog 3 #[.int .i64 of, .agg ⟨cs⟩] w fun e w' => e = .returned (.bool true) ∧ Below w.heap.size w w' := by
  obtain ⟨is, wd, least, most, left, right, al, ar, edges, ha, rfl⟩ := ask_open ok
  have ho := wf_i64 wo
  have C1 := Lib.hid (fun W => solve_any of _ W ho ha)
  have C2 := Lib.hid (fun W => rsolve_any of _ W ho ha)
  have C3 := Lib.hid (fun W => fitq least most of W)
  have C4 := Lib.hid (fun W => rfitq least most of W ha.2.1 ha.2.2.1 ho)
  clear ok wo ha ho
  generalize solveV of _ = g at *
  obtain ⟨x, y, z, e⟩ := g
  unfold Four.val Ask.val at C1 C2
  go_enter Try.func3, Try.ntmps3
  go_wp2_with fail
  refine (C1.out _).mono ?_; rintro e w1 ⟨rfl, hg1⟩
  obtain ⟨hc, hf⟩ := old_cells hg1
  simp only [World.size_alloc] at hc hf
  go_wp2_with fail
  refine (C2.out _).mono ?_; rintro e w2 ⟨rfl, hg2⟩
  have hg := grown_trans hg1 hg2
  clear hc hf hg1 hg2
  obtain ⟨hc, hf⟩ := old_cells hg
  simp only [World.size_alloc] at hc hf
  go_wp2_with fail
  go_quiet ((first | (go_at_call 12; exact Calls.quiet_of_same (C3.out _)) | (go_at_call 13; exact Calls.quiet_of_same (C4.out _))))
  go_wp2
  go_ret
  exact ⟨by simp, grown_below (grown_drewN (grown_trans (World.grownBy_alloc _ _ _) hg) _)⟩
end Go.Proofs.Ytjaeoaebkkmaaaa
