/- The walk of StyleLengths. -/
import Derived.Test.YtkpfhhfecjeflaaWk1
namespace Go.Proofs.Ytkpfhhfecjeflaa
open Go Go.RowKit
theorem wf_i64 {n : Int} (h : (Lit.int .i64 n).wf = true) : -9223372036854775808 ≤ n ∧ n ≤ 9223372036854775807 := by simpa [Lit.wf, IntKind.min, IntKind.max, IntKind.signed, IntKind.bits] using h
theorem wf_u8 {n : Int} (h : (Lit.int .u8 n).wf = true) : 0 ≤ n ∧ n ≤ 255 := by simpa [Lit.wf, IntKind.min, IntKind.max, IntKind.signed, IntKind.bits] using h

theorem StyleLengths_walk (w : World) (cs : List Value) (ok : OkAll [.int .u8, .int .i64] cs) (of : Int) (wo : (Lit.int .i64 of).wf = true) :
    Calls Try.prog 3 #[.agg ⟨cs⟩, .int .i64 of] w fun e w' => e = .returned (.bool true) ∧ Below w.heap.size w w' := by
  obtain ⟨_, _, rfl, ⟨k, rfl, wk⟩, _, _, rfl, ⟨n, rfl, wn⟩, rfl⟩ := ok
  have hk := wf_u8 wk
  have hn := wf_i64 wn
  have ho := wf_i64 wo
  clear wk wn wo
  have C1 := Lib.hid (fun W => resolve_any k n of W hk.1 hk.2 hn.1 hn.2 ho.1 ho.2)
  have C2 := Lib.hid (fun W => rresolve_any k n of W hk.1 hk.2 hn.1 hn.2 ho.1 ho.2)
  generalize resV k n of = g at *
  obtain ⟨x, i, e⟩ := g
  unfold Got.val len2 at C1 C2
  have hii : (i == i) = true := by simp
  go_enter Try.func3, Try.ntmps3
  go_wp2_with fail
  refine (C1.out _).mono ?_; rintro e w1 ⟨rfl, hg1⟩
  have hc0 : w1.cell? ⟨w.heap.size, 0, none⟩ = some (.int .u8 k) := hg1.cell ((cell_of_row _ w.heap.size 0 _ _ _ (heap_alloc_new w _)).trans rfl) (by simp)
  have hc1 : w1.cell? ⟨w.heap.size, 1, none⟩ = some (.int .i64 n) := hg1.cell ((cell_of_row _ w.heap.size 1 _ _ _ (heap_alloc_new w _)).trans rfl) (by simp)
  go_wp2_with fail
  refine (C2.out _).mono ?_; rintro e w2 ⟨rfl, hg2⟩
  go_wp2
  go_ret
  exact ⟨by simp, grown_below (grown_trans (grown_trans (World.grownBy_alloc _ _ _) hg1) hg2)⟩
end Go.Proofs.Ytkpfhhfecjeflaa
