/- The argument of the width's laws opened; what a block held, it holds still. -/
import Derived.Test.YtjaeoaebkkmaaaaAs2
import Derived.Test.YtjaeoaebkkmaaaaFlat
namespace Go.Proofs.Ytjaeoaebkkmaaaa
open Go Go.RowKit
theorem wf_i64 {n : Int} (h : (Lit.int .i64 n).wf = true) : I64 n := by simpa [I64, Lit.wf, IntKind.min, IntKind.max, IntKind.signed, IntKind.bits] using h
theorem old_cells {W w1 : World} (hg : W.grownBy w1 none) : (∀ b o, b < W.heap.size → w1.cell? ⟨b, o, none⟩ = W.cell? ⟨b, o, none⟩) ∧ (∀ b o, b < W.heap.size → w1.frozen? ⟨b, o, none⟩ = W.frozen? ⟨b, o, none⟩) :=
  ⟨fun b o h => (grown_below hg).cell (p := ⟨b, o, none⟩) h, fun b o h => (grown_below hg).frozen (p := ⟨b, o, none⟩) h⟩
theorem ask_open {cs : List Value} (ok : OkAll [.bool, .int .i64, .int .i64, .int .i64, .int .i64, .int .i64, .bool, .bool, .int .i64] cs) :
    ∃ (is : Bool) (wd least most left right : Int) (al ar : Bool) (edges : Int), (Ask.mk is wd least most left right al ar edges).ok ∧ cs = [.bool is, .int .i64 wd, .int .i64 least, .int .i64 most, .int .i64 left, .int .i64 right, .bool al, .bool ar, .int .i64 edges] := by
  obtain ⟨_, _, rfl, ⟨is, rfl⟩, _, _, rfl, ⟨wd, rfl, w1⟩, _, _, rfl, ⟨least, rfl, w2⟩, _, _, rfl, ⟨most, rfl, w3⟩, _, _, rfl, ⟨left, rfl, w4⟩, _, _, rfl, ⟨right, rfl, w5⟩, _, _, rfl, ⟨al, rfl⟩, _, _, rfl, ⟨ar, rfl⟩, _, _, rfl, ⟨edges, rfl, w6⟩, rfl⟩ := ok
  exact ⟨is, wd, least, most, left, right, al, ar, edges, ⟨wf_i64 w1, wf_i64 w2, wf_i64 w3, wf_i64 w4, wf_i64 w5, wf_i64 w6⟩, rfl⟩
end Go.Proofs.Ytjaeoaebkkmaaaa
