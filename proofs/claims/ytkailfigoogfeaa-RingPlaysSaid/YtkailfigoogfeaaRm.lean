/- The walk of 'numbered'. -/
import Derived.Test.YtkailfigoogfeaaRs
namespace Go.Proofs.Ytkailfigoogfeaa
open Go Go.RowKit
def okB : List Lf → List Value → Bool
  | [], [] => true
  | .int k :: ls, .int k' n :: cs => decide (k' = k) && (Lit.int k n).wf && okB ls cs
  | .bool :: ls, .bool _ :: cs => okB ls cs
  | .str :: ls, .string s :: cs => decide (s.size ≤ maxLen) && okB ls cs
  | _, _ => false
theorem okB_ok : ∀ (ls : List Lf) (cs : List Value), okB ls cs = true → OkAll ls cs
  | [], [], _ => rfl
  | [], _ :: _, h => by simp [okB] at h
  | .int k :: ls, v :: cs, h => by
    cases v <;> simp only [okB, Bool.false_eq_true, Bool.and_eq_true, decide_eq_true_eq] at h
    obtain ⟨⟨rfl, h2⟩, h3⟩ := h
    exact ⟨_, _, rfl, ⟨_, rfl, h2⟩, okB_ok ls cs h3⟩
  | .bool :: ls, v :: cs, h => by
    cases v <;> simp only [okB, Bool.false_eq_true] at h
    exact ⟨_, _, rfl, ⟨_, rfl⟩, okB_ok ls cs h⟩
  | .str :: ls, v :: cs, h => by
    cases v <;> simp only [okB, Bool.false_eq_true, Bool.and_eq_true, decide_eq_true_eq] at h
    exact ⟨_, _, rfl, ⟨_, rfl, h.1⟩, okB_ok ls cs h.2⟩
  | .int _ :: _, [], h => by simp [okB] at h
  | .bool :: _, [], h => by simp [okB] at h
  | .str :: _, [], h => by simp [okB] at h
def keyNode (n : Int) : List Value := .int .i64 n :: zeroNode.tail
theorem keyNode_ok (n : Int) (h : (Lit.int .i64 n).wf = true) : OkAll nodeLs (keyNode n) := by
  have h1 : okB nodeLs.tail zeroNode.tail = true := by decide +kernel
  exact ⟨_, _, rfl, ⟨n, rfl, h⟩, okB_ok _ _ h1⟩
set_option maxRecDepth 100000 in
set_option maxHeartbeats 1000000 in
theorem numbered_any (n : Int) (w : World) (hn : (Lit.int .i64 n).wf = true) :
    Calls Try.prog 22 #[.int .i64 n] w fun e w' => e = .returned (.agg #[.slice (some ⟨w.heap.size + 1, 0, none⟩) 1 1, .int .i64 n]) ∧ Own w' w.heap.size 59 51 (some ⟨w.heap.size + 1, 0, none⟩) 1 1 [keyNode n].flatten ∧ w.grownBy w' none := by
  have hg := grown_trans (World.grownBy_alloc w (.cells #[.slice (some ⟨w.heap.size + 1, 0, none⟩) 1 1, .int .i64 n] 24) none) (World.grownBy_alloc _ (.cells (keyNode n).toArray 59) none)
  have ho : Own ((w.alloc (.cells #[.slice (some ⟨w.heap.size + 1, 0, none⟩) 1 1, .int .i64 n] 24)).alloc (.cells (keyNode n).toArray 59)) w.heap.size 59 51 (some ⟨w.heap.size + 1, 0, none⟩) 1 1 [keyNode n].flatten := by
    have h2 := heap_alloc_new (w.alloc (.cells #[.slice (some ⟨w.heap.size + 1, 0, none⟩) 1 1, .int .i64 n] 24)) (.cells (keyNode n).toArray 59)
    rw [World.size_alloc] at h2
    exact ⟨by simp [keyNode, zeroNode], by omega, by unfold maxLen; omega, .inr ⟨_, _, rfl, by omega, h2, by simp [keyNode, zeroNode], by simp [keyNode, zeroNode]⟩⟩
  have b1 := (Two.new w 24 (.slice (some ⟨w.heap.size + 1, 0, none⟩) 1 1) (.int .i64 n)).kept (World.grownBy_alloc _ (.cells (keyNode n).toArray 59) none) (by simp)
  have c0 := b1.c0
  have c1 := b1.c1
  generalize [keyNode n].flatten = xs at *
  generalize hW : (w.alloc (.cells #[.slice (some ⟨w.heap.size + 1, 0, none⟩) 1 1, .int .i64 n] 24)).alloc (.cells (keyNode n).toArray 59) = W at *
  have hW' := Lib.hid hW
  clear hW
  go_enter Try.func22, Try.ntmps22
  go_wp2
  have hWW : _ = W := hW'.out
  change bodyPost _ _ _ _ _ ((w.alloc (.cells #[.slice (some ⟨w.heap.size + 1, 0, none⟩) 1 1, .int .i64 n] 24)).alloc (.cells (keyNode n).toArray 59))
  rw [hWW]
  exact bodyPost_ret (v := .agg #[.slice (some ⟨w.heap.size + 1, 0, none⟩) 1 1, .int .i64 n]) (by simp [results, Try.results22, go_sem, c0, c1]) rfl ⟨rfl, ho, hg⟩
end Go.Proofs.Ytkailfigoogfeaa
