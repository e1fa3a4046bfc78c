/- The chapter's document. -/
import Derived.Test.YthbdfibolgaapaaTc
import Derived.Test.YthbdfibolgaapaaTm
import Derived.Test.YthbdfibolgaapaaTn
import Derived.Great.BuildSlice
namespace Go.Proofs.Ythbdfibolgaapaa
open Go Go.RowKit
def mkN (k d : Int) : List Value := (zeroNode.set 0 (.int .i64 k)).set 1 (.int .i64 d)
def fourL : List (List Value) := [mkN 1 0, mkN 2 1, mkN 3 2, mkN 4 1]
theorem fourL_ok : ∀ y ∈ fourL, OkAll nodeLs y := fun y hy => by
  simp only [fourL, List.mem_cons, List.not_mem_nil, or_false] at hy
  rcases hy with rfl | rfl | rfl | rfl <;> exact okB_ok _ _ (by decide +kernel)
theorem exec_buildSlice {P : Program} {ρ : Operand → Value} {o : Oper} {t : TypeId} {n : Nat} {ps : Array (Nat × Operand)} {parts : Array (Nat × Value)} {w w1 : World} {v : Value} (ho : o.op = .buildSlice t n ps) (hps : ps.map (fun x => (x.1, ρ x.2)) = parts) (hr : (Instr.buildSlice t n parts).run P w = .ok v w1) : (execOp ρ o).run P w = .ok (.value v) w1 := by
  unfold execOp
  simp only [ho, Sem.run_bind]
  rw [show (ps.map fun (i, x) => (i, ρ x)) = parts from hps, hr]
  rfl
theorem run_four (w : World) : (Instr.buildSlice 22 4 #[(0, .agg (mkN 1 0).toArray), (1, .agg (mkN 2 1).toArray), (2, .agg (mkN 3 2).toArray), (3, .agg (mkN 4 1).toArray)]).run Try.prog w = .ok (.slice (some ⟨w.heap.size, 0, none⟩) 4 4) (w.alloc (.cells fourL.flatten.toArray 36)) := by
  obtain ⟨i0, hi0, hz0, hz1, hz2⟩ := info_parts infoN
  refine run_buildSlice w 22 36 4 _ fourL.flatten.toArray i0 _ Try.underlying22 hi0 hz0 (by rw [hz1]; omega) (by rw [hz1]; omega) ?_
  rw [hz1]
  have := Great.fill_whole (s := 51) (by omega) [.agg (mkN 1 0).toArray, .agg (mkN 2 1).toArray, .agg (mkN 3 2).toArray, .agg (mkN 4 1).toArray] ((Array.range (4 * 51)).map ((Value.agg zeroNode.toArray).cells[· % (Value.agg zeroNode.toArray).cells.size]!)) (fun v hv => by
    simp only [List.mem_cons, List.not_mem_nil, or_false] at hv
    rcases hv with rfl | rfl | rfl | rfl <;> rfl) (by simp)
  refine this.trans ?_
  congr 2
set_option maxRecDepth 100000 in
set_option maxHeartbeats 2000000 in
theorem four_any (w : World) :
    Calls Try.prog 17 #[] w fun e w' => e = .returned (.agg #[.slice (some ⟨w.heap.size + 1, 0, none⟩) 4 4, .int .i64 5]) ∧ Own w' w.heap.size 36 51 (some ⟨w.heap.size + 1, 0, none⟩) 4 4 fourL.flatten ∧ w.grownBy w' none := by
  have b1 := (Two.new w 24 (.slice (some ⟨w.heap.size + 1, 0, none⟩) 4 4) (.int .i64 5)).kept (World.grownBy_alloc _ (.cells fourL.flatten.toArray 36) none) (by simp)
  have hg := grown_trans (World.grownBy_alloc w (.cells #[.slice (some ⟨w.heap.size + 1, 0, none⟩) 4 4, .int .i64 5] 24) none) (World.grownBy_alloc _ (.cells fourL.flatten.toArray 36) none)
  have hfl : fourL.flatten.length = 4 * 51 := by rw [nodes_len fourL_ok]; rfl
  have ho : Own ((w.alloc (.cells #[.slice (some ⟨w.heap.size + 1, 0, none⟩) 4 4, .int .i64 5] 24)).alloc (.cells fourL.flatten.toArray 36)) w.heap.size 36 51 (some ⟨w.heap.size + 1, 0, none⟩) 4 4 fourL.flatten := by
    have h2 := heap_alloc_new (w.alloc (.cells #[.slice (some ⟨w.heap.size + 1, 0, none⟩) 4 4, .int .i64 5] 24)) (.cells fourL.flatten.toArray 36)
    rw [World.size_alloc] at h2
    exact ⟨hfl, by omega, by unfold maxLen; omega, .inr ⟨_, _, rfl, by omega, h2, by rw [List.size_toArray, hfl]; exact Nat.le_refl _, by rw [List.take_of_length_le (by show fourL.flatten.length ≤ 4 * 51; rw [hfl]; exact Nat.le_refl _)]⟩⟩
  have c0 := b1.c0
  have c1 := b1.c1
  have ho' := Lib.hid ho
  have hg' := Lib.hid hg
  clear b1 ho hg hfl
  go_enter Try.func17, Try.ntmps17
  go_wp2_with (first
    | (refine wpList_build (o := ⟨some 1, _, _, _, _, _⟩) rfl (T := 36) rfl (mkN 1 0).toArray (by kernel_rfl) ?_; simp only [Act.put, List.setIfInBounds_toArray, List.set_cons_zero, List.set_cons_succ])
    | (refine wpList_build (o := ⟨some 2, _, _, _, _, _⟩) rfl (T := 36) rfl (mkN 2 1).toArray (by kernel_rfl) ?_; simp only [Act.put, List.setIfInBounds_toArray, List.set_cons_zero, List.set_cons_succ])
    | (refine wpList_build (o := ⟨some 3, _, _, _, _, _⟩) rfl (T := 36) rfl (mkN 3 2).toArray (by kernel_rfl) ?_; simp only [Act.put, List.setIfInBounds_toArray, List.set_cons_zero, List.set_cons_succ])
    | (refine wpList_build (o := ⟨some 4, _, _, _, _, _⟩) rfl (T := 36) rfl (mkN 4 1).toArray (by kernel_rfl) ?_; simp only [Act.put, List.setIfInBounds_toArray, List.set_cons_zero, List.set_cons_succ])
    | (refine wpList_value (o := ⟨some 5, _, _, _, _, _⟩) rfl (exec_buildSlice (parts := #[(0, .agg (mkN 1 0).toArray), (1, .agg (mkN 2 1).toArray), (2, .agg (mkN 3 2).toArray), (3, .agg (mkN 4 1).toArray)]) rfl (by kernel_rfl) (run_four _)) ?_; simp only [Act.put, List.setIfInBounds_toArray, List.set_cons_zero, List.set_cons_succ]))
  rw [World.size_alloc]
  generalize (w.alloc (.cells #[.slice (some ⟨w.heap.size + 1, 0, none⟩) 4 4, .int .i64 5] 24)).alloc (.cells fourL.flatten.toArray 36) = W at *
  exact bodyPost_ret (v := .agg #[.slice (some ⟨w.heap.size + 1, 0, none⟩) 4 4, .int .i64 5]) (by simp [results, Try.results17, go_sem, c0, c1]) rfl ⟨rfl, ho'.out, hg'.out⟩
end Go.Proofs.Ythbdfibolgaapaa
