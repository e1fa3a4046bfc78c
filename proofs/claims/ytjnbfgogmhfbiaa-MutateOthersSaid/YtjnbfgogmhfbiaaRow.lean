/- Structs of many cells, kept behind one name: made, stored, loaded whole, written by the cell. -/
import Derived.Test.YtjnbfgogmhfbiaaMem
import Derived.Laws.CopyRow
import Derived.Deep.MidRow
namespace Go.Proofs.Ytjnbfgogmhfbiaa
open Go Go.RowKit
/-- Block g holds the row cs of type T. -/
def Row (w : World) (g : Nat) (T : TypeId) (cs : Array Value) : Prop := w.heap[g]? = some (.cells cs T (0, 0))
section
variable {w w' : World} {g g' : Nat} {T : TypeId} {cs : Array Value}
theorem Row.new (w : World) (T : TypeId) (cs : Array Value) : Row (w.alloc (.cells cs T)) w.heap.size T cs := heap_alloc_new w _
theorem Row.lt (h : Row w g T cs) : g < w.heap.size := (Array.getElem?_eq_some_iff.1 h).1
theorem Row.kept (h : Row w g T cs) {row : Option Nat} (hg : w.grownBy w' row) (hne : some g ≠ row) : Row w' g T cs := by
  have hl := h.lt
  unfold Row at *
  rw [hg.block g hl hne]; exact h
theorem Row.kept0 (h : Row w g T cs) (hg : w.grownBy w' none) : Row w' g T cs := h.kept hg (by simp)
theorem Row.keptNe (h : Row w g T cs) (hg : w.grownBy w' (some g')) (hne : g ≠ g') : Row w' g T cs := h.kept hg (fun e => hne (by cases e; rfl))
theorem Row.at (h : Row w g T cs) (j : Nat) : w.cell? ⟨g, j, none⟩ = cs[j]? := cell_of_row w g j _ _ _ h
theorem Row.free (h : Row w g T cs) (j : Nat) : w.frozen? ⟨g, j, none⟩ = false := frozen_of_row w g j _ _ h
theorem Row.set (h : Row w g T cs) (j : Nat) (v : Value) : Row (w.setCell ⟨g, j, none⟩ v) g T (cs.setIfInBounds j v) := heap_setCell_same w g j _ _ v h
theorem Row.store (h : Row w g T cs) (ds : Array Value) : Row (w.setRow g ds) g T ds := setRow_heap w g _ _ _ _ h
theorem grownBy_setRow (w : World) (g : Nat) (ds : Array Value) : w.grownBy (w.setRow g ds) (some g) := ⟨rfl, rfl, rfl, by simp, fun k _ hk => setRow_other w g k _ (fun e => hk (by simp [e]))⟩
/-- What there is to know of a type of many cells. -/
structure Big (P : Program) (T : TypeId) (n : Nat) (z : Array Value) : Prop where
  agg : ∃ d, P.underlying T = some d ∧ d.isRow = true
  size : (P.info? T).map (·.size) = some n
  zero : (P.info? T).bind (·.zero) = some (.agg z)
section
variable {P : Program} {n : Nat} {z : Array Value} (B : Big P T n z)
include B
theorem run_alloc_row (w : World) (old : Value) : (Instr.alloc T true old).run P w = .ok (.pointer (some ⟨w.heap.size, 0, none⟩)) (w.alloc (.cells z T)) := by
  obtain ⟨i, hi, hz⟩ := Option.bind_eq_some_iff.1 B.zero
  simp [Instr.alloc, zeroValue, typeInfo, hi, hz, newVar, newRow, newObj, Value.cells, Sem.run_bind]
  rfl
theorem run_load_row (w : World) (h : Row w g T cs) (hc : cs.size = n) : (Instr.loadAt T (.pointer (some ⟨g, 0, none⟩))).run P w = .ok (.agg cs) w := by
  obtain ⟨d, hu, hd⟩ := B.agg
  simp only [Instr.loadAt, Instr.sureAddr, Sem.run_bind, Sem.run_pure, Result.andThen_ok]
  exact run_loadVar_row w g T T cs (0, 0) d h hu (by cases d <;> simp_all) (by rw [B.size, hc])
theorem run_store_row (w : World) (h : Row w g T cs) (hc : cs.size = n) (ds : Array Value) (hd : ds.size = n) (h1 : ∀ v ∈ ds.toList, v.oneCell' = true) :
    (Instr.storeAt T (.pointer (some ⟨g, 0, none⟩)) (.agg ds)).run P w = .ok () (w.setRow g ds) := by
  have hs := run_storeCells_at P g 0 T ds.toList 0 cs w h (by simp; omega) h1
  simp only [Nat.add_zero, List.take_zero, List.nil_append, Nat.zero_add, Array.length_toList] at hs
  rw [List.drop_eq_nil_of_le (by simp; omega), List.append_nil, Array.toArray_toList] at hs
  obtain ⟨i, hi, hz⟩ := Option.map_eq_some_iff.1 B.size
  simp [Instr.storeAt, Instr.sureAddr, Sem.run_bind, storeVar, sizeOf, typeInfo, hi, hz, hd, Value.cells, hs]
/-- The operations. -/
theorem exec_alloc_row {ρ : Operand → Value} {o : Oper} (ho : o.op = .alloc T) (w : World) : (execOp ρ o).run P w = .ok (.value (.pointer (some ⟨w.heap.size, 0, none⟩))) (w.alloc (.cells z T)) := by
  unfold execOp
  simp only [ho, Sem.run_bind, run_alloc_row B, Result.andThen_ok, Sem.run_pure]
theorem exec_load_row {ρ : Operand → Value} {o : Oper} {x : Operand} (ho : o.op = .load T x) (hx : ρ x = .pointer (some ⟨g, 0, none⟩)) (w : World) (h : Row w g T cs) (hc : cs.size = n) : (execOp ρ o).run P w = .ok (.value (.agg cs)) w := by
  unfold execOp
  simp only [ho, hx, Sem.run_bind, run_load_row B w h hc, Result.andThen_ok, Sem.run_pure]
theorem exec_store_row {ρ : Operand → Value} {o : Oper} {x y : Operand} (ho : o.op = .store T x y) (hx : ρ x = .pointer (some ⟨g, 0, none⟩)) (ds : Array Value) (hy : ρ y = .agg ds) (w : World) (h : Row w g T cs) (hc : cs.size = n) (hd : ds.size = n) (h1 : ∀ v ∈ ds.toList, v.oneCell' = true) :
    (execOp ρ o).run P w = .ok .skip (w.setRow g ds) := by
  unfold execOp
  simp only [ho, hx, hy, Sem.run_bind, run_store_row B w h hc ds hd h1, Result.andThen_ok, Sem.run_pure]
end
end
section
variable {P : Program} {ops : Array Oper} {rest : List Oper} {o : Oper} {a : Act} {w w1 : World} {Q : Exit → Act → World → Prop} {K : Act → World → Prop} {v : Value}
/-- An operation whose run is known. -/
theorem wp_value (hr : (execOp a.eval o).run P w = .ok (.value v) w1) (h : K (a.put o.dst v) w1) : o.wp P a w K Q := by
  unfold Oper.wp
  rw [hr]
  exact h
theorem wp_skip (hr : (execOp a.eval o).run P w = .ok .skip w1) (h : K (a.put o.dst undef) w1) : o.wp P a w K Q := by
  unfold Oper.wp
  rw [hr]
  exact h
theorem wpList_value (hgd : o.guard = none) (hr : (execOp a.eval o).run P w = .ok (.value v) w1) (h : wpList P ops Q rest (a.put o.dst v) w1) : wpList P ops Q (o :: rest) a w :=
  wpList_plain hgd fun _ hK => wp_value hr (hK _ _ h)
theorem wpList_skip (hgd : o.guard = none) (hr : (execOp a.eval o).run P w = .ok .skip w1) (h : wpList P ops Q rest (a.put o.dst undef) w1) : wpList P ops Q (o :: rest) a w :=
  wpList_plain hgd fun _ hK => wp_skip hr (hK _ _ h)
theorem wpList_value_w (hw : Region.wanted o (yielded ops a.tmps) = true) (hr : (execOp a.eval o).run P w = .ok (.value v) w1) (h : wpList P ops Q rest (a.put o.dst v) w1) : wpList P ops Q (o :: rest) a w :=
  wpList_step fun K hK => by simp only [hw, if_true]; exact wp_value hr (hK _ _ h)
/-- A struct literal of many cells. -/
theorem wpList_build {T : TypeId} {ps : Array (Nat × Operand)} (hw : Region.wanted o (yielded ops a.tmps) = true) (ho : o.op = .build T ps) (cs : Array Value) (hr : (execOp a.eval o).run P w = .ok (.value (.agg cs)) w) (h : wpList P ops Q rest (a.put o.dst (.agg cs)) w) : wpList P ops Q (o :: rest) a w :=
  wpList_value_w hw hr h
/-- A row loaded whole. -/
theorem wpList_row {T : TypeId} {n : Nat} {z : Array Value} (B : Big P T n z) {g : Nat} {cs : Array Value} (hrow : Row w g T cs) (hc : cs.size = n) {x : Operand} (ho : o.op = .load T x) (hx : a.eval x = .pointer (some ⟨g, 0, none⟩)) (hw : Region.wanted o (yielded ops a.tmps) = true)
    (h : wpList P ops Q rest (a.put o.dst (.agg cs)) w) : wpList P ops Q (o :: rest) a w :=
  wpList_value_w hw (exec_load_row B ho hx w hrow hc) h
/-- A row stored whole into a row that is there. -/
theorem wpList_put {T : TypeId} {n : Nat} {z : Array Value} (B : Big P T n z) {g : Nat} {cs ds : Array Value} (hrow : Row w g T cs) (hc : cs.size = n) (hd : ds.size = n) (h1 : ∀ v ∈ ds.toList, v.oneCell' = true) {x y : Operand} (ho : o.op = .store T x y) (hx : a.eval x = .pointer (some ⟨g, 0, none⟩)) (hy : a.eval y = .agg ds) (hw : Region.wanted o (yielded ops a.tmps) = true)
    (h : wpList P ops Q rest (a.put o.dst undef) (w.setRow g ds)) : wpList P ops Q (o :: rest) a w :=
  wpList_step fun K hK => by simp only [hw, if_true]; exact wp_skip (exec_store_row B ho hx ds hy w hrow hc hd h1) (hK _ _ h)
theorem Row.as {w : World} {g : Nat} {T : TypeId} {cs : Array Value} (h : Row w g T cs) (ds : Array Value) (e : cs = ds) : Row w g T ds := e ▸ h
/-- A new row, and what it holds from then on: an alloc, then a store of the whole. -/
theorem wpList_fresh {T : TypeId} {n : Nat} {z : Array Value} (B : Big P T n z) (hz : z.size = n) {o2 : Oper} (hgd : o.guard = none) (ho : o.op = .alloc T) (hgd2 : o2.guard = none) (x y : Operand) (ho2 : o2.op = .store T x y)
    (ds : Array Value) (hd : ds.size = n) (h1 : ∀ v ∈ ds.toList, v.oneCell' = true)
    (hx : (a.put o.dst (.pointer (some ⟨w.heap.size, 0, none⟩))).eval x = .pointer (some ⟨w.heap.size, 0, none⟩)) (hy : (a.put o.dst (.pointer (some ⟨w.heap.size, 0, none⟩))).eval y = .agg ds)
    (h : ∀ W1, w.grownBy W1 none → Row W1 w.heap.size T ds → wpList P ops Q rest ((a.put o.dst (.pointer (some ⟨w.heap.size, 0, none⟩))).put o2.dst undef) W1) : wpList P ops Q (o :: o2 :: rest) a w := by
  refine wpList_value hgd (exec_alloc_row B ho w) (wpList_skip hgd2 (exec_store_row B ho2 hx ds hy _ (Row.new w T z) hz hd h1) (h _ ?_ ((Row.new w T z).store ds)))
  exact grown_new (World.grownBy_alloc w _ none) (grownBy_setRow _ _ _) (fun e h => by cases h; exact Nat.le_refl _)
end
end Go.Proofs.Ytjnbfgogmhfbiaa
