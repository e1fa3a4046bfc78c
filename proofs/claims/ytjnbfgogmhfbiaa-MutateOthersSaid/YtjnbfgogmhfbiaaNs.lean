/- Nodes compared in memory. -/
import Derived.Test.YtjnbfgogmhfbiaaNd
import Derived.Deep.MidRow
import Derived.Deep.Quiet
namespace Go.Proofs.Ytjnbfgogmhfbiaa
open Go Go.RowKit
/-- A node is loaded whole. -/
theorem run_loadNode (w : World) (a : Addr) (y : List Value) (hy : y.length = 51) (hc : ∀ k, k < 51 → w.cell? (a.add k) = y[k]?) :
    (Instr.loadAt 32 (.pointer (some a))).run Try.prog w = .ok (.agg y.toArray) w := by
  have hl : (loadCells a y.length).run Try.prog w = .ok y.toArray w :=
    run_loadCells_list (P := Try.prog) w a y (fun j v hv => by
      have hj : j < y.length := (List.getElem?_eq_some_iff.1 hv).1
      rw [hc j (by omega), hv])
  have hi : (Try.prog.info? 32).map (·.size) = some 51 := by kernel_rfl
  cases hq : Try.prog.info? 32 with
  | none => simp [hq] at hi
  | some i =>
    have hs : i.size = y.length := by simp [hq] at hi; omega
    have hagg : (isAgg 32).run Try.prog w = .ok true w := by
      unfold isAgg
      rw [Sem.run_bind, run_underlying Try.underlying32 w]
      rfl
    simp only [Instr.loadAt, Instr.sureAddr, Sem.run_bind, Sem.run_pure, Result.andThen_ok]
    simp [loadVar, Sem.run_bind, hagg, sizeOf, typeInfo, hq, hs, hl]
def nodesEq : List (List Value) → List (List Value) → Bool
  | [], [] => true
  | x :: r, y :: q => eqV x y && nodesEq r q
  | _, _ => false
theorem nodesEq_iff : ∀ {L M : List (List Value)}, (∀ y ∈ L, OkAll nodeLs y) → (∀ y ∈ M, OkAll nodeLs y) → (nodesEq L M = true ↔ L = M)
  | [], [], _, _ => by simp [nodesEq]
  | [], _ :: _, _, _ => by simp [nodesEq]
  | _ :: _, [], _, _ => by simp [nodesEq]
  | x :: r, y :: q, h, k => by
    simp only [nodesEq, Bool.and_eq_true, List.cons.injEq, eqV_iff (h x (by simp)) (k y (by simp)), nodesEq_iff (fun z hz => h z (List.mem_cons_of_mem _ hz)) (fun z hz => k z (List.mem_cons_of_mem _ hz))]
theorem nodesEq_false {L M : List (List Value)} (hL : ∀ y ∈ L, OkAll nodeLs y) (hM : ∀ y ∈ M, OkAll nodeLs y) (h : L ≠ M) : nodesEq L M = false := by
  cases hq : nodesEq L M with
  | false => rfl
  | true => exact absurd ((nodesEq_iff hL hM).1 hq) h
theorem wpQuiet_value {P : Program} {ops : Array Oper} {C : World → Prop} {Q : Act → Prop} {a : Act} {o : Oper} {rest : List Oper} (hw : Region.wanted o (yielded ops a.tmps) = true) (v : Value) (hrun : ∀ w, C w → (execOp a.eval o).run P w = .ok (.value v) w)
    (h : wpQuiet P ops C Q rest (a.put o.dst v)) : wpQuiet P ops C Q (o :: rest) a := by
  unfold wpQuiet
  rw [if_pos hw]
  exact ⟨v, fun w hc => by unfold Oper.quietAt; rw [hrun w hc]; exact ⟨rfl, rfl⟩, h⟩
/-- A node is loaded whole, in a region that reads. -/
theorem quiet_loadNode {ops : Array Oper} {C : World → Prop} {Q : Act → Prop} {a : Act} {o : Oper} {rest : List Oper} (hw : Region.wanted o (yielded ops a.tmps) = true) (x : Operand) (ho : o.op = .load 32 x) (ad : Addr) (hx : a.eval x = .pointer (some ad)) (y : List Value)
    (hc : ∀ w, C w → (Instr.loadAt 32 (.pointer (some ad))).run Try.prog w = .ok (.agg y.toArray) w)
    (h : wpQuiet Try.prog ops C Q rest (a.put o.dst (.agg y.toArray))) : wpQuiet Try.prog ops C Q (o :: rest) a :=
  wpQuiet_value hw _ (fun w hcw => by
    unfold execOp
    simp only [ho, hx, Sem.run_bind, hc w hcw, Result.andThen_ok, Sem.run_pure]) h
theorem node_noguard : Try.prog.eqGuardType Try.prog.depth 32 = false := by kernel_rfl
theorem run_guardNode (x y : Operand) (xs ys : Array Value) (w : World) : (eqGuard .neq 32 x y (.agg xs) (.agg ys)).run Try.prog w = .ok () w := by
  unfold eqGuard
  have h : (program).run Try.prog w = .ok Try.prog w := rfl
  simp [Sem.run_bind, h, Result.andThen_ok, node_noguard]
/-- Two nodes compared, in a region that reads. -/
theorem quiet_neqNode {ops : Array Oper} {C : World → Prop} {Q : Act → Prop} {a : Act} {o : Oper} {rest : List Oper} (hw : Region.wanted o (yielded ops a.tmps) = true) (x y : Operand) (t : TypeId) (ho : o.op = .binOp .neq 32 x y t) (xs ys : List Value) (hx : a.eval x = .agg xs.toArray) (hy : a.eval y = .agg ys.toArray)
    (o1 : OkAll nodeLs xs) (o2 : OkAll nodeLs ys) (b : Bool) (hb : eqV xs ys = b) (h : wpQuiet Try.prog ops C Q rest (a.put o.dst (.bool (!b)))) : wpQuiet Try.prog ops C Q (o :: rest) a :=
  wpQuiet_value hw _ (fun w _ => by
    subst hb
    unfold execOp
    simp only [ho, hx, hy, Sem.run_bind, run_guardNode, binOp, node_equal o1 o2 w, Result.andThen_ok, Sem.run_pure]) h
end Go.Proofs.Ytjnbfgogmhfbiaa
