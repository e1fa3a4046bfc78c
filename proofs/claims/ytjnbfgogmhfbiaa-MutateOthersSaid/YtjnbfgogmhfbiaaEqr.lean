/- Two values of one flat type compared by an operation. -/
import Derived.Test.YtjnbfgogmhfbiaaEqv
namespace Go.Proofs.Ytjnbfgogmhfbiaa
open Go Go.RowKit
theorem run_guard_eql {P : Program} {t : TypeId} (hg : P.eqGuardType P.depth t = false) (x y : Operand) (u v : Array Value) (w : World) : (eqGuard .eql t x y (.agg u) (.agg v)).run P w = .ok () w := by
  unfold eqGuard
  have h : (program).run P w = .ok P w := rfl
  simp [Sem.run_bind, h, Result.andThen_ok, hg]
theorem run_guard_neq {P : Program} {t : TypeId} (hg : P.eqGuardType P.depth t = false) (x y : Operand) (u v : Array Value) (w : World) : (eqGuard .neq t x y (.agg u) (.agg v)).run P w = .ok () w := by
  unfold eqGuard
  have h : (program).run P w = .ok P w := rfl
  simp [Sem.run_bind, h, Result.andThen_ok, hg]
theorem exec_eql {P : Program} {t t2 : TypeId} {o : Oper} {ρ : Operand → Value} {x y : Operand} {u v : Array Value} {b : Bool} (hg : P.eqGuardType P.depth t = false) (ho : o.op = .binOp .eql t x y t2) (hx : ρ x = .agg u) (hy : ρ y = .agg v) (w : World) (he : (Op.equal t (.agg u) (.agg v)).run P w = .ok b w) :
    (execOp ρ o).run P w = .ok (.value (.bool b)) w := by
  unfold execOp
  simp only [ho, hx, hy, Sem.run_bind, run_guard_eql hg, binOp, he, Result.andThen_ok, Sem.run_pure]
theorem exec_neq {P : Program} {t t2 : TypeId} {o : Oper} {ρ : Operand → Value} {x y : Operand} {u v : Array Value} {b : Bool} (hg : P.eqGuardType P.depth t = false) (ho : o.op = .binOp .neq t x y t2) (hx : ρ x = .agg u) (hy : ρ y = .agg v) (w : World) (he : (Op.equal t (.agg u) (.agg v)).run P w = .ok b w) :
    (execOp ρ o).run P w = .ok (.value (.bool !b)) w := by
  unfold execOp
  simp only [ho, hx, hy, Sem.run_bind, run_guard_neq hg, binOp, he, Result.andThen_ok, Sem.run_pure]
end Go.Proofs.Ytjnbfgogmhfbiaa
