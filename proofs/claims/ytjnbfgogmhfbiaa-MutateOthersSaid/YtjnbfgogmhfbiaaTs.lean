/- What stands in a node's cells; a style within a node. -/
import Derived.Test.YtjnbfgogmhfbiaaNs
import Derived.Test.YtjnbfgogmhfbiaaTw
import Derived.Test.YtjnbfgogmhfbiaaTr
import Derived.Test.YtjnbfgogmhfbiaaRow
import Derived.Test.YtjnbfgogmhfbiaaEqr
namespace Go.Proofs.Ytjnbfgogmhfbiaa
open Go Go.RowKit
section
variable {x : List Value} (h : OkAll nodeLs x)
include h
theorem n_key : x[0]? = some (.int .i64 (keyN x)) ∧ -9223372036854775808 ≤ keyN x ∧ keyN x ≤ 9223372036854775807 := by
  obtain ⟨n, h1, h2, h3⟩ := node_int h (k := 0) rfl
  have : keyN x = n := by unfold keyN intAt; rw [h1]
  rw [this]; exact ⟨h1, h2, h3⟩
theorem n_dep : x[1]? = some (.int .i64 (depN x)) ∧ -9223372036854775808 ≤ depN x ∧ depN x ≤ 9223372036854775807 := by
  obtain ⟨n, h1, h2, h3⟩ := node_int h (k := 1) rfl
  have : depN x = n := by unfold depN intAt; rw [h1]
  rw [this]; exact ⟨h1, h2, h3⟩
theorem n_kind : x[2]? = some (.int .u8 (kindN x)) ∧ 0 ≤ kindN x ∧ kindN x ≤ 255 := by
  obtain ⟨v, h1, n, rfl, h2⟩ := h.get (i := 2) (l := .int .u8) rfl
  have : kindN x = n := by unfold kindN intAt; rw [h1]
  rw [this]
  exact ⟨h1, by simpa [Lit.wf, IntKind.min, IntKind.max, IntKind.signed, IntKind.bits] using h2⟩
theorem n_text : ∃ s : ByteArray, x[50]? = some (.string s) ∧ s.size = lenN x ∧ lenN x ≤ 9223372036854775807 := by
  obtain ⟨s, h1, h2⟩ := node_text h
  have : lenN x = s.size := by unfold lenN strAt; rw [h1]
  exact ⟨s, h1, this.symm, by omega⟩
end
theorem okAll_drop : ∀ (k : Nat) (ls : List Lf) (cs : List Value), OkAll ls cs → OkAll (ls.drop k) (cs.drop k)
  | 0, _, _, h => h
  | k + 1, [], _, h => by cases h; simp [OkAll]
  | k + 1, l :: ls, _, ⟨v, r, e, _, h2⟩ => by subst e; exact okAll_drop k ls r h2
theorem okAll_take : ∀ (k : Nat) (ls : List Lf) (cs : List Value), OkAll ls cs → OkAll (ls.take k) (cs.take k)
  | 0, _, _, _ => by simp [OkAll]
  | k + 1, [], _, h => by cases h; simp [OkAll]
  | k + 1, l :: ls, _, ⟨v, r, e, h1, h2⟩ => by subst e; exact ⟨v, r.take k, rfl, h1, okAll_take k ls r h2⟩
def styLs : List Lf := (nodeLs.drop 3).take 47
theorem sty_leaves : leaves Try.prog 8 30 = some styLs := by kernel_rfl
theorem sty_cells : Try.prog.cellsOf 30 = 47 := by kernel_rfl
theorem sty_key : Try.prog.keyTypeAt 8 30 = true := by kernel_rfl
theorem sty_noguard : Try.prog.eqGuardType Try.prog.depth 30 = false := by kernel_rfl
theorem styN_ok {x : List Value} (h : OkAll nodeLs x) : OkAll styLs (styN x) := okAll_take 47 _ _ (okAll_drop 3 _ _ h)
theorem styN_len {x : List Value} (h : OkAll nodeLs x) : (styN x).length = 47 := (styN_ok h).len
theorem zeroSty_eq : zeroSty = styN zeroNode := rfl
theorem sty_equal {xs ys : List Value} (hx : OkAll styLs xs) (hy : OkAll styLs ys) (w : World) : (Op.equal 30 (.agg xs.toArray) (.agg ys.toArray)).run Try.prog w = .ok (eqV xs ys) w :=
  flat_equal Try.underlying30 sty_leaves sty_key (by omega) (by rw [sty_cells]; rfl) hx hy w
/-- A style is loaded whole. -/
theorem run_loadStyle (w : World) (a : Addr) (y : List Value) (hy : y.length = 47) (hc : ∀ k, k < 47 → w.cell? (a.add k) = y[k]?) :
    (Instr.loadAt 30 (.pointer (some a))).run Try.prog w = .ok (.agg y.toArray) w := by
  have hl : (loadCells a y.length).run Try.prog w = .ok y.toArray w :=
    run_loadCells_list (P := Try.prog) w a y (fun j v hv => by
      have hj : j < y.length := (List.getElem?_eq_some_iff.1 hv).1
      rw [hc j (by omega), hv])
  have hi : (Try.prog.info? 30).map (·.size) = some 47 := by kernel_rfl
  cases hq : Try.prog.info? 30 with
  | none => simp [hq] at hi
  | some i =>
    have hs : i.size = y.length := by simp [hq] at hi; omega
    have hagg : (isAgg 30).run Try.prog w = .ok true w := by
      unfold isAgg
      rw [Sem.run_bind, run_underlying Try.underlying30 w]
      rfl
    simp only [Instr.loadAt, Instr.sureAddr, Sem.run_bind, Sem.run_pure, Result.andThen_ok]
    simp [loadVar, Sem.run_bind, hagg, sizeOf, typeInfo, hq, hs, hl]
theorem row_style {w : World} {g : Nat} {x : List Value} (h : Row w g 32 x.toArray) (hx : OkAll nodeLs x) :
    (Instr.loadAt 30 (.pointer (some ⟨g, 3, none⟩))).run Try.prog w = .ok (.agg (styN x).toArray) w := by
  refine run_loadStyle w _ _ (styN_len hx) fun k hk => ?_
  have : (⟨g, 3, none⟩ : Addr).add k = ⟨g, 3 + k, none⟩ := by unfold Addr.add; split <;> simp_all
  rw [this, h.at]
  unfold styN
  rw [List.getElem?_take, if_pos hk, List.getElem?_drop]
  simp
theorem bigN : Big Try.prog 32 51 zeroNode.toArray := ⟨⟨_, Try.underlying32, rfl⟩, by kernel_rfl, by kernel_rfl⟩
theorem exec_load {P : Program} {ρ : Operand → Value} {o : Oper} {x : Operand} {T : TypeId} {a : Addr} {v : Value} (ho : o.op = .load T x) (hx : ρ x = .pointer (some a)) {w : World} (hl : (Instr.loadAt T (.pointer (some a))).run P w = .ok v w) : (execOp ρ o).run P w = .ok (.value v) w := by
  unfold execOp
  simp only [ho, hx, Sem.run_bind, hl, Result.andThen_ok, Sem.run_pure]
/-- What a node's row tells. -/
theorem row_node {w : World} {g : Nat} {x : List Value} (h : Row w g 32 x.toArray) (hx : OkAll nodeLs x) :
    w.cell? ⟨g, 0, none⟩ = some (.int .i64 (keyN x)) ∧ w.cell? ⟨g, 1, none⟩ = some (.int .i64 (depN x)) ∧ w.cell? ⟨g, 2, none⟩ = some (.int .u8 (kindN x)) ∧ ∃ s : ByteArray, w.cell? ⟨g, 50, none⟩ = some (.string s) ∧ s.size = lenN x ∧ lenN x ≤ 9223372036854775807 := by
  obtain ⟨s, h1, h2⟩ := n_text hx
  exact ⟨(h.at 0).trans (by simpa using (n_key hx).1), (h.at 1).trans (by simpa using (n_dep hx).1), (h.at 2).trans (by simpa using (n_kind hx).1), s, (h.at 50).trans (by simpa using h1), h2⟩
def okB : List Lf → List Value → Bool
  | [], [] => true
  | .int k :: ls, .int k' n :: cs => decide (k' = k) && (Lit.int k n).wf && okB ls cs
  | .bool :: ls, .bool _ :: cs => okB ls cs
  | .str :: ls, .string s :: cs => decide (s.size ≤ maxLen) && okB ls cs
  | _, _ => false
theorem okB_ok : ∀ (ls : List Lf) (cs : List Value), okB ls cs = true → OkAll ls cs
  | [], [], _ => rfl
  | [], _ :: _, h => by simp [okB] at h
  | .int k :: ls, v :: cs, h => by
    cases v <;> simp only [okB, Bool.false_eq_true, Bool.and_eq_true, decide_eq_true_eq] at h
    obtain ⟨⟨rfl, h2⟩, h3⟩ := h
    exact ⟨_, _, rfl, ⟨_, rfl, h2⟩, okB_ok ls cs h3⟩
  | .bool :: ls, v :: cs, h => by
    cases v <;> simp only [okB, Bool.false_eq_true] at h
    exact ⟨_, _, rfl, ⟨_, rfl⟩, okB_ok ls cs h⟩
  | .str :: ls, v :: cs, h => by
    cases v <;> simp only [okB, Bool.false_eq_true, Bool.and_eq_true, decide_eq_true_eq] at h
    exact ⟨_, _, rfl, ⟨_, rfl, h.1⟩, okB_ok ls cs h.2⟩
  | .int _ :: _, [], h => by simp [okB] at h
  | .bool :: _, [], h => by simp [okB] at h
  | .str :: _, [], h => by simp [okB] at h
theorem str_empty (s : ByteArray) : s.toList.isEmpty = true ↔ s.size = 0 := by
  rw [ByteArray.toList_eq, List.isEmpty_iff, ← List.length_eq_zero_iff, Array.length_toList]
  exact Iff.rfl
/-- A truth that tells just this. -/
def Tells (P : Prop) (e : Ending) : Prop := ∃ b, e = .returned (.bool b) ∧ (b = true ↔ P)
theorem Tells.yes {P : Prop} (h : P) : Tells P (.returned (.bool true)) := ⟨_, rfl, by simp [h]⟩
theorem Tells.no {P : Prop} (h : ¬ P) : Tells P (.returned (.bool false)) := ⟨_, rfl, by simp [h]⟩
theorem Tells.iff_ {P : Prop} {b : Bool} (h : b = true ↔ P) : Tells P (.returned (.bool b)) := ⟨_, rfl, h⟩
theorem zero_ok : OkAll nodeLs zeroNode := okB_ok _ _ (by decide +kernel)
end Go.Proofs.Ytjnbfgogmhfbiaa
