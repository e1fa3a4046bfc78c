/- Rows of many cells in regions that draw their order. -/
import Derived.Test.YtkpfhhfecjeflaaRow
import Derived.Test.YtkpfhhfecjeflaaGrow
namespace Go.Proofs.Ytkpfhhfecjeflaa
open Go Go.RowKit
section
variable {P : Program} {ops : Array Oper} {Q : Exit → Act → World → Prop} {md : Region.Mode} {S : World → Prop} {fuel : Nat} {listed : Array Bool} {a : Act} {w : World} {T : TypeId} {n : Nat} {z : Array Value}
/-- What matters of an operation. -/
def coreOf (o : Oper) : Op × Option Tmp × Option (Nat × Bool) := (o.op, o.dst, o.guard)
theorem core_spec {i : Nat} {op : Op} {d : Option Tmp} (h : (ops[i]?).map coreOf = some (op, d, none)) : ∃ o, ops[i]? = some o ∧ o.op = op ∧ o.dst = d ∧ o.guard = none := by
  obtain ⟨o, ho, h⟩ := Option.map_eq_some_iff.1 h
  simp only [coreOf, Prod.mk.injEq] at h
  exact ⟨o, ho, h.1, h.2.1, h.2.2⟩
/-- A store of a whole row, the one operation that may come up. -/
theorem wpAnyH_store_row (B : Big P T n z) (i : Nat) (x y : Operand) (g : Nat) (cs ds : Array Value) (hr : Region.ready md ops listed = [i]) (ho : (ops[i]?).map coreOf = some (.store T x y, none, none))
    (hx : a.eval x = .pointer (some ⟨g, 0, none⟩)) (hy : a.eval y = .agg ds) (hrow : Row w g T cs) (hc : cs.size = n) (hd : ds.size = n) (h1 : ∀ v ∈ ds.toList, v.oneCell' = true) (hS : S (w.setRow g ds))
    (h : wpAnyH P md ops Q S fuel (listed.setIfInBounds i true) a (w.setRow g ds)) : wpAnyH P md ops Q S (fuel + 1) listed a w := by
  obtain ⟨o, h1', h2, h3, h4⟩ := core_spec ho
  refine Grow.wpAnyH_one hr h1' (by unfold Region.wanted; rw [h4]) (wp_skip (exec_store_row B h2 hx ds hy w hrow hc hd h1) ⟨hS, ?_⟩)
  rw [h3]
  exact h
theorem wpAny_store_row (B : Big P T n z) (i : Nat) (x y : Operand) (g : Nat) (cs ds : Array Value) (hr : Region.ready md ops listed = [i]) (ho : (ops[i]?).map coreOf = some (.store T x y, none, none))
    (hx : a.eval x = .pointer (some ⟨g, 0, none⟩)) (hy : a.eval y = .agg ds) (hrow : Row w g T cs) (hc : cs.size = n) (hd : ds.size = n) (h1 : ∀ v ∈ ds.toList, v.oneCell' = true)
    (h : wpAny P md ops Q fuel (listed.setIfInBounds i true) a (w.setRow g ds)) : wpAny P md ops Q (fuel + 1) listed a w := by
  obtain ⟨o, h1', h2, h3, h4⟩ := core_spec ho
  refine Grow.wpAny_one hr h1' (by unfold Region.wanted; rw [h4]) (wp_skip (exec_store_row B h2 hx ds hy w hrow hc hd h1) ?_)
  rw [h3]
  exact h
/-- A load of a whole row, taken first. -/
theorem wpAnyH_load_row (B : Big P T n z) (i : Nat) (x : Operand) (d : Tmp) (g : Nat) (cs : Array Value) (ho : (ops[i]?).map coreOf = some (.load T x, some d, none)) (hs : Region.noSelect ops = true) (hf : Region.free md ops listed i = true) (hr : (Region.ready md ops listed).contains i = true)
    (hQ : ∀ c a w, Q (.panic c) (a.put (some d) (.agg cs)) w → Q (.panic c) a w) (hx : a.eval x = .pointer (some ⟨g, 0, none⟩)) (hc : cs.size = n) (hS : S w) (hSr : ∀ V, S V → Row V g T cs)
    (h : wpAnyH P md ops Q S fuel (listed.setIfInBounds i true) (a.put (some d) (.agg cs)) w) : wpAnyH P md ops Q S (fuel + 1) listed a w := by
  obtain ⟨o, h1, h2, h3, h4⟩ := core_spec ho
  exact wpAnyH_take h1 hs hf hr (by rw [h3]; exact hQ) (.inl ⟨by unfold Region.wanted; rw [h4], fun V hV => exec_load_row B h2 hx V (hSr V hV) hc⟩) hS (by rw [h3]; exact h)
end
end Go.Proofs.Ytkpfhhfecjeflaa
