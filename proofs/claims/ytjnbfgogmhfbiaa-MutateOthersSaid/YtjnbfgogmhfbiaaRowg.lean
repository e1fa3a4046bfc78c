/- Rows of many cells in regions that draw their order. -/
import Derived.Test.YtjnbfgogmhfbiaaRow
import Derived.Test.YtjnbfgogmhfbiaaGrow
namespace Go.Proofs.Ytjnbfgogmhfbiaa
open Go Go.RowKit
section
variable {P : Program} {ops : Array Oper} {Q : Exit → Act → World → Prop} {md : Region.Mode} {S : World → Prop} {fuel : Nat} {listed : Array Bool} {a : Act} {w : World} {T : TypeId} {n : Nat} {z : Array Value}
/-- What matters of an operation. -/
def coreOf (o : Oper) : Op × Option Tmp × Option (Nat × Bool) := (o.op, o.dst, o.guard)
theorem core_spec {i : Nat} {op : Op} {d : Option Tmp} (h : (ops[i]?).map coreOf = some (op, d, none)) : ∃ o, ops[i]? = some o ∧ o.op = op ∧ o.dst = d ∧ o.guard = none := by
  obtain ⟨o, ho, h⟩ := Option.map_eq_some_iff.1 h
  simp only [coreOf, Prod.mk.injEq] at h
  exact ⟨o, ho, h.1, h.2.1, h.2.2⟩
/-- A store of a whole row, the one operation that may come up. -/
theorem wpAnyH_store_row (B : Big P T n z) (i : Nat) (x y : Operand) (g : Nat) (cs ds : Array Value) (hr : Region.ready md ops listed = [i]) (ho : (ops[i]?).map coreOf = some (.store T x y, none, none))
    (hx : a.eval x = .pointer (some ⟨g, 0, none⟩)) (hy : a.eval y = .agg ds) (hrow : Row w g T cs) (hc : cs.size = n) (hd : ds.size = n) (h1 : ∀ v ∈ ds.toList, v.oneCell' = true) (hS : S (w.setRow g ds))
    (h : wpAnyH P md ops Q S fuel (listed.setIfInBounds i true) a (w.setRow g ds)) : wpAnyH P md ops Q S (fuel + 1) listed a w := by
  obtain ⟨o, h1', h2, h3, h4⟩ := core_spec ho
  refine Grow.wpAnyH_one hr h1' (by unfold Region.wanted; rw [h4]) (wp_skip (exec_store_row B h2 hx ds hy w hrow hc hd h1) ⟨hS, ?_⟩)
  rw [h3]
  exact h
theorem wpAny_store_row (B : Big P T n z) (i : Nat) (x y : Operand) (g : Nat) (cs ds : Array Value) (hr : Region.ready md ops listed = [i]) (ho : (ops[i]?).map coreOf = some (.store T x y, none, none))
    (hx : a.eval x = .pointer (some ⟨g, 0, none⟩)) (hy : a.eval y = .agg ds) (hrow : Row w g T cs) (hc : cs.size = n) (hd : ds.size = n) (h1 : ∀ v ∈ ds.toList, v.oneCell' = true)
    (h : wpAny P md ops Q fuel (listed.setIfInBounds i true) a (w.setRow g ds)) : wpAny P md ops Q (fuel + 1) listed a w := by
  obtain ⟨o, h1', h2, h3, h4⟩ := core_spec ho
  refine Grow.wpAny_one hr h1' (by unfold Region.wanted; rw [h4]) (wp_skip (exec_store_row B h2 hx ds hy w hrow hc hd h1) ?_)
  rw [h3]
  exact h
/-- A load of a whole row, taken first. -/
theorem wpAnyH_load_row (B : Big P T n z) (i : Nat) (x : Operand) (d : Tmp) (g : Nat) (cs : Array Value) (ho : (ops[i]?).map coreOf = some (.load T x, some d, none)) (hs : Region.noSelect ops = true) (hf : Region.free md ops listed i = true) (hr : (Region.ready md ops listed).contains i = true)
    (hQ : ∀ c a w, Q (.panic c) (a.put (some d) (.agg cs)) w → Q (.panic c) a w) (hx : a.eval x = .pointer (some ⟨g, 0, none⟩)) (hc : cs.size = n) (hS : S w) (hSr : ∀ V, S V → Row V g T cs)
    (h : wpAnyH P md ops Q S fuel (listed.setIfInBounds i true) (a.put (some d) (.agg cs)) w) : wpAnyH P md ops Q S (fuel + 1) listed a w := by
  obtain ⟨o, h1, h2, h3, h4⟩ := core_spec ho
  exact wpAnyH_take h1 hs hf hr (by rw [h3]; exact hQ) (.inl ⟨by unfold Region.wanted; rw [h4], fun V hV => exec_load_row B h2 hx V (hSr V hV) hc⟩) hS (by rw [h3]; exact h)
/-- append onto a row of the call's own, the one operation that may come up. -/
theorem wpAnyH_append (i : Nat) (s x : Operand) (t : TypeId) (d : Tmp) (hr0 : Region.ready md ops listed = [i]) (ho0 : (ops[i]?).map coreOf = some (.call { callee := .builtin .append, args := #[s, x], argTypes := #[t, t] }, some d, none))
    (base : Nat) (e : TypeId) (ti : TypeInfo) (z : Value) (size bytes : Nat) (ht : P.underlying t = some (.slice e)) (hi : P.info? e = some ti) (hz : ti.zero = some z)
    (hsize : ti.size = size) (hby : ti.bytes = bytes) (hzs : z.cells.size = size) (hsz : 0 < size)
    (A : Option Addr) (n cap : Nat) (xs : List Value) (hs : a.eval s = .slice A n cap) (hown : Own w base e size A n cap xs)
    (T : Option Addr) (m c B : Nat) (news : List Value) (hx : a.eval x = .slice T m c) (hl : news.length = m * size) (hr : Reads w B T news) (h1 : ∀ u ∈ news, u.oneCell' = true)
    (h63 : n + m ≤ maxLen) (hbytes : (n + m) * bytes ≤ 140737488355328) (hbase : base ≤ w.heap.size) (hS : ∀ V, S V)
    (h : ∀ A' cap' w', Own w' base e size A' (n + m) cap' (xs ++ news) → w.grownBy w' (rowOf A cap) → (A' = A ∧ cap' = cap ∨ A' = some ⟨w.heap.size, 0, none⟩) → wpAnyH P md ops Q S fuel (listed.setIfInBounds i true) (a.put (some d) (.slice A' (n + m) cap')) w') :
    wpAnyH P md ops Q S (fuel + 1) listed a w := by
  obtain ⟨o, k1, k2, k3, k4⟩ := core_spec ho0
  obtain ⟨A', cap', w', hrun, h2, h3, h4⟩ := run_append_Own (P := P) w base t o.type e ti z size bytes ht hi hz hsize hby hzs hsz A n cap xs hown T m c B news hl hr h1 h63 hbytes hbase
  refine Grow.wpAnyH_one hr0 k1 (by unfold Region.wanted; rw [k4]) ?_
  refine wp_value (v := .slice A' (n + m) cap') (w1 := w') ?_ ⟨hS _, ?_⟩
  · unfold execOp
    simp only [k2, resolve, invoke, builtin, Sem.run_bind, Sem.run_pure, Result.andThen_ok, List.map_toArray, List.map_cons, List.map_nil, hs, hx, hrun]
  · rw [k3]
    exact h A' cap' w' h2 h3 h4
end
end Go.Proofs.Ytjnbfgogmhfbiaa
