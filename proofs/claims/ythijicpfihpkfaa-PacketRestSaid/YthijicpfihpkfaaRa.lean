/- append onto a row of the call's own, inside a fence; a box beside it. -/
import Derived.Test.YthijicpfihpkfaaRg
import Derived.Test.YthijicpfihpkfaaMem
namespace Go.Proofs.Ythijicpfihpkfaa
open Go Go.RowKit
theorem wpListIn_append_Own {F : Fence} {k : Nat} {P : Program} {w : World} {ops : Array Oper} {rest : List Oper} {o : Oper} {a : Act} {Q : Exit → Act → World → Prop} (hgd : o.guard = none) (s x : Operand) (t : TypeId)
    (ho : o.op = .call { callee := .builtin .append, args := #[s, x], argTypes := #[t, t] })
    (base : Nat) (e : TypeId) (i : TypeInfo) (z : Value) (size bytes : Nat) (ht : P.underlying t = some (.slice e)) (hi : P.info? e = some i) (hz : i.zero = some z)
    (hsize : i.size = size) (hby : i.bytes = bytes) (hzs : z.cells.size = size) (hsz : 0 < size)
    (A : Option Addr) (n cap : Nat) (xs : List Value) (hs : a.eval s = .slice A n cap) (hown : Own w base e size A n cap xs)
    (S : Option Addr) (m c B : Nat) (news : List Value) (hx : a.eval x = .slice S m c) (hl : news.length = m * size) (hr : Reads w B S news) (h1 : ∀ u ∈ news, u.oneCell' = true)
    (h63 : n + m ≤ maxLen) (hbytes : (n + m) * bytes ≤ 140737488355328) (hbase : base ≤ w.heap.size)
    (h : ∀ A' cap' w', Own w' base e size A' (n + m) cap' (xs ++ news) → w.grownBy w' (rowOf A cap) → (A' = A ∧ cap' = cap ∨ A' = some ⟨w.heap.size, 0, none⟩) → wpListIn F k P ops Q rest (a.put o.dst (.slice A' (n + m) cap')) w') : wpListIn F k P ops Q (o :: rest) a w := by
  refine wpListIn_plain hgd fun K hK => ?_
  obtain ⟨A', cap', w', hrun, h2, h3, h4⟩ := run_append_Own (P := P) w base t o.type e i z size bytes ht hi hz hsize hby hzs hsz A n cap xs hown S m c B news hl hr h1 h63 hbytes hbase
  unfold Oper.wpIn
  refine ⟨by simp [Oper.about, ho, resolve, Target.leads, Sem.run_pure], ?_⟩
  rw [Oper.semAt_plain F _ _ (by rw [ho]; intro c hc'; cases hc')]
  simp [execOp, ho, resolve, invoke, builtin, hs, hx, hrun, Result.andThen]
  exact hK _ _ (h A' cap' w' h2 h3 h4)
/-- A row of the call's own and a turn of a block that is no cells. -/
theorem Own.putObj_ {w : World} {base e size n cap : Nat} {A : Option Addr} {xs : List Value} (h : Own w base e size A n cap xs) {l : Nat} {o : Obj} (o' : Obj) (hl : w.heap[l]? = some o) (ho : o.isCells = false) :
    Own (w.putObj l o') base e size A n cap xs := by
  refine h.grownBy_ (grownBy_putObj' w l o') ?_
  rcases h.2.2.2 with h4 | ⟨g, cur, rfl, _, hgg, _⟩
  · left; simp [rowOf, h4]
  · by_cases hc : cap = 0
    · left; simp [rowOf, hc]
    · right
      simp only [rowOf, hc, if_false, Option.map_some, ne_eq, Option.some.injEq]
      rintro rfl
      rw [hgg] at hl
      cases hl
      cases ho
theorem Own.setLow_ {w : World} {base e size n cap b : Nat} {A : Option Addr} {xs : List Value} (h : Own w base e size A n cap xs) (hb : b < base) (v : Value) :
    Own (w.setCell ⟨b, 0, none⟩ v) base e size A n cap xs := by
  refine h.grownBy_ (grownBy_setCell w b 0 v) ?_
  cases hr : rowOf A cap with
  | none => left; rfl
  | some g =>
    right
    have := (h.row_ge g hr).1
    simp
    omega
theorem Own.cells_row {w : World} {base e size n cap : Nat} {A : Option Addr} {xs : List Value} (h : Own w base e size A n cap xs) : ∀ g, rowOf A cap = some g → ∀ o, w.heap[g]? = some o → o.isCells = true := by
  intro k hk o ho
  rcases h.2.2.2 with h4 | ⟨g, cur, rfl, _, hgg, _⟩
  · simp [rowOf, h4] at hk
  · by_cases hc : cap = 0
    · simp [rowOf, hc] at hk
    · simp [rowOf, hc] at hk
      subst hk
      rw [hgg] at ho
      cases ho
      rfl
end Go.Proofs.Ythijicpfihpkfaa
