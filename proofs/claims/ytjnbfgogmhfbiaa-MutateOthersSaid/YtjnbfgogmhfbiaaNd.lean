/- Nodes in memory: where a text, a key stand. -/
import Derived.Test.YtjnbfgogmhfbiaaDoc
namespace Go.Proofs.Ytjnbfgogmhfbiaa
open Go Go.RowKit
theorem okAll_get : ∀ (ls : List Lf) (cs : List Value) (i : Nat) (l : Lf), OkAll ls cs → ls[i]? = some l → ∃ v, cs[i]? = some v ∧ l.ok v
  | [], _, _, _, _, h => by simp at h
  | a :: ls, _, 0, l, ⟨v, r, e, h1, _⟩, h => by
    subst e
    simp only [List.getElem?_cons_zero, Option.some.injEq] at h
    subst h
    exact ⟨v, rfl, h1⟩
  | a :: ls, _, i + 1, l, ⟨v, r, e, _, h2⟩, h => by
    subst e
    rw [List.getElem?_cons_succ] at h
    rw [List.getElem?_cons_succ]
    exact okAll_get ls r i l h2 h
theorem OkAll.get {ls : List Lf} {cs : List Value} {i : Nat} {l : Lf} (h : OkAll ls cs) (hl : ls[i]? = some l) : ∃ v, cs[i]? = some v ∧ l.ok v := okAll_get ls cs i l h hl
theorem IsNodes.len_ {w : World} {A : Option Addr} {n c : Nat} {L : List (List Value)} (h : IsNodes w A n c L) : n ≤ c ∧ c ≤ 9223372036854775807 := ⟨h.2.1, by have := h.2.2.1; unfold maxLen at this; omega⟩
theorem IsNodes.size_ {w : World} {A : Option Addr} {n c : Nat} {L : List (List Value)} (h : IsNodes w A n c L) : L.length = n ∧ (∀ x ∈ L, OkAll nodeLs x) ∧ L.flatten.length = n * 51 := by
  refine ⟨h.1, fun x hx => (h.2.2.2.1 x hx).2, ?_⟩
  rw [flatten_len 51 L (fun x hx => (h.2.2.2.1 x hx).1), h.1]
/-- A cell of a node. -/
theorem nodes_cell {w : World} {B : Nat} {A : Option Addr} {L : List (List Value)} (hL : ∀ x ∈ L, OkAll nodeLs x) (hr : Reads w B A L.flatten) {i : Nat} (hi : i < L.length) :
    ∃ ad x, A = some ad ∧ ad.block < B ∧ L[i]? = some x ∧ OkAll nodeLs x ∧ ∀ k, k < 51 → w.cell? ((ad.add (i * 51)).add k) = x[k]? := by
  have hlen : ∀ x ∈ L, x.length = 51 := fun x hx => (hL x hx).len
  have hfl := flatten_len 51 L hlen
  obtain ⟨ad, hA, hb, hc⟩ := hr (by rw [hfl]; omega)
  refine ⟨ad, L[i], hA, hb, List.getElem?_eq_getElem hi, hL _ (List.getElem_mem hi), fun k hk => ?_⟩
  have hj : i * 51 + k < L.flatten.length := by rw [hfl]; omega
  have h1 := hc (i * 51 + k) _ (List.getElem?_eq_getElem hj)
  rw [add_add', h1, ← List.getElem?_eq_getElem hj, flatten_get 51 (by omega) L hlen, show (i * 51 + k) / 51 = i by omega, show (i * 51 + k) % 51 = k by omega, List.getElem?_eq_getElem hi]
  rfl
theorem add_pos (a : Addr) (k : Nat) (hk : 0 < k) : a.add k = ⟨a.block, a.off + k, none⟩ := by
  unfold Addr.add
  rw [if_neg (by omega)]
theorem add_nil (a : Addr) : a.add 0 = a := rfl
theorem node_int {x : List Value} (h : OkAll nodeLs x) {k : Nat} (hk : nodeLs[k]? = some (.int .i64)) : ∃ n, x[k]? = some (.int .i64 n) ∧ -9223372036854775808 ≤ n ∧ n ≤ 9223372036854775807 := by
  obtain ⟨v, h1, n, rfl, h2⟩ := h.get hk
  exact ⟨n, h1, by simpa [Lit.wf, IntKind.min, IntKind.max, IntKind.signed, IntKind.bits] using h2⟩
theorem node_text {x : List Value} (h : OkAll nodeLs x) : ∃ s : ByteArray, x[50]? = some (.string s) ∧ s.size ≤ 9223372036854775807 := by
  obtain ⟨v, h1, s, rfl, h2⟩ := h.get (i := 50) (l := .str) rfl
  exact ⟨s, h1, by unfold maxLen at h2; omega⟩
theorem wfI {n : Int} (h : (Lit.int .i64 n).wf = true) : -9223372036854775808 ≤ n ∧ n ≤ 9223372036854775807 := by simpa [Lit.wf, IntKind.min, IntKind.max, IntKind.signed, IntKind.bits] using h
end Go.Proofs.Ytjnbfgogmhfbiaa
