/- Plain words for rows of bytes. -/
namespace Go.Proofs.Ytjnbfgogmhfbiaa
def nth (l : List Nat) (j : Nat) : Nat := l.getD j 0
def Byt (l : List Nat) : Prop := ∀ x ∈ l, x < 256
theorem nth_getElem {l : List Nat} {j : Nat} (h : j < l.length) : nth l j = l[j] := by simp [nth, h]
theorem ext_nth {l m : List Nat} (hl : l.length = m.length) (h : ∀ j, j < l.length → nth l j = nth m j) : l = m := by
  refine List.ext_getElem hl fun j h1 h2 => ?_
  have := h j h1
  rwa [nth_getElem h1, nth_getElem h2] at this
theorem Byt.nth {l : List Nat} (h : Byt l) (j : Nat) : nth l j < 256 := by
  unfold Go.Proofs.Ytjnbfgogmhfbiaa.nth
  by_cases hj : j < l.length
  · rw [List.getD_eq_getElem?_getD, List.getElem?_eq_getElem hj]
    exact h _ (List.getElem_mem hj)
  · rw [List.getD_eq_getElem?_getD, List.getElem?_eq_none (by omega)]
    simp
end Go.Proofs.Ytjnbfgogmhfbiaa
