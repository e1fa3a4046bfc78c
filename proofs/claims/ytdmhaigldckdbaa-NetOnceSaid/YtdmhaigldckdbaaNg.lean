/- A net of which a flight is taken: plain. -/
import Derived.Test.YtdmhaigldckdbaaNf
namespace Go.Proofs.Ytdmhaigldckdbaa
open Go Go.RowKit
theorem rowF_append (a b : List Flt) : rowF (a ++ b) = rowF a ++ rowF b := by simp [rowF]
theorem rowF_take : ∀ (i : Nat) (fl : List Flt), rowF (fl.take i) = (rowF fl).take (i * 2)
  | 0, fl => by simp [rowF]
  | i + 1, [] => by simp [rowF]
  | i + 1, f :: r => by
    have e : rowF (f :: r) = .int .i64 f.to :: .slice f.A f.bs.length f.cap :: rowF r := rfl
    rw [List.take_succ_cons, e, show (i + 1) * 2 = i * 2 + 1 + 1 by omega, List.take_succ_cons, List.take_succ_cons, ← rowF_take i r]
    rfl
theorem rowF_drop : ∀ (i : Nat) (fl : List Flt), rowF (fl.drop i) = (rowF fl).drop (i * 2)
  | 0, fl => by simp
  | i + 1, [] => by simp [rowF]
  | i + 1, f :: r => by
    have e : rowF (f :: r) = .int .i64 f.to :: .slice f.A f.bs.length f.cap :: rowF r := rfl
    rw [List.drop_succ_cons, e, show (i + 1) * 2 = i * 2 + 1 + 1 by omega, List.drop_succ_cons, List.drop_succ_cons, ← rowF_drop i r]
theorem rowF_erase (fl : List Flt) (i : Nat) : (rowF fl).take (i * 2) ++ (rowF fl).drop ((i + 1) * 2) = rowF (fl.eraseIdx i) := by
  rw [List.eraseIdx_eq_take_drop_succ, rowF_append, rowF_take, rowF_drop]
theorem rowF_one (fl : List Flt) : ∀ u ∈ rowF fl, u.oneCell' = true := by
  intro u hu
  obtain ⟨l, hl, hu⟩ := List.mem_flatten.1 hu
  obtain ⟨f, _, rfl⟩ := List.mem_map.1 hl
  simp [Flt.cells] at hu
  rcases hu with rfl | rfl <;> rfl
/-- Blocks of two types are two blocks. -/
theorem Own.row_ne {w : World} {base e size n cap g : Nat} {A : Option Addr} {xs : List Value} (h : Own w base e size A n cap xs) {o : Array Value} {T : TypeId} {fr : Nat × Nat} (hg : w.heap[g]? = some (.cells o T fr)) (hne : e ≠ T) : rowOf A cap ≠ some g := by
  intro hr
  by_cases hc : cap = 0
  · simp [rowOf, hc] at hr
  · rcases h.2.2.2 with h4 | ⟨k, cur, rfl, _, hgg, _⟩
    · exact hc h4
    · simp [rowOf, hc] at hr
      subst hr
      rw [hg] at hgg
      cases hgg
      exact hne rfl
theorem Own.row_of {w : World} {base e size n cap b : Nat} {A : Option Addr} {xs : List Value} (h : Own w base e size A n cap xs) (hr : rowOf A cap = some b) : ∃ cur, w.heap[b]? = some (.cells cur e (0, 0)) := by
  by_cases hc : cap = 0
  · simp [rowOf, hc] at hr
  · rcases h.2.2.2 with h4 | ⟨k, cur, rfl, _, hgg, _⟩
    · exact absurd h4 hc
    · simp [rowOf, hc] at hr
      subst hr
      exact ⟨cur, hgg⟩
/-- The flight's bytes are the caller's own now. -/
def Freed (w : World) (base g : Nat) (fl : List Flt) (x : Flt) : Prop := Own w base 5 1 x.A x.bs.length x.cap (x.bs.map byte) ∧ ∀ b, x.row = some b → ¬ Foot w g fl b
theorem apart_erase : ∀ (fl : List Flt) (i : Nat) (x : Flt), fl[i]? = some x → fl.Pairwise (fun f h => f.row = none ∨ f.row ≠ h.row) → ∀ y ∈ fl.eraseIdx i, x.row = none ∨ x.row ≠ y.row
  | [], i, x, hx, _, y, hy => by simp at hx
  | f :: r, 0, x, hx, hp, y, hy => by
    simp only [List.getElem?_cons_zero, Option.some.injEq] at hx
    subst hx
    rw [List.eraseIdx_cons_zero] at hy
    exact (List.pairwise_cons.1 hp).1 y hy
  | f :: r, i + 1, x, hx, hp, y, hy => by
    rw [List.getElem?_cons_succ] at hx
    rw [List.eraseIdx_cons_succ, List.mem_cons] at hy
    rcases hy with rfl | hy
    · rcases (List.pairwise_cons.1 hp).1 x (List.mem_of_getElem? hx) with h | h
      · cases hxr : x.row with
        | none => exact .inl rfl
        | some b => exact .inr (by rw [h]; simp)
      · exact .inr (fun e => h e.symm)
    · exact apart_erase r i x hx (List.pairwise_cons.1 hp).2 y hy
theorem NetIs.del {w V w8 w9 : World} {base g : Nat} {fl : List Flt} (h : NetIs w base g fl) {A0 : Option Addr} {c0 : Nat} (h0 : w.heap[g]? = some (.cells #[.bool true, .slice A0 fl.length c0] 45 (0, 0))) (hR : Own w base 33 2 A0 fl.length c0 (rowF fl))
    (hV : w.grownBy V none) (i : Nat) (x : Flt) (hx : fl[i]? = some x) (h1 : Own w8 base 33 2 A0 (fl.length - 1) c0 (rowF (fl.eraseIdx i))) (hg8 : V.grownBy w8 (rowOf A0 c0))
    (s : Nat) (hs : w.heap.size ≤ s) (hg9 : (w8.setCell ⟨g, 1, none⟩ (.slice A0 (fl.length - 1) c0)).grownBy w9 (some s)) :
    Step w w9 base g fl (fl.eraseIdx i) ∧ Freed w9 base g (fl.eraseIdx i) x := by
  obtain ⟨k1, k2, ⟨k3, k4⟩, _⟩ := h
  have hi : i < fl.length := (List.getElem?_eq_some_iff.1 hx).1
  have hlen : (fl.eraseIdx i).length = fl.length - 1 := by rw [List.length_eraseIdx, if_pos hi]
  have hgl := (Array.getElem?_eq_some_iff.1 h0).1
  have hRV := hR.grown0 hV
  have h0V : V.heap[g]? = some (.cells #[.bool true, .slice A0 fl.length c0] 45 (0, 0)) := by rw [hV.block g hgl (by simp)]; exact h0
  have h08 := heap_kept_row h0V hRV (by decide) hg8
  have hgS := grownBy_setCell w8 g 1 (.slice A0 (fl.length - 1) c0)
  have h0S := heap_setCell_same w8 g 1 _ _ (.slice A0 (fl.length - 1) c0) h08
  have h09 := (hg9.block g (Array.getElem?_eq_some_iff.1 h0S).1 (fun e => by cases e; omega)).trans h0S
  simp only [List.setIfInBounds_toArray, List.set_cons_succ, List.set_cons_zero] at h09
  have hall : ∀ y ∈ fl, y.ok ∧ Own w9 base 5 1 y.A y.bs.length y.cap (y.bs.map byte) := fun y hy => by
    refine ⟨(k3 y hy).1, ((((k3 y hy).2.grown0 hV).kept_row hRV (by decide) hg8).kept_ hgS h08 (by decide)).grownBy_ hg9 ?_⟩
    right
    intro e
    have := ((k3 y hy).2.row_ge s e).2
    omega
  have hrow9 : Own w9 base 33 2 A0 (fl.length - 1) c0 (rowF (fl.eraseIdx i)) := by
    refine (h1.kept_ hgS h08 (by decide)).grownBy_ hg9 (.inr fun e => ?_)
    have := (hR.row_ge s e).2
    omega
  have hmem : ∀ y ∈ fl.eraseIdx i, y ∈ fl := fun y hy => List.mem_of_mem_eraseIdx hy
  have hstep : Step w w9 base g fl (fl.eraseIdx i) := by
    refine ⟨⟨k1, by omega, ⟨fun y hy => hall y (hmem y hy), k4.sublist (List.eraseIdx_sublist fl i)⟩, A0, c0, by rw [hlen]; exact h09, by rw [hlen]; exact hrow9⟩, ?_, ?_⟩
    · refine (But.of_grown (F := Foot w g fl) hV (fun b e => by cases e)).trans (G := fun b => Foot w g fl b ∨ w.heap.size ≤ b) ((But.of_grown hg8 (fun b e => .inl (.inr (.inl ⟨A0, c0, h0, e⟩)))).trans (G := fun b => Foot w g fl b ∨ w.heap.size ≤ b) ((But.of_grown hgS (fun b e => by cases e; exact .inl (.inl rfl))).trans (G := fun b => Foot w g fl b ∨ w.heap.size ≤ b) (But.of_grown hg9 (fun b e => by cases e; exact .inr hs)) (fun i hi => .inl hi)) (fun i hi => .inl hi)) (fun i hi => hi)
    · rintro b (rfl | ⟨A', c', q1, q2⟩ | ⟨y, hy, q⟩)
      · exact .inl (.inl rfl)
      · rw [hlen, h09] at q1
        simp only [Option.some.injEq, Obj.cells.injEq, Array.mk.injEq, List.cons.injEq, Value.slice.injEq, and_true, true_and] at q1
        obtain ⟨rfl, rfl⟩ := q1
        exact .inl (.inr (.inl ⟨_, _, h0, q2⟩))
      · exact .inl (.inr (.inr ⟨y, hmem y hy, q⟩))
  refine ⟨hstep, (hall x (List.mem_of_getElem? hx)).2, ?_⟩
  have hx9 := (hall x (List.mem_of_getElem? hx)).2
  rintro b hb (rfl | ⟨A', c', q1, q2⟩ | ⟨y, hy, q⟩)
  · exact hx9.row_ne h09 (by decide) hb
  · rw [hlen, h09] at q1
    simp only [Option.some.injEq, Obj.cells.injEq, Array.mk.injEq, List.cons.injEq, Value.slice.injEq, and_true, true_and] at q1
    obtain ⟨rfl, rfl⟩ := q1
    obtain ⟨cur, hcur⟩ := hrow9.row_of q2
    exact hx9.row_ne hcur (by decide) hb
  · rcases apart_erase fl i x hx k4 y hy with h2 | h2
    · rw [h2] at hb; cases hb
    · exact h2 (hb.trans q.symm)
end Go.Proofs.Ytdmhaigldckdbaa
