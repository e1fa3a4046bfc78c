/- The document's ring: all versions. -/
import Derived.Test.YtkailfigoogfeaaRo
import Derived.Test.YtkailfigoogfeaaRow
import Derived.Test.YtkailfigoogfeaaGrow
namespace Go.Proofs.Ytkailfigoogfeaa
open Go Go.RowKit
theorem Own.row_of {w : World} {base e size n cap b : Nat} {A : Option Addr} {xs : List Value} (h : Own w base e size A n cap xs) (hr : rowOf A cap = some b) : ∃ cur, w.heap[b]? = some (.cells cur e (0, 0)) := by
  by_cases hc : cap = 0
  · simp [rowOf, hc] at hr
  · rcases h.2.2.2 with h4 | ⟨k, cur, rfl, _, hgg, _⟩
    · exact absurd h4 hc
    · simp [rowOf, hc] at hr
      subst hr
      exact ⟨cur, hgg⟩
theorem Own.kept_row {w w' : World} {base base' e e' size size' n cap n' cap' : Nat} {A A' : Option Addr} {xs ys : List Value} (h : Own w base e size A n cap xs) (hr : Own w base' e' size' A' n' cap' ys) (hne : e' ≠ e) (hg : w.grownBy w' (rowOf A' cap')) : Own w' base e size A n cap xs := by
  cases hq : rowOf A' cap' with
  | none => rw [hq] at hg; exact h.grown0 hg
  | some b =>
    obtain ⟨cur, hcur⟩ := hr.row_of hq
    rw [hq] at hg
    exact h.kept_ hg hcur hne
theorem heap_kept_row {w w' : World} {base' e' size' n' cap' g : Nat} {A' : Option Addr} {ys : List Value} {o : Array Value} {T : TypeId} (h : w.heap[g]? = some (.cells o T (0, 0))) (hr : Own w base' e' size' A' n' cap' ys) (hne : e' ≠ T) (hg : w.grownBy w' (rowOf A' cap')) : w'.heap[g]? = some (.cells o T (0, 0)) := by
  rw [hg.block g (Array.getElem?_eq_some_iff.1 h).1 (fun e => ?_)]
  · exact h
  · obtain ⟨cur, hcur⟩ := hr.row_of e.symm
    rw [h] at hcur
    cases hcur
    exact hne rfl
theorem Row.two {w : World} {g : Nat} {T : TypeId} {u v : Value} (h : Row w g T #[u, v]) : w.cell? ⟨g, 0, none⟩ = some u ∧ w.cell? ⟨g, 1, none⟩ = some v := ⟨h.at 0, h.at 1⟩
/-- A document as it lies. -/
structure DV where
  A : Option Addr
  c : Nat
  L : List (List Value)
  x : Int
def DV.cells (d : DV) : List Value := [.slice d.A d.L.length d.c, .int .i64 d.x]
def DV.it (d : DV) : List (List Value) × Int := (d.L, d.x)
def DV.ok (d : DV) : Prop := (∀ y ∈ d.L, OkAll nodeLs y) ∧ d.L.length ≤ 100000
def rowV (dl : List DV) : List Value := (dl.map DV.cells).flatten
theorem rowV_len : ∀ (dl : List DV), (rowV dl).length = dl.length * 2
  | [] => rfl
  | f :: r => by
    have := rowV_len r
    simp only [rowV, List.map_cons, List.flatten_cons, List.length_append, List.length_cons] at this ⊢
    rw [this]
    simp [DV.cells]
    omega
theorem rowV_snoc (dl : List DV) (d : DV) : rowV (dl ++ [d]) = rowV dl ++ d.cells := by simp [rowV]
theorem rowV_get : ∀ (dl : List DV) (i : Nat) (d : DV), dl[i]? = some d → (rowV dl)[i * 2]? = some (.slice d.A d.L.length d.c) ∧ (rowV dl)[i * 2 + 1]? = some (.int .i64 d.x)
  | [], i, d, h => by simp at h
  | f :: r, 0, d, h => by
    simp only [List.getElem?_cons_zero, Option.some.injEq] at h
    subst h
    exact ⟨rfl, rfl⟩
  | f :: r, i + 1, d, h => by
    rw [List.getElem?_cons_succ] at h
    have := rowV_get r i d h
    have e : rowV (f :: r) = .slice f.A f.L.length f.c :: .int .i64 f.x :: rowV r := rfl
    rw [e, show (i + 1) * 2 = i * 2 + 1 + 1 by omega, show i * 2 + 1 + 1 + 1 = (i * 2 + 1) + 1 + 1 by omega, List.getElem?_cons_succ, List.getElem?_cons_succ, List.getElem?_cons_succ, List.getElem?_cons_succ]
    exact this
/-- The document's ring; what its calls write lies below 'M'. -/
def DocR (w : World) (base g M : Nat) (dl : List DV) : Prop :=
  (base ≤ g ∧ g < M ∧ M ≤ w.heap.size) ∧ dl.length ≤ 100 ∧ (∀ d ∈ dl, d.ok ∧ Own w base 59 51 d.A d.L.length d.c d.L.flatten) ∧ ∃ A c, Row w g 63 #[.slice A dl.length c] ∧ Own w base 24 2 A dl.length c (rowV dl) ∧ ∀ r, rowOf A c = some r → r < M
/-- What lies ahead of 'base', from 'M' on, or is of another type, is as it was. -/
def Past (base M : Nat) (w w' : World) : Prop :=
  w'.os = w.os ∧ w'.tape = w.tape ∧ w'.output = w.output ∧ w.heap.size ≤ w'.heap.size ∧ ∀ b, b < w.heap.size → (b < base ∨ M ≤ b ∨ ∃ cur T, w.heap[b]? = some (.cells cur T (0, 0)) ∧ T ≠ 24 ∧ T ≠ 63) → w'.heap[b]? = w.heap[b]?
section
variable {w w' V : World} {base g M : Nat} {dl : List DV}
theorem Past.of_grown {r : Option Nat} (hg : w.grownBy w' r) (hr : ∀ b, r = some b → base ≤ b ∧ b < M ∧ ∃ cur T, w.heap[b]? = some (.cells cur T (0, 0)) ∧ (T = 24 ∨ T = 63)) : Past base M w w' :=
  ⟨hg.os, hg.tape, hg.output, hg.size, fun b hb h => hg.block b hb (fun e => by
    obtain ⟨h1, h2, cur, T, h3, h4⟩ := hr b e.symm
    rcases h with h | h | ⟨cur', T', h5, h6, h7⟩
    · omega
    · omega
    · rw [h3] at h5
      cases h5
      rcases h4 with h4 | h4
      · exact h6 h4
      · exact h7 h4)⟩
theorem Past.trans {a b c : World} (h : Past base M a b) (k : Past base M b c) : Past base M a c :=
  ⟨k.1.trans h.1, k.2.1.trans h.2.1, k.2.2.1.trans h.2.2.1, Nat.le_trans h.2.2.2.1 k.2.2.2.1, fun i hi hn => by
    have e := h.2.2.2.2 i hi hn
    refine (k.2.2.2.2 i (Nat.lt_of_lt_of_le hi h.2.2.2.1) ?_).trans e
    rcases hn with h1 | h1 | ⟨cur, T, h1, h2⟩
    · exact .inl h1
    · exact .inr (.inl h1)
    · exact .inr (.inr ⟨cur, T, by rw [e]; exact h1, h2⟩)⟩
theorem Past.own {b n c : Nat} {A : Option Addr} {xs : List Value} (h : Past base M w w') (ho : Own w b 59 51 A n c xs) : Own w' b 59 51 A n c xs := by
  obtain ⟨h1, h2, h3, h4⟩ := ho
  refine ⟨h1, h2, h3, ?_⟩
  rcases h4 with h4 | ⟨k, cur, rfl, hb, hgg, r⟩
  · exact .inl h4
  · exact .inr ⟨k, cur, rfl, hb, (h.2.2.2.2 k (Array.getElem?_eq_some_iff.1 hgg).1 (.inr (.inr ⟨cur, _, hgg, by decide, by decide⟩))).trans hgg, r⟩
theorem Past.ring {b k last : Nat} {f : Nat → List (List Value) × Int} (h : Past base M w w') (hr : RingIs w b k last f) : RingIs w' b k last f := by
  obtain ⟨h0, cur, h1, h2, h3, h4⟩ := hr
  refine ⟨h0, cur, (h.2.2.2.2 k (Array.getElem?_eq_some_iff.1 h1).1 (.inr (.inr ⟨cur, _, h1, by decide, by decide⟩))).trans h1, h2, h3, fun j hj => ?_⟩
  obtain ⟨A, c, a1, a2, a3, a4⟩ := h4 j hj
  exact ⟨A, c, a1, a2, h.own a3, a4⟩
theorem Past.row {b : Nat} {T : TypeId} {cs : Array Value} (h : Past base M w w') (hr : Row w b T cs) (hb : M ≤ b) : Row w' b T cs := (h.2.2.2.2 b hr.lt (.inr (.inl hb))).trans hr
theorem Past.grown {w0 : World} (h : Past base M w w') (hg : w0.grownBy w none) (hb : w0.heap.size ≤ base) : w0.grownBy w' none :=
  ⟨h.1.trans hg.os, h.2.1.trans hg.tape, h.2.2.1.trans hg.output, Nat.le_trans hg.size h.2.2.2.1, fun i hi _ => (h.2.2.2.2 i (Nat.lt_of_lt_of_le hi hg.size) (.inl (by omega))).trans (hg.block i hi (by simp))⟩
theorem DocR.grown0 (h : DocR w base g M dl) (hg : w.grownBy w' none) : DocR w' base g M dl := by
  obtain ⟨⟨h1, h2, h3⟩, h4, h5, A, c, h6, h7, h8⟩ := h
  exact ⟨⟨h1, h2, Nat.le_trans h3 hg.size⟩, h4, fun d hd => ⟨(h5 d hd).1, (h5 d hd).2.grown0 hg⟩, A, c, h6.kept0 hg, h7.grown0 hg, h8⟩
theorem DocR.more (h : DocR w base g M dl) : DocR w base g w.heap.size dl := by
  obtain ⟨⟨h1, h2, h3⟩, h4, h5, A, c, h6, h7, h8⟩ := h
  exact ⟨⟨h1, by omega, Nat.le_refl _⟩, h4, h5, A, c, h6, h7, fun r hr => by have := h8 r hr; omega⟩
/-- A program's ring that is written leaves the document's as it is. -/
theorem DocR.ring {b : Nat} {cur : Array Value} (h : DocR w base g M dl) (hg : w.grownBy w' (some b)) (hb : w.heap[b]? = some (.cells cur 29 (0, 0))) : DocR w' base g M dl := by
  obtain ⟨⟨h1, h2, h3⟩, h4, h5, A, c, h6, h7, h8⟩ := h
  refine ⟨⟨h1, h2, Nat.le_trans h3 hg.size⟩, h4, fun d hd => ⟨(h5 d hd).1, (h5 d hd).2.kept_ hg hb (by decide)⟩, A, c, h6.kept hg (fun e => ?_), h7.kept_ hg hb (by decide), h8⟩
  cases e
  unfold Row at h6
  rw [h6] at hb
  cases hb
theorem DocR.add (h : DocR w base g M dl) {A0 : Option Addr} {c0 : Nat} (h0 : Row w g 63 #[.slice A0 dl.length c0]) (hR : Own w base 24 2 A0 dl.length c0 (rowV dl)) (hM : ∀ r, rowOf A0 c0 = some r → r < M)
    (hV : w.grownBy V none) (d : DV) (hd : d.ok) (hn : dl.length < 100) {b1 : Nat} (hb1 : base ≤ b1) (ho : Own V b1 59 51 d.A d.L.length d.c d.L.flatten)
    {A1 : Option Addr} {c1 : Nat} {w8 : World} (h1 : Own w8 base 24 2 A1 (dl.length + 1) c1 (rowV dl ++ d.cells)) (hg8 : V.grownBy w8 (rowOf A0 c0)) :
    DocR (w8.setCell ⟨g, 0, none⟩ (.slice A1 (dl.length + 1) c1)) base g (w8.setCell ⟨g, 0, none⟩ (.slice A1 (dl.length + 1) c1)).heap.size (dl ++ [d]) ∧ Past base M w (w8.setCell ⟨g, 0, none⟩ (.slice A1 (dl.length + 1) c1)) := by
  obtain ⟨⟨k1, k2, k3⟩, k4, k5, _⟩ := h
  have hRV := hR.grown0 hV
  have h0V : V.heap[g]? = _ := h0.kept0 hV
  have h08 := heap_kept_row h0V hRV (by decide) hg8
  have hg9 := grownBy_setCell w8 g 0 (.slice A1 (dl.length + 1) c1)
  have hgl := (Array.getElem?_eq_some_iff.1 h08).1
  have hs9 := hg9.size
  refine ⟨⟨⟨k1, by omega, Nat.le_refl _⟩, by simp; omega, fun y hy => ?_, A1, c1, ?_, ?_, fun r hr => ?_⟩, ?_⟩
  · rcases List.mem_append.1 hy with hy | hy
    · exact ⟨(k5 y hy).1, (((k5 y hy).2.grown0 hV).kept_row hRV (by decide) hg8).kept_ hg9 h08 (by decide)⟩
    · rw [List.mem_singleton.1 hy]
      exact ⟨hd, ((ho.kept_row hRV (by decide) hg8).kept_ hg9 h08 (by decide)).base_ (by omega)⟩
  · have := heap_setCell_same w8 g 0 _ _ (.slice A1 (dl.length + 1) c1) h08
    show (w8.setCell ⟨g, 0, none⟩ (.slice A1 (dl.length + 1) c1)).heap[g]? = _
    rw [this]
    simp
  · have := h1.kept_ hg9 h08 (by decide)
    rw [rowV_snoc]
    simpa using this
  · have := (h1.row_ge r hr).2
    omega
  · refine ((Past.of_grown hV (fun b e => by cases e)).trans (Past.of_grown hg8 (fun b e => ?_))).trans (Past.of_grown hg9 (fun b e => ?_))
    · obtain ⟨cur, hcur⟩ := hRV.row_of e
      exact ⟨(hRV.row_ge b e).1, hM b e, cur, _, hcur, .inl rfl⟩
    · cases e
      exact ⟨k1, k2, _, _, h08, .inr rfl⟩
end
end Go.Proofs.Ytkailfigoogfeaa
