/- TreeParents: the row that tells whose kid each place is. -/
import Derived.Test.YthbdfibolgaapaaUb
namespace Go.Proofs.Ythbdfibolgaapaa
open Go Go.RowKit
/-- A row of n integers that the call may write. -/
def Wh (W : World) (g n : Nat) (f : Nat → Int) : Prop := ∃ cur : Array Value, W.heap[g]? = some (.cells cur 3 (0, 0)) ∧ cur.size = n ∧ ∀ k, k < n → cur[k]? = some (.int .i64 (f k))
section
variable {W W' : World} {g n k : Nat} {f f' : Nat → Int}
theorem Wh.cell (h : Wh W g n f) (hk : k < n) : W.cell? ⟨g, k, none⟩ = some (.int .i64 (f k)) := by
  obtain ⟨cur, h1, _, h3⟩ := h
  rw [cell_of_row W g k cur _ _ h1, h3 k hk]
theorem Wh.frozen (h : Wh W g n f) (k : Nat) : W.frozen? ⟨g, k, none⟩ = false := by
  obtain ⟨cur, h1, _, _⟩ := h
  exact frozen_of_row W g k cur _ h1
theorem Wh.lt (h : Wh W g n f) : g < W.heap.size := by
  obtain ⟨cur, h1, _, _⟩ := h
  exact (Array.getElem?_eq_some_iff.1 h1).1
theorem Wh.grown0 (h : Wh W g n f) (hg : W.grownBy W' none) : Wh W' g n f := by
  obtain ⟨cur, h1, h2, h3⟩ := h
  exact ⟨cur, by rw [hg.block g (Array.getElem?_eq_some_iff.1 h1).1 (by simp)]; exact h1, h2, h3⟩
theorem Wh.set (h : Wh W g n f) (k : Nat) (v : Int) (hk : ∀ j, j < n → f' j = if j = k then v else f j) : Wh (W.setCell ⟨g, k, none⟩ (.int .i64 v)) g n f' := by
  obtain ⟨cur, h1, h2, h3⟩ := h
  refine ⟨_, heap_setCell_same W g k cur _ _ h1, by simpa using h2, fun j hj => ?_⟩
  rw [hk j hj, Array.getElem?_setIfInBounds]
  by_cases e : k = j
  · subst e; simp [h2, hj]
  · rw [if_neg e, h3 j hj, if_neg (Ne.symm e)]
theorem Wh.congr (h : Wh W g n f) (hf : ∀ j, j < n → f' j = f j) : Wh W g n f' := by
  obtain ⟨cur, h1, h2, h3⟩ := h
  exact ⟨cur, h1, h2, fun j hj => by rw [hf j hj]; exact h3 j hj⟩
theorem Wh.new (W : World) (n : Nat) : Wh (W.alloc (.cells (madeCells #[.int .i64 0] n) 3)) W.heap.size n (fun _ => 0) :=
  ⟨_, heap_alloc_new W _, size_madeCells _ _, fun k hk => by simp [madeCells, hk, Nat.mod_one]⟩
/-- A row of places, in a block of its own. -/
def Ints (W : World) (g : Nat) (l : List Nat) : Prop := ∀ j q : Nat, l[j]? = some q → W.cell? ⟨g, j, none⟩ = some (.int .i64 (q : Int))
theorem Ints.grown0 {l : List Nat} (h : Ints W g l) (hg : W.grownBy W' none) : Ints W' g l := fun j q hq => hg.cell (h j q hq) (by simp)
theorem Ints.set {l : List Nat} (h : Ints W g l) {g' : Nat} (hne : g' ≠ g) (k : Nat) (v : Value) : Ints (W.setCell ⟨g', k, none⟩ v) g l := fun j q hq => (grownBy_setCell W g' k v).cell (h j q hq) (fun e => by cases e; exact hne rfl)
theorem ints_of {base c : Nat} {A : Option Addr} {l : List Nat} (h : Own W base 3 1 A l.length c (l.map intV)) : ∃ gk, (0 < l.length → A = some ⟨gk, 0, none⟩ ∧ base ≤ gk) ∧ Ints W gk l := by
  by_cases hl : 0 < l.length
  · obtain ⟨gk, hA, _, hb, _, hc⟩ := h.cells_ (by rw [List.length_map]; exact hl)
    refine ⟨gk, fun _ => ⟨hA, hb⟩, fun j q hq => ?_⟩
    have hj := (List.getElem?_eq_some_iff.1 hq).1
    rw [hc j (by rw [List.length_map]; exact hj), List.getElem?_map, hq]
    rfl
  · exact ⟨0, fun h => absurd h hl, fun j q hq => by have := (List.getElem?_eq_some_iff.1 hq).1; omega⟩
end
/-- Whose kid a place is, as far as it is told. -/
def owns (P : Nat → Int) (i : Nat) (S : List Nat) (j : Nat) : Int := if P j < i ∨ j ∈ S then P j else -1
section
variable {P : Nat → Int} {i j k n q : Nat} {kl : List Nat}
theorem owns_zero (h : -1 ≤ P j) : owns P 0 [] j = -1 := by
  unfold owns
  split
  · rename_i h'
    simp at h'
    omega
  · rfl
theorem owns_last (h : P j < j) (hj : j < n) : owns P n [] j = P j := by
  unfold owns
  rw [if_pos (.inl (by omega))]
theorem owns_next (hm : ∀ j, j < n → (j ∈ kl ↔ P j = i)) (hj : j < n) : owns P (i + 1) [] j = owns P i kl j := by
  unfold owns
  have h := hm j hj
  by_cases h1 : P j < i
  · rw [if_pos (.inl (by omega)), if_pos (.inl h1)]
  · by_cases h2 : P j = i
    · rw [if_pos (.inl (by omega)), if_pos (.inr (h.2 h2))]
    · rw [if_neg (by simp; omega), if_neg (by rintro (h3 | h3); · exact h1 h3
                                              · exact h2 (h.1 h3))]
theorem not_before (hs : kl.Pairwise (· < ·)) (hk : kl[k]? = some q) : q ∉ kl.take k := fun hq => by
  obtain ⟨m, hm⟩ := List.getElem?_of_mem hq
  rw [List.getElem?_take] at hm
  split at hm
  · rename_i hmk
    obtain ⟨h1, h2⟩ := List.getElem?_eq_some_iff.1 hm
    obtain ⟨h3, h4⟩ := List.getElem?_eq_some_iff.1 hk
    have := List.pairwise_iff_getElem.1 hs m k h1 h3 hmk
    omega
  · cases hm
theorem owns_fresh (hm : ∀ j, j < n → (j ∈ kl ↔ P j = i)) (hs : kl.Pairwise (· < ·)) (hk : kl[k]? = some q) (hq : q < n) : owns P i (kl.take k) q = -1 := by
  unfold owns
  have := (hm q hq).1 (List.mem_of_getElem? hk)
  rw [if_neg]
  rintro (h | h)
  · omega
  · exact not_before hs hk h
theorem owns_step (hm : ∀ j, j < n → (j ∈ kl ↔ P j = i)) (hk : kl[k]? = some q) (hj : j < n) : owns P i (kl.take (k + 1)) j = if j = q then (i : Int) else owns P i (kl.take k) j := by
  rw [List.take_add_one, hk]
  unfold owns
  by_cases e : j = q
  · subst e
    have := (hm j hj).1 (List.mem_of_getElem? hk)
    rw [if_pos rfl, if_pos (.inr (by simp)), this]
  · rw [if_neg e]
    have : (j ∈ kl.take k ++ (some q).toList ↔ j ∈ kl.take k) := by simp [e]
    simp only [this]
theorem kids_rise (hs : kl.Pairwise (· < ·)) {q' : Nat} (hk : kl[k]? = some q) (hk' : kl[k + 1]? = some q') : q < q' := by
  obtain ⟨h1, h2⟩ := List.getElem?_eq_some_iff.1 hk
  obtain ⟨h3, h4⟩ := List.getElem?_eq_some_iff.1 hk'
  have := List.pairwise_iff_getElem.1 hs k (k + 1) h1 h3 (by omega)
  omega
end
theorem Shape.findKey {L : List (List Value)} {x : Int} (h : Shape L x) {i : Nat} (hi : i < L.length) : findI L (keyN (nd L i)) = i :=
  findI_at hi (fun j hj => by
    have : keyN (nd L j) ≠ keyN (nd L i) := fun e => by have := h.keys (by omega) hi e; omega
    simpa using this) (by simp)
end Go.Proofs.Ythbdfibolgaapaa
