/- TreeLess: nodes with a cell set; nodes cut out. No program. -/
import Derived.Test.YthbdfibolgaapaaUb
namespace Go.Proofs.Ythbdfibolgaapaa
open Go Go.RowKit
theorem flatten_set {L : List (List Value)} (h : ∀ y ∈ L, y.length = 51) : ∀ (i k : Nat) (v : Value), i < L.length → k < 51 → L.flatten.set (i * 51 + k) v = (L.set i ((nd L i).set k v)).flatten := by
  induction L with
  | nil => intro i k v hi _; simp at hi
  | cons y r ih =>
    intro i k v hi hk
    have hy := h y (by simp)
    cases i with
    | zero =>
      simp only [List.flatten_cons, List.set_cons_zero, Nat.zero_mul, Nat.zero_add]
      rw [List.set_append_left _ _ (by omega)]
      rfl
    | succ i =>
      simp only [List.flatten_cons, List.set_cons_succ]
      rw [List.set_append_right _ _ (by omega), show (i + 1) * 51 + k - y.length = i * 51 + k by omega, ih (fun z hz => h z (by simp [hz])) i k v (by simpa using hi) hk]
      rfl
theorem flatten_take {L : List (List Value)} (h : ∀ y ∈ L, y.length = 51) : ∀ t, (L.take t).flatten = L.flatten.take (t * 51) := by
  induction L with
  | nil => intro t; simp
  | cons y r ih =>
    intro t
    have hy := h y (by simp)
    cases t with
    | zero => simp
    | succ t =>
      simp only [List.take_succ_cons, List.flatten_cons]
      rw [List.take_append, List.take_of_length_le (l := y) (by omega), ih (fun z hz => h z (by simp [hz])), show (t + 1) * 51 - y.length = t * 51 by omega]
theorem flatten_drop {L : List (List Value)} (h : ∀ y ∈ L, y.length = 51) : ∀ t, (L.drop t).flatten = L.flatten.drop (t * 51) := by
  induction L with
  | nil => intro t; simp
  | cons y r ih =>
    intro t
    have hy := h y (by simp)
    cases t with
    | zero => simp
    | succ t =>
      simp only [List.drop_succ_cons, List.flatten_cons]
      rw [List.drop_append, List.drop_of_length_le (l := y) (by omega), ih (fun z hz => h z (by simp [hz])), show (t + 1) * 51 - y.length = t * 51 by omega]
      simp
theorem okAll_set : ∀ (ls : List Lf) (cs : List Value) (k : Nat) (l : Lf) (v : Value), OkAll ls cs → ls[k]? = some l → l.ok v → OkAll ls (cs.set k v)
  | [], _, _, _, _, _, h, _ => by simp at h
  | a :: r, _, 0, l, v, ⟨c, cs, e, h1, h2⟩, hl, hv => by
    subst e
    simp only [List.getElem?_cons_zero, Option.some.injEq] at hl
    subst hl
    exact ⟨v, cs, rfl, hv, h2⟩
  | a :: r, _, k + 1, l, v, ⟨c, cs, e, h1, h2⟩, hl, hv => by
    subst e
    exact ⟨c, _, rfl, h1, okAll_set r cs k l v h2 (by simpa using hl) hv⟩
theorem key_set {x : List Value} (h : 0 < x.length) (m : Int) : keyN (x.set 0 (.int .i64 m)) = m := by
  unfold keyN intAt
  rw [List.getElem?_set_self h]
theorem dep_set {x : List Value} (h : 1 < x.length) (m : Int) : depN (x.set 1 (.int .i64 m)) = m := by
  unfold depN intAt
  rw [List.getElem?_set_self h]
theorem len_set {x : List Value} {k : Nat} (h : k ≠ 50) (v : Value) : lenN (x.set k v) = lenN x := by
  unfold lenN strAt
  rw [List.getElem?_set_ne h]
theorem set_small {L : List (List Value)} {a k : Nat} {v : Value} {b : Nat} (hk : k ≠ 50) (h : ∀ i, i < L.length → lenN (nd L i) ≤ b) (i : Nat) (hi : i < L.length) : lenN (nd (L.set a ((nd L a).set k v)) i) ≤ b := by
  by_cases e : a = i
  · subst e
    rw [nd_set_same hi, len_set hk]
    exact h a hi
  · rw [nd_set_other e]
    exact h i hi
theorem set_ok {L : List (List Value)} {a : Nat} {x : List Value} (h : ∀ y ∈ L, OkAll nodeLs y) (hx : OkAll nodeLs x) : ∀ y ∈ L.set a x, OkAll nodeLs y := fun y hy => by
  rcases List.mem_or_eq_of_mem_set hy with h1 | h1
  · exact h y h1
  · rw [h1]; exact hx
theorem less_small {L : List (List Value)} {a e b : Nat} (ha : a ≤ L.length) (h : ∀ i, i < L.length → lenN (nd L i) ≤ b) (i : Nat) (hi : i < a + (L.length - e)) : lenN (nd (L.take a ++ L.drop e) i) ≤ b := by
  rw [nd_less L a e i ha]
  split
  · exact h i (by omega)
  · exact h _ (by omega)
theorem less_ok {L : List (List Value)} {a e : Nat} (h : ∀ y ∈ L, OkAll nodeLs y) : ∀ y ∈ L.take a ++ L.drop e, OkAll nodeLs y := fun y hy => by
  rcases List.mem_append.1 hy with h1 | h1
  · exact h y (List.mem_of_mem_take h1)
  · exact h y (List.mem_of_mem_drop h1)
end Go.Proofs.Ythbdfibolgaapaa
