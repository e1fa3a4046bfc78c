/- Two-celled blocks; documents' rows: cloned, kept. -/
import Derived.Test.YtjnbfgogmhfbiaaNd
import Derived.RangeFuncNested
import Derived.WalkSpells
namespace Go.Proofs.Ytjnbfgogmhfbiaa
open Go Go.RowKit
theorem okAll_one : ∀ {ls : List Lf} {cs : List Value}, OkAll ls cs → ∀ u ∈ cs, u.oneCell' = true
  | [], _, h, u, hu => by cases h; simp at hu
  | l :: ls, _, ⟨v, r, e, h1, h2⟩, u, hu => by
    subst e
    rcases List.mem_cons.1 hu with rfl | hu
    · cases l with
      | int k => obtain ⟨n, rfl, _⟩ := h1; rfl
      | bool => obtain ⟨n, rfl⟩ := h1; rfl
      | str => obtain ⟨n, rfl, _⟩ := h1; rfl
    · exact okAll_one h2 u hu
theorem nodes_one {L : List (List Value)} (h : ∀ y ∈ L, OkAll nodeLs y) : ∀ u ∈ L.flatten, u.oneCell' = true := fun u hu => by
  obtain ⟨y, hy, hu⟩ := List.mem_flatten.1 hu
  exact okAll_one (h y hy) u hu
theorem nodes_len {L : List (List Value)} (h : ∀ y ∈ L, OkAll nodeLs y) : L.flatten.length = L.length * 51 := flatten_len 51 L (fun y hy => (h y hy).len)
theorem clone_nodes (A : Option Addr) (n c : Nat) (L : List (List Value)) (w : World) (B : Nat) (hL : ∀ y ∈ L, OkAll nodeLs y) (hl : L.length = n) (hr : Reads w B A L.flatten) (hn : n ≤ 100000) :
    Calls Try.prog 29 #[.slice A n c] w fun e w' => ∃ A' c', e = .returned (.slice A' n c') ∧ Own w' w.heap.size 32 51 A' n c' L.flatten ∧ w.grownBy w' none := by
  obtain ⟨i0, hi0, hz0, hz1, hz2⟩ := info_parts infoN
  have hfl := Lib.hid (show L.flatten.length = n * 51 by rw [nodes_len hL, hl])
  have h1 := nodes_one hL
  cases A with
  | none =>
    have hn0 : n = 0 := by
      rcases Nat.eq_zero_or_pos n with h | h
      · exact h
      · obtain ⟨ad, h2, _⟩ := hr (by rw [hfl.out]; omega)
        cases h2
    subst hn0
    have hl0 : L = [] := List.eq_nil_of_length_eq_zero hl
    subst hl0
    have hnil := fun W => Lib.run_eql_slice_nil (P := Try.prog) W 22 32 none 0 c 0 0 Try.underlying22
    go_enter Try.func29, Try.ntmps29
    go_wp2
    go_ret
    exact ⟨none, 0, rfl, Own.nil_ _ _ _ _ _, World.grownBy.refl _ _⟩
  | some ad =>
    have hnil := fun W => Lib.run_eql_slice_nil (P := Try.prog) W 22 32 (some ad) n c 0 0 Try.underlying22
    generalize L.flatten = xs at *
    clear hL hl
    go_enter Try.func29, Try.ntmps29
    go_wp2_with (at_builtin; refine wpList_append_Own rfl (.tmp 5) (.tmp 6) _ rfl w.heap.size 32 i0 _ 51 360 Try.underlying22 hi0 hz0 hz1 hz2 rfl (by omega) _ 0 0 [] rfl (Own.nil_ _ _ _ _ _) (some ad) n c B xs rfl hfl.out (hr.alloc _) h1 (by simp only [maxLen]; omega) (by omega) (by simp) ?_; intro A' c' w1 hown1 hg1 _)
    go_ret
    exact ⟨A', c', rfl, by simpa using hown1, grown_trans (World.grownBy_alloc w _ none) hg1⟩
/-- A row stays where only a block of another type is written. -/
theorem Own.kept_ {w w' : World} {base e size n cap : Nat} {A : Option Addr} {xs : List Value} (h : Own w base e size A n cap xs) {b : Nat} (hg : w.grownBy w' (some b)) {cur : Array Value} {t : TypeId} {fr : Nat × Nat} (hb : w.heap[b]? = some (.cells cur t fr)) (hne : t ≠ e) : Own w' base e size A n cap xs := by
  refine h.grownBy_ hg ?_
  by_cases hc : cap = 0
  · exact .inl (by simp [rowOf, hc])
  · refine .inr fun he => ?_
    rcases h.2.2.2 with h4 | ⟨g, cur', rfl, _, hgg, _⟩
    · exact hc h4
    · simp [rowOf, hc] at he
      subst he
      rw [hgg] at hb
      cases hb
      exact hne rfl
/-- Two cells of a block of two. -/
def Two (w : World) (b : Nat) (t : TypeId) (u v : Value) : Prop := w.heap[b]? = some (.cells #[u, v] t (0, 0))
theorem Two.new (w : World) (t : TypeId) (u v : Value) : Two (w.alloc (.cells #[u, v] t)) w.heap.size t u v := heap_alloc_new w _
theorem Two.kept {w w' : World} {b : Nat} {t : TypeId} {u v : Value} (h : Two w b t u v) {row : Option Nat} (hg : w.grownBy w' row) (hne : some b ≠ row) : Two w' b t u v := by
  unfold Two at *
  rw [hg.block b (Array.getElem?_eq_some_iff.1 h).1 hne]; exact h
theorem Two.c0 {w : World} {b : Nat} {t : TypeId} {u v : Value} (h : Two w b t u v) : w.cell? ⟨b, 0, none⟩ = some u := by rw [cell_of_row w b 0 _ _ _ h]; rfl
theorem Two.c1 {w : World} {b : Nat} {t : TypeId} {u v : Value} (h : Two w b t u v) : w.cell? ⟨b, 1, none⟩ = some v := by rw [cell_of_row w b 1 _ _ _ h]; rfl
theorem Two.f {w : World} {b : Nat} {t : TypeId} {u v : Value} (h : Two w b t u v) (k : Nat) : w.frozen? ⟨b, k, none⟩ = false := frozen_of_row w b k _ _ h
theorem Two.s0 {w : World} {b : Nat} {t : TypeId} {u v : Value} (h : Two w b t u v) (x : Value) : Two (w.setCell ⟨b, 0, none⟩ x) b t x v := heap_setCell_same w b 0 _ _ x h
theorem Two.s1 {w : World} {b : Nat} {t : TypeId} {u v : Value} (h : Two w b t u v) (x : Value) : Two (w.setCell ⟨b, 1, none⟩ x) b t u x := heap_setCell_same w b 1 _ _ x h
theorem Two.other {w : World} {b b' k : Nat} {t : TypeId} {u v : Value} (h : Two w b t u v) (hne : b ≠ b') (x : Value) : Two (w.setCell ⟨b', k, none⟩ x) b t u v := h.kept (grownBy_setCell w b' k x) (fun e => hne (by cases e; rfl))
theorem Two.lt {w : World} {b : Nat} {t : TypeId} {u v : Value} (h : Two w b t u v) : b < w.heap.size := (Array.getElem?_eq_some_iff.1 h).1
end Go.Proofs.Ytjnbfgogmhfbiaa
