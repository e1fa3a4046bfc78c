/- The walks of ring: a document in memory of its own; put; New; Push; Get. -/
import Derived.Test.YtkailfigoogfeaaNd
import Derived.Deep.RegionWith
import Derived.RangeFuncNested
import Derived.WalkSpells
namespace Go.Proofs.Ytkailfigoogfeaa
open Go Go.RowKit
theorem okAll_one : ∀ {ls : List Lf} {cs : List Value}, OkAll ls cs → ∀ u ∈ cs, u.oneCell' = true
  | [], _, h, u, hu => by cases h; simp at hu
  | l :: ls, _, ⟨v, r, e, h1, h2⟩, u, hu => by
    subst e
    rcases List.mem_cons.1 hu with rfl | hu
    · cases l with
      | int k => obtain ⟨n, rfl, _⟩ := h1; rfl
      | bool => obtain ⟨n, rfl⟩ := h1; rfl
      | str => obtain ⟨n, rfl, _⟩ := h1; rfl
    · exact okAll_one h2 u hu
theorem nodes_one {L : List (List Value)} (h : ∀ y ∈ L, OkAll nodeLs y) : ∀ u ∈ L.flatten, u.oneCell' = true := fun u hu => by
  obtain ⟨y, hy, hu⟩ := List.mem_flatten.1 hu
  exact okAll_one (h y hy) u hu
theorem nodes_len {L : List (List Value)} (h : ∀ y ∈ L, OkAll nodeLs y) : L.flatten.length = L.length * 51 := flatten_len 51 L (fun y hy => (h y hy).len)
theorem clone_nodes (A : Option Addr) (n c : Nat) (L : List (List Value)) (w : World) (B : Nat) (hL : ∀ y ∈ L, OkAll nodeLs y) (hl : L.length = n) (hr : Reads w B A L.flatten) (hn : n ≤ 100000) :
    Calls Try.prog 26 #[.slice A n c] w fun e w' => ∃ A' c', e = .returned (.slice A' n c') ∧ Own w' w.heap.size 59 51 A' n c' L.flatten ∧ w.grownBy w' none := by
  obtain ⟨i0, hi0, hz0, hz1, hz2⟩ := info_parts infoN
  have hfl := Lib.hid (show L.flatten.length = n * 51 by rw [nodes_len hL, hl])
  have h1 := nodes_one hL
  cases A with
  | none =>
    have hn0 : n = 0 := by
      rcases Nat.eq_zero_or_pos n with h | h
      · exact h
      · obtain ⟨ad, h2, _⟩ := hr (by rw [hfl.out]; omega)
        cases h2
    subst hn0
    have hl0 : L = [] := List.eq_nil_of_length_eq_zero hl
    subst hl0
    have hnil := fun W => Lib.run_eql_slice_nil (P := Try.prog) W 22 59 none 0 c 0 0 Try.underlying22
    go_enter Try.func26, Try.ntmps26
    go_wp2
    go_ret
    exact ⟨none, 0, rfl, Own.nil_ _ _ _ _ _, World.grownBy.refl _ _⟩
  | some ad =>
    have hnil := fun W => Lib.run_eql_slice_nil (P := Try.prog) W 22 59 (some ad) n c 0 0 Try.underlying22
    generalize L.flatten = xs at *
    clear hL hl
    go_enter Try.func26, Try.ntmps26
    go_wp2_with (at_builtin; refine wpList_append_Own rfl (.tmp 5) (.tmp 6) _ rfl w.heap.size 59 i0 _ 51 360 Try.underlying22 hi0 hz0 hz1 hz2 rfl (by omega) _ 0 0 [] rfl (Own.nil_ _ _ _ _ _) (some ad) n c B xs rfl hfl.out (hr.alloc _) h1 (by simp only [maxLen]; omega) (by omega) (by simp) ?_; intro A' c' w1 hown1 hg1 _)
    go_ret
    exact ⟨A', c', rfl, by simpa using hown1, grown_trans (World.grownBy_alloc w _ none) hg1⟩
theorem clip_nodes (A : Option Addr) (n c : Nat) (w : World) (hn : n ≤ c) (_hc : c ≤ 9223372036854775807) :
    Calls Try.prog 25 #[.slice A n c] w fun e w' => e = .returned (.slice A n n) ∧ w = w' := by
  have h0 := map_add0 A
  have h0' : A.map (fun a => a.add (0 * 51)) = A := by cases A <;> simp [Addr.add]
  go_enter Try.func25, Try.ntmps25
  go_wp2
  go_ret
  exact ⟨rfl, rfl⟩
/-- A row stays where only a block of another type is written. -/
theorem Own.kept_ {w w' : World} {base e size n cap : Nat} {A : Option Addr} {xs : List Value} (h : Own w base e size A n cap xs) {b : Nat} (hg : w.grownBy w' (some b)) {cur : Array Value} {t : TypeId} {fr : Nat × Nat} (hb : w.heap[b]? = some (.cells cur t fr)) (hne : t ≠ e) : Own w' base e size A n cap xs := by
  refine h.grownBy_ hg ?_
  by_cases hc : cap = 0
  · exact .inl (by simp [rowOf, hc])
  · refine .inr fun he => ?_
    rcases h.2.2.2 with h4 | ⟨g, cur', rfl, _, hgg, _⟩
    · exact hc h4
    · simp [rowOf, hc] at he
      subst he
      rw [hgg] at hb
      cases hb
      exact hne rfl
/-- Two cells of a block of two. -/
def Two (w : World) (b : Nat) (t : TypeId) (u v : Value) : Prop := w.heap[b]? = some (.cells #[u, v] t (0, 0))
theorem Two.new (w : World) (t : TypeId) (u v : Value) : Two (w.alloc (.cells #[u, v] t)) w.heap.size t u v := heap_alloc_new w _
theorem Two.kept {w w' : World} {b : Nat} {t : TypeId} {u v : Value} (h : Two w b t u v) {row : Option Nat} (hg : w.grownBy w' row) (hne : some b ≠ row) : Two w' b t u v := by
  unfold Two at *
  rw [hg.block b (Array.getElem?_eq_some_iff.1 h).1 hne]; exact h
theorem Two.c0 {w : World} {b : Nat} {t : TypeId} {u v : Value} (h : Two w b t u v) : w.cell? ⟨b, 0, none⟩ = some u := by rw [cell_of_row w b 0 _ _ _ h]; rfl
theorem Two.c1 {w : World} {b : Nat} {t : TypeId} {u v : Value} (h : Two w b t u v) : w.cell? ⟨b, 1, none⟩ = some v := by rw [cell_of_row w b 1 _ _ _ h]; rfl
theorem Two.f {w : World} {b : Nat} {t : TypeId} {u v : Value} (h : Two w b t u v) (k : Nat) : w.frozen? ⟨b, k, none⟩ = false := frozen_of_row w b k _ _ h
theorem Two.s0 {w : World} {b : Nat} {t : TypeId} {u v : Value} (h : Two w b t u v) (x : Value) : Two (w.setCell ⟨b, 0, none⟩ x) b t x v := heap_setCell_same w b 0 _ _ x h
theorem Two.s1 {w : World} {b : Nat} {t : TypeId} {u v : Value} (h : Two w b t u v) (x : Value) : Two (w.setCell ⟨b, 1, none⟩ x) b t u x := heap_setCell_same w b 1 _ _ x h
theorem Two.other {w : World} {b b' k : Nat} {t : TypeId} {u v : Value} (h : Two w b t u v) (hne : b ≠ b') (x : Value) : Two (w.setCell ⟨b', k, none⟩ x) b t u v := h.kept (grownBy_setCell w b' k x) (fun e => hne (by cases e; rfl))
theorem Two.lt {w : World} {b : Nat} {t : TypeId} {u v : Value} (h : Two w b t u v) : b < w.heap.size := (Array.getElem?_eq_some_iff.1 h).1
set_option maxHeartbeats 1000000 in
theorem own_any (A : Option Addr) (n c : Nat) (L : List (List Value)) (x : Int) (w : World) (B : Nat) (hL : ∀ y ∈ L, OkAll nodeLs y) (hl : L.length = n) (hr : Reads w B A L.flatten) (hn : n ≤ 100000) :
    Calls Try.prog 24 #[.agg #[.slice A n c, .int .i64 x]] w fun e w' => ∃ A', e = .returned (.agg #[.slice A' n n, .int .i64 x]) ∧ Own w' w.heap.size 59 51 A' n n L.flatten ∧ w.grownBy w' none := by
  have CC := Lib.hid (fun W (hg : w.grownBy W none) => clone_nodes A n c L W B hL hl (hr.grown0 hg) hn)
  have b1 := (Two.new w 24 (.slice A n c) (.int .i64 x)).kept (World.grownBy_alloc _ (.cells #[.slice none 0 0, .int .i64 0] 24) none) (by simp)
  have b2 := Two.new (w.alloc (.cells #[.slice A n c, .int .i64 x] 24)) 24 (.slice none 0 0) (.int .i64 0)
  rw [World.size_alloc] at b2
  have hg0 := grown_trans (World.grownBy_alloc w (.cells #[.slice A n c, .int .i64 x] 24) none) (World.grownBy_alloc _ (.cells #[.slice none 0 0, .int .i64 0] 24) none)
  have c1 := b1.c0
  generalize hW : (w.alloc (.cells #[.slice A n c, .int .i64 x] 24)).alloc (.cells #[.slice none 0 0, .int .i64 0] 24) = W at *
  have hW' := Lib.hid hW
  clear hW hL hl hr
  generalize L.flatten = xs at *
  go_enter Try.func24, Try.ntmps24
  go_wp2_with fail
  rw [hW'.out]
  refine (CC.out _ hg0).mono ?_; rintro e w1 ⟨A1, c2, rfl, hown, hg1⟩
  have k1 := hown.2.1
  have k2 : c2 ≤ 9223372036854775807 := by have := hown.2.2.1; unfold maxLen at this; omega
  go_wp2_with fail
  refine (clip_nodes A1 n c2 _ k1 k2).mono ?_; rintro e w2 ⟨rfl, rfl⟩
  have d1 := b1.kept hg1 (by simp)
  have d2 := b2.kept hg1 (by simp)
  have e0 := d1.c0
  have e1 := d1.c1
  have e2 := d1.f 0
  have e3 := d2.c0
  have e4 := d2.c1
  have e5 := d2.f 0
  have e6 := d2.f 1
  go_wp2_with fail
  have f2 := ((d2.other (b' := w.heap.size) (k := 0) (by omega) (.slice A1 n n)).s0 (.slice A1 n n)).s1 (.int .i64 x)
  have g0 := f2.c0
  have g1 := f2.c1
  have hgF := grown_put (grown_put (grown_put (grown_trans hg0 hg1) (Nat.le_refl _) 0 (.slice A1 n n)) (Nat.le_succ _) 0 (.slice A1 n n)) (Nat.le_succ _) 1 (.int .i64 x)
  have hoF := (((hown.room_ (Nat.le_refl _) k1).kept_ (grownBy_setCell w1 w.heap.size 0 (.slice A1 n n)) (b := w.heap.size) d1 (by decide)).kept_ (grownBy_setCell _ (w.heap.size + 1) 0 (.slice A1 n n)) (b := w.heap.size + 1) (d2.other (b' := w.heap.size) (k := 0) (by omega) (.slice A1 n n)) (by decide)).kept_ (grownBy_setCell _ (w.heap.size + 1) 1 (.int .i64 x)) (b := w.heap.size + 1) ((d2.other (b' := w.heap.size) (k := 0) (by omega) (.slice A1 n n)).s0 (.slice A1 n n)) (by decide)
  generalize ((w1.setCell ⟨w.heap.size, 0, none⟩ (.slice A1 n n)).setCell ⟨w.heap.size + 1, 0, none⟩ (.slice A1 n n)).setCell ⟨w.heap.size + 1, 1, none⟩ (.int .i64 x) = w5 at *
  exact bodyPost_ret (v := .agg #[.slice A1 n n, .int .i64 x]) (by simp [results, Try.results24, go_sem, g0, g1]) rfl ⟨A1, rfl, hoF.base_ hg0.size, hgF⟩
/-- What a ring keeps: behind 'last' versions, at place j what 'f' says. -/
def RingIs (w : World) (base g last : Nat) (f : Nat → List (List Value) × Int) : Prop :=
  base ≤ g ∧ ∃ cur : Array Value, w.heap[g]? = some (.cells cur 29 (0, 0)) ∧ cur.size = 9 ∧ cur[8]? = some (.int .i64 (last : Int)) ∧
    ∀ j, j < 4 → ∃ A c, cur[2 * j]? = some (.slice A (f j).1.length c) ∧ cur[2 * j + 1]? = some (.int .i64 (f j).2) ∧ Own w base 59 51 A (f j).1.length c (f j).1.flatten ∧ (∀ y ∈ (f j).1, OkAll nodeLs y) ∧ (f j).1.length ≤ 100000
def upd (f : Nat → List (List Value) × Int) (j : Nat) (D : List (List Value) × Int) : Nat → List (List Value) × Int := fun i => if i = j then D else f i
theorem upd_same (f : Nat → List (List Value) × Int) (j : Nat) (D : List (List Value) × Int) : upd f j D j = D := if_pos rfl
theorem upd_ne (f : Nat → List (List Value) × Int) {j i : Nat} (D : List (List Value) × Int) (h : i ≠ j) : upd f j D i = f i := if_neg h
section
variable {w w' : World} {base g last : Nat} {f : Nat → List (List Value) × Int}
theorem RingIs.lt (h : RingIs w base g last f) : g < w.heap.size := by
  obtain ⟨_, cur, h1, _⟩ := h
  exact (Array.getElem?_eq_some_iff.1 h1).1
theorem RingIs.grown0 (h : RingIs w base g last f) (hg : w.grownBy w' none) : RingIs w' base g last f := by
  obtain ⟨h0, cur, h1, h2, h3, h4⟩ := h
  refine ⟨h0, cur, by rw [hg.block g (Array.getElem?_eq_some_iff.1 h1).1 (by simp)]; exact h1, h2, h3, fun j hj => ?_⟩
  obtain ⟨A, c, a1, a2, a3, a4, a5⟩ := h4 j hj
  exact ⟨A, c, a1, a2, a3.grown0 hg, a4, a5⟩
theorem RingIs.c8 (h : RingIs w base g last f) : w.cell? ⟨g, 8, none⟩ = some (.int .i64 (last : Int)) ∧ ∀ k, w.frozen? ⟨g, k, none⟩ = false := by
  obtain ⟨_, cur, h1, _, h3, _⟩ := h
  exact ⟨by rw [cell_of_row w g 8 _ _ _ h1]; exact h3, fun k => frozen_of_row w g k _ _ h1⟩
theorem RingIs.doc (h : RingIs w base g last f) {j : Nat} (hj : j < 4) : ∃ A c, w.cell? ⟨g, 2 * j, none⟩ = some (.slice A (f j).1.length c) ∧ w.cell? ⟨g, 2 * j + 1, none⟩ = some (.int .i64 (f j).2) ∧ Own w base 59 51 A (f j).1.length c (f j).1.flatten ∧ (∀ y ∈ (f j).1, OkAll nodeLs y) ∧ (f j).1.length ≤ 100000 := by
  obtain ⟨_, cur, h1, _, _, h4⟩ := h
  obtain ⟨A, c, a1, a2, a3⟩ := h4 j hj
  exact ⟨A, c, by rw [cell_of_row w g _ _ _ _ h1]; exact a1, by rw [cell_of_row w g _ _ _ _ h1]; exact a2, a3⟩
/-- A store into the ring's own block leaves nodes alone. -/
theorem own_ring {A : Option Addr} {n c : Nat} {xs : List Value} {b2 : Nat} {cur : Array Value} (h : Own w b2 59 51 A n c xs) (h1 : w.heap[g]? = some (.cells cur 29 (0, 0))) (k : Nat) (v : Value) : Own (w.setCell ⟨g, k, none⟩ v) b2 59 51 A n c xs :=
  h.kept_ (grownBy_setCell w g k v) (b := g) h1 (by decide)
theorem RingIs.bump (h : RingIs w base g last f) (m : Nat) : RingIs (w.setCell ⟨g, 8, none⟩ (.int .i64 (m : Int))) base g m f := by
  obtain ⟨h0, cur, h1, h2, h3, h4⟩ := h
  refine ⟨h0, cur.setIfInBounds 8 (.int .i64 (m : Int)), heap_setCell_same w g 8 _ _ _ h1, by simpa using h2, by rw [Array.getElem?_setIfInBounds]; simp [h2], fun j hj => ?_⟩
  obtain ⟨A, c, a1, a2, a3, a4, a5⟩ := h4 j hj
  exact ⟨A, c, by rw [Array.getElem?_setIfInBounds, if_neg (by omega)]; exact a1, by rw [Array.getElem?_setIfInBounds, if_neg (by omega)]; exact a2, own_ring a3 h1 _ _, a4, a5⟩
theorem RingIs.lay (h : RingIs w base g last f) {j : Nat} (hj : j < 4) {A' : Option Addr} {c' : Nat} {L : List (List Value)} (x : Int) (ho : Own w base 59 51 A' L.length c' L.flatten) (hL : ∀ y ∈ L, OkAll nodeLs y) (hn : L.length ≤ 100000) :
    RingIs ((w.setCell ⟨g, 2 * j, none⟩ (.slice A' L.length c')).setCell ⟨g, 2 * j + 1, none⟩ (.int .i64 x)) base g last (upd f j (L, x)) := by
  obtain ⟨h0, cur, h1, h2, h3, h4⟩ := h
  have k1 := heap_setCell_same w g (2 * j) _ _ (.slice A' L.length c') h1
  have k2 := heap_setCell_same (w.setCell ⟨g, 2 * j, none⟩ (.slice A' L.length c')) g (2 * j + 1) _ _ (.int .i64 x) k1
  refine ⟨h0, _, k2, by simpa using h2, by rw [Array.getElem?_setIfInBounds, if_neg (by omega), Array.getElem?_setIfInBounds, if_neg (by omega)]; exact h3, fun i hi => ?_⟩
  by_cases e : i = j
  · subst e
    rw [upd_same]
    refine ⟨A', c', by rw [Array.getElem?_setIfInBounds, if_neg (by omega), Array.getElem?_setIfInBounds, if_pos rfl, if_pos (by omega)], by rw [Array.getElem?_setIfInBounds, if_pos rfl, if_pos (by simp; omega)], own_ring (own_ring ho h1 _ _) k1 _ _, hL, hn⟩
  · rw [upd_ne f _ e]
    obtain ⟨A, c, a1, a2, a3, a4, a5⟩ := h4 i hi
    exact ⟨A, c, by rw [Array.getElem?_setIfInBounds, if_neg (by omega), Array.getElem?_setIfInBounds, if_neg (by omega)]; exact a1, by rw [Array.getElem?_setIfInBounds, if_neg (by omega), Array.getElem?_setIfInBounds, if_neg (by omega)]; exact a2, own_ring (own_ring a3 h1 _ _) k1 _ _, a4, a5⟩
end
theorem last_any (w : World) (base g last : Nat) (f : Nat → List (List Value) × Int) (h : RingIs w base g last f) :
    Calls Try.prog 13 #[.pointer (some ⟨g, 0, none⟩)] w fun e w' => e = .returned (.int .i64 (last : Int)) ∧ w = w' := by
  have hc := h.c8.1
  clear h
  go_enter Try.func13, Try.ntmps13
  go_wp2
  go_ret
  exact ⟨rfl, rfl⟩
def firstOf (last : Nat) : Nat := if last = 0 then 0 else max 1 (last - 3)
theorem first_any (w : World) (base g last : Nat) (f : Nat → List (List Value) × Int) (h : RingIs w base g last f) (h1 : 1 ≤ last) (hb : last ≤ 1000000) :
    Calls Try.prog 12 #[.pointer (some ⟨g, 0, none⟩)] w fun e w' => e = .returned (.int .i64 (firstOf last : Nat)) ∧ w = w' := by
  have hc := h.c8.1
  have C := Lib.hid (last_any w base g last f h)
  have hne : ((last : Int) == 0) = false := by simp; omega
  by_cases h4 : last ≤ 4
  · have hfo := Lib.hid (show ((firstOf last : Nat) : Int) = 1 by unfold firstOf; rw [if_neg (by omega)]; omega)
    clear h
    have hm : max (1 : Int) ((last : Int) - 4 + 1) = 1 := by omega
    rw [hfo.out]
    clear hm
    go_enter Try.func12, Try.ntmps12
    go_wp2_with fail
    refine C.out.mono ?_; rintro e w1 ⟨rfl, rfl⟩
    go_wp2
    all_goals
      go_ret
      refine ⟨?_, rfl⟩
      first
        | rfl
        | (refine ret_int ?_; omega)
  · have hfo := Lib.hid (show ((firstOf last : Nat) : Int) = (last : Int) - 3 by unfold firstOf; rw [if_neg (by omega)]; omega)
    clear h
    rw [hfo.out]
    go_enter Try.func12, Try.ntmps12
    go_wp2_with fail
    refine C.out.mono ?_; rintro e w1 ⟨rfl, rfl⟩
    go_wp2
    all_goals
      go_ret
      refine ⟨?_, rfl⟩
      refine ret_int ?_
      omega
set_option maxHeartbeats 1000000 in
theorem put_any (w : World) (base g last : Nat) (f : Nat → List (List Value) × Int) (A : Option Addr) (n c : Nat) (L : List (List Value)) (x : Int) (h : RingIs w base g last f) (hbw : base ≤ w.heap.size) (hb : last ≤ 1000000) (hL : ∀ y ∈ L, OkAll nodeLs y) (hl : L.length = n) (hn : n ≤ 100000)
    (HR : ∀ W, w.grownBy W (some g) → Reads W W.heap.size A L.flatten) :
    Calls Try.prog 23 #[.pointer (some ⟨g, 0, none⟩), .agg #[.slice A n c, .int .i64 x]] w fun e w' => e = .returned (.tuple #[]) ∧ RingIs w' base g (last + 1) (upd f ((last + 1) % 4) (L, x)) ∧ w.grownBy w' (some g) := by
  have hlt := h.lt
  have hc8 := h.c8.1
  have hf8 := h.c8.2 8
  have hW : ∃ W, (w.setCell ⟨g, 8, none⟩ (.int .i64 ((last : Int) + 1))).alloc (.cells #[.slice A n c, .int .i64 x] 24) = W ∧ RingIs W base g (last + 1) f ∧ Two W w.heap.size 24 (.slice A n c) (.int .i64 x) ∧ w.grownBy W (some g) ∧ base ≤ W.heap.size := by
    have e1 : (.int .i64 ((last : Int) + 1) : Value) = .int .i64 ((last + 1 : Nat) : Int) := by congr 1
    have g1 := grownBy_setCell w g 8 (.int .i64 ((last + 1 : Nat) : Int))
    have g2 := grown_trans g1 (World.grownBy_alloc _ (.cells #[.slice A n c, .int .i64 x] 24) (some g))
    refine ⟨_, rfl, ?_, ?_, ?_, ?_⟩
    · rw [e1]; exact (h.bump (last + 1)).grown0 (World.grownBy_alloc _ _ _)
    · have := Two.new (w.setCell ⟨g, 8, none⟩ (.int .i64 ((last : Int) + 1))) 24 (.slice A n c) (.int .i64 x)
      rwa [World.size_setCell] at this
    · rw [e1]; exact g2
    · rw [e1]; exact Nat.le_trans hbw g2.size
  obtain ⟨W, hW, rW, bW, gW, hbW⟩ := hW
  have hW' := Lib.hid hW
  obtain ⟨m, hm⟩ : ∃ m, m = last + 1 := ⟨_, rfl⟩
  rw [← hm] at rW ⊢
  obtain ⟨j, hjm⟩ : ∃ j, j = m % 4 := ⟨_, rfl⟩
  rw [← hjm]
  have hj : j < 4 := by omega
  have hj0 : (0 : Int) ≤ (j : Int) := by omega
  have et : ((m : Nat) : Int).tmod 4 = (j : Int) := by rw [Int.tmod_eq_emod_of_nonneg (by omega)]; omega
  have et2 : ((m : Nat) : Int) % 4 = (j : Int) := by omega
  have CO := Lib.hid (fun V (hg : W.grownBy V none) => own_any A n c L x V V.heap.size hL hl (HR V (grown_trans gW (grown_drop hg))) hn)
  have hl' := Lib.hid hl
  have HV := Lib.hid (fun V (hg : W.grownBy V none) => (rW.grown0 hg).doc hj)
  have HF := Lib.hid (fun V (hg : W.grownBy V none) => (rW.grown0 hg).c8)
  have HB := Lib.hid (fun V (hg : W.grownBy V none) => bW.kept hg (by simp))
  have hgd : W.grownBy W.drew none := grown_drew (World.grownBy.refl _ _)
  have hcD0 := (HB.out _ hgd).c0
  have hcD1 := (HB.out _ hgd).c1
  have hc8' := (HF.out _ hgd).1
  have HL := Lib.hid (fun V A' (hg : W.grownBy V none) (ho : Own V base 59 51 A' n n L.flatten) => show RingIs ((V.setCell ⟨g, j * 2, none⟩ (.slice A' n n)).setCell ⟨g, j * 2 + 1, none⟩ (.int .i64 x)) base g m (upd f j (L, x)) by
    have := (rW.grown0 hg).lay (A' := A') (c' := n) (L := L) hj x (by rw [hl]; exact ho) hL (by omega)
    rwa [hl, Nat.mul_comm] at this)
  clear h hW hL hl hm hjm
  go_enter Try.func23, Try.ntmps23
  go_wp2_with fail
  rw [hW'.out]
  clear hc8 hf8
  go_region_with (go_at_call 24; refine (CO.out _ hgd).mono ?_; rintro e V ⟨A', rfl, hown, hg'⟩; obtain ⟨AV, cV, v1, v2, _⟩ := HV.out V (grown_trans hgd hg'); have v3 := (HF.out V (grown_trans hgd hg')).1; have v4 := (HF.out V (grown_trans hgd hg')).2 (2 * j); have v5 := (HF.out V (grown_trans hgd hg')).2 (2 * j + 1); rw [Nat.mul_comm] at v1 v2 v4 v5)
  all_goals
    have hgA := grown_trans hgd hg'
    have hR := HL.out V A' hgA (hown.base_ (Nat.le_trans hbW hgd.size))
    have hgF := grown_trans (grown_trans gW (grown_drop hgA)) (grown_trans (grownBy_setCell V g (j * 2) (.slice A' n n)) (grownBy_setCell _ g (j * 2 + 1) (.int .i64 x)))
    clear v1 v2 v3 v4 v5 HV HF HB CO
    go_end0
    exact ⟨rfl, hR, hgF⟩
set_option maxHeartbeats 1000000 in
theorem push_any (w : World) (base g last : Nat) (f : Nat → List (List Value) × Int) (A : Option Addr) (n c : Nat) (L : List (List Value)) (x : Int) (h : RingIs w base g last f) (h1 : 1 ≤ last) (hbw : base ≤ w.heap.size) (hb : last ≤ 1000000) (hL : ∀ y ∈ L, OkAll nodeLs y) (hl : L.length = n) (hn : n ≤ 100000)
    (HR : ∀ W, w.grownBy W (some g) → Reads W W.heap.size A L.flatten) :
    Calls Try.prog 9 #[.pointer (some ⟨g, 0, none⟩), .agg #[.slice A n c, .int .i64 x]] w fun e w' => e = .returned (.tuple #[.int .i64 ((last + 1 : Nat) : Int), .int .i64 0]) ∧ RingIs w' base g (last + 1) (upd f ((last + 1) % 4) (L, x)) ∧ w.grownBy w' (some g) := by
  have ga := World.grownBy_alloc w (.cells #[.slice A n c, .int .i64 x] 24) none
  have CL := Lib.hid (last_any _ base g last f (h.grown0 ga))
  have CP := Lib.hid (put_any _ base g last f A n c L x (h.grown0 ga) (Nat.le_trans hbw ga.size) hb hL hl hn (fun W hg => HR W (grown_trans (grown_drop ga) hg)))
  have hne : ((last : Int) == 0) = false := by simp; omega
  have ga' := Lib.hid ga
  generalize upd f ((last + 1) % 4) (L, x) = f2 at *
  generalize last + 1 = m at *
  clear h hL hl HR ga
  go_enter Try.func9, Try.ntmps9
  go_wp2_with fail
  refine CL.out.mono ?_; rintro e w1 ⟨rfl, rfl⟩
  go_wp2_with fail
  refine CP.out.mono ?_; rintro e w2 ⟨rfl, hR, hg2⟩
  have hc := hR.c8.1
  go_wp2
  go_ret2
  exact ⟨rfl, hR, grown_trans (grown_drop ga'.out) hg2⟩
set_option maxHeartbeats 1000000 in
/-- New: a ring of a first version. -/
theorem new_any (w : World) (A : Option Addr) (n c : Nat) (L : List (List Value)) (x : Int) (hL : ∀ y ∈ L, OkAll nodeLs y) (hl : L.length = n) (hn : n ≤ 100000) (hr : Reads w w.heap.size A L.flatten) :
    Calls Try.prog 15 #[.agg #[.slice A n c, .int .i64 x]] w fun e w' => ∃ g, e = .returned (.pointer (some ⟨g, 0, none⟩)) ∧ RingIs w' w.heap.size g 1 (upd (fun _ => ([], 0)) 1 (L, x)) ∧ w.grownBy w' none := by
  have b1 := (Two.new w 24 (.slice A n c) (.int .i64 x)).kept (World.grownBy_alloc _ (.cells #[.slice none 0 0, .int .i64 0, .slice none 0 0, .int .i64 0, .slice none 0 0, .int .i64 0, .slice none 0 0, .int .i64 0, .int .i64 0] 29) none) (by simp)
  have hg0 := grown_trans (World.grownBy_alloc w (.cells #[.slice A n c, .int .i64 x] 24) none) (World.grownBy_alloc _ (.cells #[.slice none 0 0, .int .i64 0, .slice none 0 0, .int .i64 0, .slice none 0 0, .int .i64 0, .slice none 0 0, .int .i64 0, .int .i64 0] 29) none)
  have hR0 : RingIs ((w.alloc (.cells #[.slice A n c, .int .i64 x] 24)).alloc (.cells #[.slice none 0 0, .int .i64 0, .slice none 0 0, .int .i64 0, .slice none 0 0, .int .i64 0, .slice none 0 0, .int .i64 0, .int .i64 0] 29)) w.heap.size (w.heap.size + 1) 0 (fun _ => ([], 0)) := by
    refine ⟨by omega, _, by
      have := heap_alloc_new (w.alloc (.cells #[.slice A n c, .int .i64 x] 24)) (.cells #[.slice none 0 0, .int .i64 0, .slice none 0 0, .int .i64 0, .slice none 0 0, .int .i64 0, .slice none 0 0, .int .i64 0, .int .i64 0] 29)
      rwa [World.size_alloc] at this, rfl, rfl, fun j hj => ⟨none, 0, ?_, ?_, Own.nil_ _ _ _ _ _, by simp, by simp⟩⟩
    · rcases (by omega : j = 0 ∨ j = 1 ∨ j = 2 ∨ j = 3) with rfl | rfl | rfl | rfl <;> rfl
    · rcases (by omega : j = 0 ∨ j = 1 ∨ j = 2 ∨ j = 3) with rfl | rfl | rfl | rfl <;> rfl
  generalize hW : (w.alloc (.cells #[.slice A n c, .int .i64 x] 24)).alloc (.cells #[.slice none 0 0, .int .i64 0, .slice none 0 0, .int .i64 0, .slice none 0 0, .int .i64 0, .slice none 0 0, .int .i64 0, .int .i64 0] 29) = W at *
  have CP := Lib.hid (put_any W w.heap.size (w.heap.size + 1) 0 _ A n c L x hR0 hg0.size (by omega) hL hl hn (fun V hg => by
    have := hr.keep (w' := V) (fun p hp v hv => by
      have h1 := (grown_new (a := w) hg0 hg (fun g e => by cases e; omega))
      exact ((grown_below h1).cell hp).trans hv)
    have h2 := grown_new (a := w) hg0 hg (fun g e => by cases e; omega)
    exact this.more h2.size))
  have c0 := b1.c0
  have c1 := b1.c1
  have hW' := Lib.hid hW
  clear hW hL hl hr hR0
  go_enter Try.func15, Try.ntmps15
  go_wp2_with fail
  rw [hW'.out]
  go_wp2_with fail
  refine CP.out.mono ?_; rintro e w2 ⟨rfl, hR, hg2⟩
  go_wp2
  go_ret
  exact ⟨_, rfl, hR, grown_new hg0 hg2 (fun g e => by cases e; omega)⟩
set_option maxHeartbeats 1000000 in
/-- Get, of a version that is kept. -/
theorem get_yes (w : World) (base g last v : Nat) (f : Nat → List (List Value) × Int) (h : RingIs w base g last f) (h1 : 1 ≤ last) (hb : last ≤ 1000000) (hv : firstOf last ≤ v) (hv2 : v ≤ last) :
    Calls Try.prog 10 #[.pointer (some ⟨g, 0, none⟩), .int .i64 (v : Int)] w fun e w' => ∃ A', e = .returned (.tuple #[.agg #[.slice A' (f (v % 4)).1.length (f (v % 4)).1.length, .int .i64 (f (v % 4)).2], .int .i64 0]) ∧ Own w' w.heap.size 59 51 A' (f (v % 4)).1.length (f (v % 4)).1.length (f (v % 4)).1.flatten ∧ w.grownBy w' none := by
  have ga := World.grownBy_alloc w (.cells #[.slice none 0 0, .int .i64 0] 24) none
  have b1 := Two.new w 24 (.slice none 0 0) (.int .i64 0)
  have hR := h.grown0 ga
  generalize hW : w.alloc (.cells #[.slice none 0 0, .int .i64 0] 24) = W at *
  have hW' := Lib.hid hW
  obtain ⟨j, hjm⟩ : ∃ j, j = v % 4 := ⟨_, rfl⟩
  rw [← hjm]
  have hj : j < 4 := by omega
  have et : ((v : Nat) : Int).tmod 4 = (j : Int) := by rw [Int.tmod_eq_emod_of_nonneg (by omega)]; omega
  have et2 : ((v : Nat) : Int) % 4 = (j : Int) := by omega
  obtain ⟨A, c, v1, v2, ho, hLj, hnj⟩ := hR.doc hj
  have hc8 := hR.c8.1
  have CL := Lib.hid (last_any _ base g last f hR)
  have CF := Lib.hid (first_any _ base g last f hR h1 hb)
  have CO := Lib.hid (own_any A (f j).1.length c (f j).1 (f j).2 W W.heap.size hLj rfl ho.reads hnj)
  have hne : ((last : Int) == 0) = false := by simp; omega
  have hd1 : ¬ (v : Int) < (firstOf last : Int) := by omega
  have hd2 : ¬ (last : Int) < (v : Int) := by omega
  rw [Nat.mul_comm] at v1 v2
  generalize firstOf last = fi at *
  generalize (f j).1.length = nj at *
  generalize (f j).1.flatten = xs at *
  generalize (f j).2 = xj at *
  clear h hW hR ho hjm hLj
  go_enter Try.func10, Try.ntmps10
  go_wp2_with fail
  rw [hW'.out]
  go_wp2_with fail
  refine CL.out.mono ?_; rintro e w1 ⟨rfl, rfl⟩
  go_wp2_with fail
  refine CF.out.mono ?_; rintro e w1 ⟨rfl, rfl⟩
  go_wp2_with fail
  refine CO.out.mono ?_; rintro e w2 ⟨A', rfl, hown, hg2⟩
  have d1 := b1.kept hg2 (by simp)
  have e1 := d1.c0
  have e2 := d1.c1
  have e3 := d1.f 0
  have e4 := d1.f 1
  go_wp2
  have f2 := (d1.s0 (.slice A' nj nj)).s1 (.int .i64 xj)
  have g0 := f2.c0
  have g1 := f2.c1
  have hgF := grown_put (grown_put (grown_trans ga hg2) (Nat.le_refl _) 0 (.slice A' nj nj)) (Nat.le_refl _) 1 (.int .i64 xj)
  have hoF := (hown.kept_ (grownBy_setCell w2 w.heap.size 0 (.slice A' nj nj)) (b := w.heap.size) d1 (by decide)).kept_ (grownBy_setCell _ w.heap.size 1 (.int .i64 xj)) (b := w.heap.size) (d1.s0 (.slice A' nj nj)) (by decide)
  generalize (w2.setCell ⟨w.heap.size, 0, none⟩ (.slice A' nj nj)).setCell ⟨w.heap.size, 1, none⟩ (.int .i64 xj) = w5 at *
  exact bodyPost_ret (v := .tuple #[.agg #[.slice A' nj nj, .int .i64 xj], .int .i64 0]) (by simp [results, Try.results10, go_sem, g0, g1]) rfl ⟨A', rfl, hoF.base_ ga.size, hgF⟩
set_option maxHeartbeats 1000000 in
/-- Get, of a version that is not kept. -/
theorem get_none (w : World) (base g last : Nat) (v : Int) (f : Nat → List (List Value) × Int) (h : RingIs w base g last f) (h1 : 1 ≤ last) (hb : last ≤ 1000000) (hv : v < firstOf last ∨ (firstOf last ≤ v ∧ (last : Int) < v)) :
    Calls Try.prog 10 #[.pointer (some ⟨g, 0, none⟩), .int .i64 v] w fun e w' => e = .returned (.tuple #[.agg #[.slice none 0 0, .int .i64 0], .int .i64 260]) ∧ w.grownBy w' none := by
  have ga := World.grownBy_alloc w (.cells #[.slice none 0 0, .int .i64 0] 24) none
  have hR := h.grown0 ga
  have hc8 := hR.c8.1
  have CL := Lib.hid (last_any _ base g last f hR)
  have CF := Lib.hid (first_any _ base g last f hR h1 hb)
  have hne : ((last : Int) == 0) = false := by simp; omega
  generalize firstOf last = fi at *
  clear h hR
  rcases hv with hv | ⟨hv, hv2⟩
  all_goals
    go_enter Try.func10, Try.ntmps10
    go_wp2_with fail
    refine CL.out.mono ?_; rintro e w1 ⟨rfl, rfl⟩
    go_wp2_with fail
    refine CF.out.mono ?_; rintro e w1 ⟨rfl, rfl⟩
    go_wp2
    exact bodyPost_ret (v := .tuple #[.agg #[.slice none 0 0, .int .i64 0], .int .i64 260]) (by simp [results, Try.results10, go_sem]) rfl ⟨rfl, ga⟩
end Go.Proofs.Ytkailfigoogfeaa
