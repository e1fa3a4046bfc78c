/- The walk of WidthShifted. -/
import Derived.Test.YtjaeoaebkkmaaaaAw
import Derived.Test.YtjaeoaebkkmaaaaSf
import Derived.BigGuardPart
import Derived.BigRegion
namespace Go.Proofs.Ytjaeoaebkkmaaaa
open Go Go.RowKit
theorem undrew {W w : World} {r : Option Nat} (h : W.drew.grownBy w r) : W.grownBy w r := ⟨h.os, h.tape, h.output, h.size, h.block⟩
def In30 (n : Int) : Prop := 0 ≤ n ∧ n ≤ 1073741824
set_option maxHeartbeats 1000000 in
set_option maxRecDepth 100000 in
theorem shifted_main (is al ar : Bool) (of wd least most left right edges more x y z p q r : Int) (w : World)
    (C1 : Hid (∀ W : World, Calls Try.prog 10 #[.int .i64 of, .agg #[.bool is, .int .i64 wd, .int .i64 least, .int .i64 most, .int .i64 left, .int .i64 right, .bool al, .bool ar, .int .i64 edges]] W fun e w' => e = .returned (.tuple #[.int .i64 x, .int .i64 y, .int .i64 z, .int .i64 0]) ∧ W.grownBy w' none))
    (C2 : Hid (∀ W : World, Calls Try.prog 10 #[.int .i64 (of + more), .agg #[.bool is, .int .i64 wd, .int .i64 least, .int .i64 most, .int .i64 left, .int .i64 right, .bool al, .bool ar, .int .i64 (edges + more)]] W fun e w' => e = .returned (.tuple #[.int .i64 x, .int .i64 y, .int .i64 z, .int .i64 0]) ∧ W.grownBy w' none))
    (C3 : Hid (∀ W : World, Calls Try.prog 10 #[.int .i64 of, .agg #[.bool true, .int .i64 wd, .int .i64 least, .int .i64 most, .int .i64 left, .int .i64 right, .bool false, .bool false, .int .i64 edges]] W fun e w' => e = .returned (.tuple #[.int .i64 p, .int .i64 q, .int .i64 r, .int .i64 0]) ∧ W.grownBy w' none))
    (C4 : Hid (∀ W : World, Calls Try.prog 10 #[.int .i64 (of + more), .agg #[.bool true, .int .i64 wd, .int .i64 least, .int .i64 most, .int .i64 left, .int .i64 right, .bool false, .bool false, .int .i64 edges]] W fun e w' => e = .returned (.tuple #[.int .i64 p, .int .i64 q, .int .i64 (r + more), .int .i64 0]) ∧ W.grownBy w' none))
    (_h1 : 0 ≤ of) (_h2 : of ≤ 1073741824) (_h3 : 0 ≤ edges) (_h4 : edges ≤ 1073741824) (_h5 : 0 ≤ more) (_h6 : more ≤ 1073741824) (_k1 : -1073741824 ≤ left) (_k2 : left ≤ 1073741824) (_k3 : -1073741824 ≤ right) (_k4 : right ≤ 1073741824)
    (_b1 : -1099511627776 ≤ r) (_b2 : r ≤ 1099511627776)
    (hall : ∀ n ∈ [of, wd, least, most, edges, more], In30 n) :
    Calls Try.prog 7 #[.int .i64 of, .agg #[.bool is, .int .i64 wd, .int .i64 least, .int .i64 most, .int .i64 left, .int .i64 right, .bool al, .bool ar, .int .i64 edges], .int .i64 more] w fun e w' => e = .returned (.bool true) ∧ Below w.heap.size w w' := by
  have hall' := Lib.hid hall
  clear hall
  go_enter Try.func7, Try.ntmps7
  go_wp2_with fail
  refine (awake_any _).mono ?_; rintro e w1 ⟨rfl, hg1⟩
  have hz1 : w.heap.size < w1.heap.size := by have := hg1.size; simp at this; omega
  obtain ⟨hc1, hf1⟩ := old_cells hg1
  simp only [World.size_alloc] at hc1 hf1
  go_wp2_with fail
  go_loop [8] (fun i => ∃ k : Nat, k ≤ 6 ∧ i = .int .i64 k) (fun i => 6 - (intOf i).toNat)
  case atStart => exact ⟨0, by omega, rfl⟩
  case round =>
    obtain ⟨k, hk, rfl⟩ := hrel
    by_cases hlt : k < 6
    · have hr : ∃ n, [of, wd, least, most, edges, more][k]? = some n ∧ In30 n := ⟨_, List.getElem?_eq_getElem (by simpa using hlt), hall'.out _ (List.getElem_mem _)⟩
      obtain ⟨n, hn, hn1, hn2⟩ := hr
      have hcell : (w1.alloc (.cells #[.int .i64 of, .int .i64 wd, .int .i64 least, .int .i64 most, .int .i64 edges, .int .i64 more] 3)).cell? ⟨w1.heap.size, k, none⟩ = some (.int .i64 n) := by
        rw [cell_of_row _ _ _ _ _ _ (heap_alloc_new w1 _)]
        have : (#[of, wd, least, most, edges, more].map (Value.int .i64))[k]? = some (.int .i64 n) := by
          simp only [Array.getElem?_map, ← List.getElem?_toArray] at hn ⊢
          rw [hn]; rfl
        simpa using this
      have hn' := Lib.hid hn
      clear hn
      go_wp2
      go_round
      case rel => exact ⟨k + 1, by omega, by go_num⟩
      case measure => simp [intOf]; omega
    · obtain rfl : k = 6 := by omega
      go_wp2_with fail
      have hC : ∀ j v, (#[Value.bool is, .int .i64 wd, .int .i64 least, .int .i64 most, .int .i64 left, .int .i64 right, .bool al, .bool ar, .int .i64 edges] : Array Value)[j]? = some v → (w1.alloc (.cells #[.int .i64 of, .int .i64 wd, .int .i64 least, .int .i64 most, .int .i64 edges, .int .i64 more] 3)).cell? ⟨w.heap.size, j, none⟩ = some v := fun j v hv =>
        (World.grownBy_alloc w1 _ none).cell (hg1.cell ((cell_of_row _ w.heap.size j _ _ _ (heap_alloc_new w _)).trans hv) (by simp)) (by simp)
      have hgW : Below w.heap.size w (w1.alloc (.cells #[.int .i64 of, .int .i64 wd, .int .i64 least, .int .i64 most, .int .i64 edges, .int .i64 more] 3)) := (((Below.refl _ _).alloc (Nat.le_refl _) _).trans ((grown_below hg1).mono (by simp))).alloc (by omega) _
      have hz2 : w.heap.size < (w1.alloc (.cells #[.int .i64 of, .int .i64 wd, .int .i64 least, .int .i64 most, .int .i64 edges, .int .i64 more] 3)).heap.size := by simp; omega
      generalize (w1.alloc (.cells #[.int .i64 of, .int .i64 wd, .int .i64 least, .int .i64 most, .int .i64 edges, .int .i64 more] 3)) = W1 at *
      have c0 := hC 0 _ rfl
      have c1 := hC 1 _ rfl
      have c2 := hC 2 _ rfl
      have c3 := hC 3 _ rfl
      have c4 := hC 4 _ rfl
      have c5 := hC 5 _ rfl
      have c6 := hC 6 _ rfl
      have c7 := hC 7 _ rfl
      have c8 := hC 8 _ rfl
      clear hC hc1 hf1 hz1 hg1
      go_region
      · go_wp2_with fail
        refine (C1.out _).mono ?_; rintro e w3 ⟨rfl, hg3⟩
        clear c0 c1 c2 c3 c4 c5 c6 c7 c8
        have hB3 := ((((hgW.alloc (by omega) _).alloc (by simp; omega) _).drew).trans ((grown_below hg3).mono (by show _ ≤ (World.alloc _ _).heap.size; simp; omega)))
        have hz3 : W1.heap.size + 1 < w3.heap.size := by have := hg3.size; simp at this; omega
        have hy3 : W1.heap.size < w3.heap.size := by omega
        obtain ⟨hc3, hf3⟩ := old_cells (undrew hg3)
        simp only [World.size_alloc] at hc3 hf3
        go_wp2_with fail
        refine (C2.out _).mono ?_; rintro e w4 ⟨rfl, hg4⟩
        have hB4 := hB3.trans ((grown_below hg4).mono (by omega))
        have hz4 : W1.heap.size + 1 < w4.heap.size := by have := hg4.size; omega
        have hy4 : W1.heap.size < w4.heap.size := by omega
        obtain ⟨hc4, hf4⟩ := old_cells hg4
        go_wp2_with fail
        refine (C3.out _).mono ?_; rintro e w5 ⟨rfl, hg5⟩
        have hz5 : W1.heap.size + 1 < w5.heap.size := by have := hg5.size; simp at this; omega
        have hy5 : W1.heap.size < w5.heap.size := by omega
        have hB5 := (((hB4.setCell (p := ⟨W1.heap.size + 1, 0, none⟩) (show w.heap.size ≤ W1.heap.size + 1 by omega) (.bool true)).setCell (p := ⟨W1.heap.size + 1, 6, none⟩) (show w.heap.size ≤ W1.heap.size + 1 by omega) (.bool false)).setCell (p := ⟨W1.heap.size + 1, 7, none⟩) (show w.heap.size ≤ W1.heap.size + 1 by omega) (.bool false)).trans ((grown_below hg5).mono (by simp; omega))
        obtain ⟨hc5, hf5⟩ := old_cells hg5
        simp only [World.size_setCell] at hc5 hf5
        go_wp2_with fail
        refine (C4.out _).mono ?_; rintro e w6 ⟨rfl, hg6⟩
        have hB6 := hB5.trans ((grown_below hg6).mono (by omega))
        go_wp2
        go_ret
        exact ⟨rfl, hB6⟩
      · go_wp2_with fail
        refine (C1.out _).mono ?_; rintro e w3 ⟨rfl, hg3⟩
        clear c0 c1 c2 c3 c4 c5 c6 c7 c8
        have hB3 := ((((hgW.alloc (by omega) _).alloc (by simp; omega) _).drew).trans ((grown_below hg3).mono (by show _ ≤ (World.alloc _ _).heap.size; simp; omega)))
        have hz3 : W1.heap.size + 1 < w3.heap.size := by have := hg3.size; simp at this; omega
        have hy3 : W1.heap.size < w3.heap.size := by omega
        obtain ⟨hc3, hf3⟩ := old_cells (undrew hg3)
        simp only [World.size_alloc] at hc3 hf3
        go_wp2_with fail
        refine (C2.out _).mono ?_; rintro e w4 ⟨rfl, hg4⟩
        have hB4 := hB3.trans ((grown_below hg4).mono (by omega))
        have hz4 : W1.heap.size + 1 < w4.heap.size := by have := hg4.size; omega
        have hy4 : W1.heap.size < w4.heap.size := by omega
        obtain ⟨hc4, hf4⟩ := old_cells hg4
        have hD : ∀ j v, (#[Value.bool is, .int .i64 wd, .int .i64 least, .int .i64 most, .int .i64 left, .int .i64 right, .bool al, .bool ar, .int .i64 edges] : Array Value)[j]? = some v → w4.cell? ⟨W1.heap.size, j, none⟩ = some v := fun j v hv =>
          hg4.cell ((undrew hg3).cell ((World.grownBy_alloc _ _ none).cell ((cell_of_row _ W1.heap.size j _ _ _ (heap_alloc_new W1 _)).trans hv) (by simp)) (by simp)) (by simp)
        have d0 := hD 0 _ rfl
        have d1 := hD 1 _ rfl
        have d2 := hD 2 _ rfl
        have d3 := hD 3 _ rfl
        have d4 := hD 4 _ rfl
        have d5 := hD 5 _ rfl
        have d6 := hD 6 _ rfl
        have d7 := hD 7 _ rfl
        have d8 := hD 8 _ rfl
        clear hD hc4
        go_wp2_with fail
        refine (C3.out _).mono ?_; rintro e w5 ⟨rfl, hg5⟩
        have hz5 : W1.heap.size + 1 < w5.heap.size := by have := hg5.size; simp at this; omega
        have hy5 : W1.heap.size < w5.heap.size := by omega
        have hB5 := (((hB4.setCell (p := ⟨W1.heap.size, 0, none⟩) (show w.heap.size ≤ W1.heap.size by omega) (.bool true)).setCell (p := ⟨W1.heap.size, 6, none⟩) (show w.heap.size ≤ W1.heap.size by omega) (.bool false)).setCell (p := ⟨W1.heap.size, 7, none⟩) (show w.heap.size ≤ W1.heap.size by omega) (.bool false)).trans ((grown_below hg5).mono (by simp; omega))
        obtain ⟨hc5, hf5⟩ := old_cells hg5
        simp only [World.size_setCell] at hc5 hf5
        go_wp2_with fail
        refine (C4.out _).mono ?_; rintro e w6 ⟨rfl, hg6⟩
        have hB6 := hB5.trans ((grown_below hg6).mono (by omega))
        go_wp2
        go_ret
        exact ⟨rfl, hB6⟩

/-- Some number is out of bounds: the loop says so. -/
theorem shifted_far (is al ar : Bool) (of wd least most left right edges more : Int) (w : World) (hno : ¬ ∀ n ∈ [of, wd, least, most, edges, more], In30 n) :
    Calls Try.prog 7 #[.int .i64 of, .agg #[.bool is, .int .i64 wd, .int .i64 least, .int .i64 most, .int .i64 left, .int .i64 right, .bool al, .bool ar, .int .i64 edges], .int .i64 more] w fun e w' => e = .returned (.bool true) ∧ Below w.heap.size w w' := by
  have hno' := Lib.hid hno
  clear hno
  go_enter Try.func7, Try.ntmps7
  go_wp2_with fail
  refine (awake_any _).mono ?_; rintro e w1 ⟨rfl, hg1⟩
  have hz1 : w.heap.size < w1.heap.size := by have := hg1.size; simp at this; omega
  obtain ⟨hc1, hf1⟩ := old_cells hg1
  simp only [World.size_alloc] at hc1 hf1
  go_wp2_with fail
  go_loop [8] (fun i => ∃ k : Nat, k ≤ 6 ∧ i = .int .i64 k ∧ ∀ j, j < k → ∀ n, [of, wd, least, most, edges, more][j]? = some n → In30 n) (fun i => 6 - (intOf i).toNat)
  case atStart => exact ⟨0, by omega, rfl, fun j hj => absurd hj (by omega)⟩
  case round =>
    obtain ⟨k, hk, rfl, hpre⟩ := hrel
    have hpre' := Lib.hid hpre
    clear hpre
    by_cases hlt : k < 6
    · obtain ⟨n, hn⟩ : ∃ n, [of, wd, least, most, edges, more][k]? = some n := ⟨_, List.getElem?_eq_getElem (by simpa using hlt)⟩
      have hcell : (w1.alloc (.cells #[.int .i64 of, .int .i64 wd, .int .i64 least, .int .i64 most, .int .i64 edges, .int .i64 more] 3)).cell? ⟨w1.heap.size, k, none⟩ = some (.int .i64 n) := by
        rw [cell_of_row _ _ _ _ _ _ (heap_alloc_new w1 _)]
        have : (#[of, wd, least, most, edges, more].map (Value.int .i64))[k]? = some (.int .i64 n) := by
          simp only [Array.getElem?_map, ← List.getElem?_toArray] at hn ⊢
          rw [hn]; rfl
        simpa using this
      have hn' := Lib.hid hn
      clear hn
      have hgW : Below w.heap.size w (w1.alloc (.cells #[.int .i64 of, .int .i64 wd, .int .i64 least, .int .i64 most, .int .i64 edges, .int .i64 more] 3)) := (((Below.refl _ _).alloc (Nat.le_refl _) _).trans ((grown_below hg1).mono (by simp))).alloc (by omega) _
      by_cases h1 : n < 0
      · go_wp2
        go_ret
        exact ⟨rfl, hgW⟩
      · by_cases h2 : 1073741824 < n
        · go_wp2
          go_ret
          exact ⟨rfl, hgW⟩
        · go_wp2
          go_round
          case rel =>
            refine ⟨k + 1, by omega, by go_num, fun j hj m hm => ?_⟩
            rcases Nat.lt_or_ge j k with h | h
            · exact hpre'.out j h m hm
            · obtain rfl : j = k := by omega
              rw [hn'.out] at hm
              cases hm
              unfold In30
              omega
          case measure => simp [intOf]; omega
    · exfalso
      obtain rfl : k = 6 := by omega
      refine hno'.out fun n hn => ?_
      obtain ⟨j, hj, rfl⟩ := List.getElem_of_mem hn
      exact hpre'.out j (by simpa using hj) _ (List.getElem?_eq_getElem hj)

/-- All are in bounds but a margin. -/
theorem shifted_side (is al ar : Bool) (of wd least most left right edges more : Int) (w : World) (hall : ∀ n ∈ [of, wd, least, most, edges, more], In30 n)
    (hs : left < -1073741824 ∨ (-1073741824 ≤ left ∧ 1073741824 < left) ∨ (-1073741824 ≤ left ∧ left ≤ 1073741824 ∧ right < -1073741824) ∨ (-1073741824 ≤ left ∧ left ≤ 1073741824 ∧ -1073741824 ≤ right ∧ 1073741824 < right)) :
    Calls Try.prog 7 #[.int .i64 of, .agg #[.bool is, .int .i64 wd, .int .i64 least, .int .i64 most, .int .i64 left, .int .i64 right, .bool al, .bool ar, .int .i64 edges], .int .i64 more] w fun e w' => e = .returned (.bool true) ∧ Below w.heap.size w w' := by
  have hall' := Lib.hid hall
  have hs' := Lib.hid hs
  clear hall hs
  go_enter Try.func7, Try.ntmps7
  go_wp2_with fail
  refine (awake_any _).mono ?_; rintro e w1 ⟨rfl, hg1⟩
  have hz1 : w.heap.size < w1.heap.size := by have := hg1.size; simp at this; omega
  obtain ⟨hc1, hf1⟩ := old_cells hg1
  simp only [World.size_alloc] at hc1 hf1
  go_wp2_with fail
  go_loop [8] (fun i => ∃ k : Nat, k ≤ 6 ∧ i = .int .i64 k) (fun i => 6 - (intOf i).toNat)
  case atStart => exact ⟨0, by omega, rfl⟩
  case round =>
    obtain ⟨k, hk, rfl⟩ := hrel
    by_cases hlt : k < 6
    · have hr : ∃ n, [of, wd, least, most, edges, more][k]? = some n ∧ In30 n := ⟨_, List.getElem?_eq_getElem (by simpa using hlt), hall'.out _ (List.getElem_mem _)⟩
      obtain ⟨n, hn, hn1, hn2⟩ := hr
      have hcell : (w1.alloc (.cells #[.int .i64 of, .int .i64 wd, .int .i64 least, .int .i64 most, .int .i64 edges, .int .i64 more] 3)).cell? ⟨w1.heap.size, k, none⟩ = some (.int .i64 n) := by
        rw [cell_of_row _ _ _ _ _ _ (heap_alloc_new w1 _)]
        have : (#[of, wd, least, most, edges, more].map (Value.int .i64))[k]? = some (.int .i64 n) := by
          simp only [Array.getElem?_map, ← List.getElem?_toArray] at hn ⊢
          rw [hn]; rfl
        simpa using this
      have hn' := Lib.hid hn
      clear hn
      go_wp2
      go_round
      case rel => exact ⟨k + 1, by omega, by go_num⟩
      case measure => simp [intOf]; omega
    · obtain rfl : k = 6 := by omega
      have hgW : Below w.heap.size w (w1.alloc (.cells #[.int .i64 of, .int .i64 wd, .int .i64 least, .int .i64 most, .int .i64 edges, .int .i64 more] 3)) := (((Below.refl _ _).alloc (Nat.le_refl _) _).trans ((grown_below hg1).mono (by simp))).alloc (by omega) _
      rcases hs'.out with h | ⟨h1, h⟩ | ⟨h1, h2, h⟩ | ⟨h1, h2, h3, h⟩
      all_goals
        go_wp2
        all_goals (go_ret; exact ⟨rfl, hgW⟩)

theorem WidthShifted_walk (w : World) (of : Int) (wo : (Lit.int .i64 of).wf = true) (cs : List Value) (ok : OkAll [.bool, .int .i64, .int .i64, .int .i64, .int .i64, .int .i64, .bool, .bool, .int .i64] cs) (more : Int) (wm : (Lit.int .i64 more).wf = true) :
    Calls Try.prog 7 #[.int .i64 of, .agg ⟨cs⟩, .int .i64 more] w fun e w' => e = .returned (.bool true) ∧ Below w.heap.size w w' := by
  obtain ⟨is, wd, least, most, left, right, al, ar, edges, ha, rfl⟩ := ask_open ok
  have ho := wf_i64 wo
  by_cases hall : ∀ n ∈ [of, wd, least, most, edges, more], In30 n
  · by_cases hs : -1073741824 ≤ left ∧ left ≤ 1073741824 ∧ -1073741824 ≤ right ∧ right ≤ 1073741824
    · have i1 := hall of (by simp)
      have i2 := hall wd (by simp)
      have i3 := hall least (by simp)
      have i4 := hall most (by simp)
      have i5 := hall edges (by simp)
      have i6 := hall more (by simp)
      unfold In30 at i1 i2 i3 i4 i5 i6
      have key : ∀ (o : Int) (a : Ask), 0 ≤ o → o ≤ 2147483648 → (0 ≤ a.least ∧ a.least ≤ 1073741824) → (0 ≤ a.most ∧ a.most ≤ 1073741824) → (-1073741824 ≤ a.left ∧ a.left ≤ 1073741824) → (-1073741824 ≤ a.right ∧ a.right ≤ 1073741824) → (0 ≤ a.edges ∧ a.edges ≤ 2147483648) → (0 ≤ a.wd ∧ a.wd ≤ 1073741824) →
          solveV o a = ⟨lef2 o a, widt o a, rig2 o a, 0⟩ ∧ (-1099511627776 ≤ rig2 o a ∧ rig2 o a ≤ 1099511627776) := by
        intro o a h1 h1' h2 h3 h4 h5 h6 h7
        have e1 : -1073741824 ≤ lef a ∧ lef a ≤ 1073741824 := by unfold lef; split <;> omega
        have e2 : -1073741824 ≤ rig a ∧ rig a ≤ 1073741824 := by unfold rig; split <;> omega
        have e3 : 0 ≤ widt o a ∧ widt o a ≤ 1073741824 := by unfold widt; omega
        have e4 : free o a = o - lef a - a.edges - widt o a - rig a := rfl
        have e5 : -1099511627776 ≤ lef2 o a ∧ lef2 o a ≤ 1099511627776 := by unfold lef2; rw [e4]; (repeat' split) <;> omega
        have e6 : -1099511627776 ≤ rig2 o a ∧ rig2 o a ≤ 1099511627776 := by unfold rig2; rw [e4]; (repeat' split) <;> omega
        exact ⟨sol_mk (asked_mk (by omega) (by omega) (by omega) (by unfold B40; omega) (by unfold B40; omega) (by omega) (fun _ => by omega)) e5 (by unfold B40; omega) e6, e6⟩
      have k1 := key of (Ask.mk is wd least most left right al ar edges) (by omega) (by omega) i3 i4 ⟨hs.1, hs.2.1⟩ ⟨hs.2.2.1, hs.2.2.2⟩ (by simp only; omega) i2
      have k2 := key (of + more) (Ask.mk is wd least most left right al ar (edges + more)) (by omega) (by omega) i3 i4 ⟨hs.1, hs.2.1⟩ ⟨hs.2.2.1, hs.2.2.2⟩ (by simp only; omega) i2
      have k3 := key of (Ask.mk true wd least most left right false false edges) (by omega) (by omega) i3 i4 ⟨hs.1, hs.2.1⟩ ⟨hs.2.2.1, hs.2.2.2⟩ (by simp only; omega) i2
      have k4 := key (of + more) (Ask.mk true wd least most left right false false edges) (by omega) (by omega) i3 i4 ⟨hs.1, hs.2.1⟩ ⟨hs.2.2.1, hs.2.2.2⟩ (by simp only; omega) i2
      have hle : lef (Ask.mk is wd least most left right al ar (edges + more)) = lef (Ask.mk is wd least most left right al ar edges) := rfl
      have hri : rig (Ask.mk is wd least most left right al ar (edges + more)) = rig (Ask.mk is wd least most left right al ar edges) := rfl
      have hwi : widt (of + more) (Ask.mk is wd least most left right al ar (edges + more)) = widt of (Ask.mk is wd least most left right al ar edges) := by
        simp only [widt, asks, hle, hri]
        generalize lef _ = L
        generalize rig _ = R
        split <;> omega
      have hfr : free (of + more) (Ask.mk is wd least most left right al ar (edges + more)) = free of (Ask.mk is wd least most left right al ar edges) := by
        simp only [free, hle, hri, hwi]
        omega
      have hl2 : lef2 (of + more) (Ask.mk is wd least most left right al ar (edges + more)) = lef2 of (Ask.mk is wd least most left right al ar edges) := by simp only [lef2, hfr, hle]
      have hr2 : rig2 (of + more) (Ask.mk is wd least most left right al ar (edges + more)) = rig2 of (Ask.mk is wd least most left right al ar edges) := by simp only [rig2, hfr, hri]
      have hw3 : widt (of + more) (Ask.mk true wd least most left right false false edges) = widt of (Ask.mk true wd least most left right false false edges) := rfl
      have hl3 : lef2 (of + more) (Ask.mk true wd least most left right false false edges) = lef2 of (Ask.mk true wd least most left right false false edges) := by simp [lef2, lef]
      have hr3 : rig2 (of + more) (Ask.mk true wd least most left right false false edges) = rig2 of (Ask.mk true wd least most left right false false edges) + more := by
        simp only [rig2, Bool.false_eq_true, and_false, if_false, or_true, if_true, free, hw3, rig, lef]
        omega
      have C1 := Lib.hid (fun W => solve_any of (Ask.mk is wd least most left right al ar edges) W ho ha)
      have C2 := Lib.hid (fun W => solve_any (of + more) (Ask.mk is wd least most left right al ar (edges + more)) W (by unfold I64; omega) ⟨ha.1, ha.2.1, ha.2.2.1, ha.2.2.2.1, ha.2.2.2.2.1, by unfold I64; simp only; omega⟩)
      have C3 := Lib.hid (fun W => solve_any of (Ask.mk true wd least most left right false false edges) W ho ha)
      have C4 := Lib.hid (fun W => solve_any (of + more) (Ask.mk true wd least most left right false false edges) W (by unfold I64; omega) ha)
      rw [k1.1] at C1
      rw [k2.1, hl2, hwi, hr2] at C2
      rw [k3.1] at C3
      rw [k4.1, hl3, hw3, hr3] at C4
      exact shifted_main is al ar of wd least most left right edges more _ _ _ _ _ _ w C1 C2 C3 C4 i1.1 i1.2 i5.1 i5.2 i6.1 i6.2 hs.1 hs.2.1 hs.2.2.1 hs.2.2.2 k3.2.1 k3.2.2 hall
    · exact shifted_side is al ar of wd least most left right edges more w hall (by omega)
  · exact shifted_far is al ar of wd least most left right edges more w hall
end Go.Proofs.Ytjaeoaebkkmaaaa
