/- The walks of WidthMiddle (printed by gen_wm.py). -/
import Derived.Test.YtjaeoaebkkmaaaaAw
import Derived.Test.YtjaeoaebkkmaaaaSf
import Derived.BigGuardPart
namespace Go.Proofs.Ytjaeoaebkkmaaaa
open Go Go.RowKit
set_option maxHeartbeats 400000 in
theorem middle_bad (is al ar : Bool) (of wd least most left right edges e : Int) (w : World) (he : e = 2 ∨ e = 10) (C1 : Hid (∀ W : World, Calls Try.prog 10 #[.int .i64 of, .agg #[.bool is, .int .i64 wd, .int .i64 least, .int .i64 most, .int .i64 left, .int .i64 right, .bool true, .bool true, .int .i64 edges]] W fun e' w' => e' = .returned (.tuple #[.int .i64 0, .int .i64 0, .int .i64 0, .int .i64 e]) ∧ W.grownBy w' none))
    : Calls Try.prog 6 #[.int .i64 of, .agg #[.bool is, .int .i64 wd, .int .i64 least, .int .i64 most, .int .i64 left, .int .i64 right, .bool al, .bool ar, .int .i64 edges]] w fun e w' => e = .returned (.bool true) ∧ Below w.heap.size w w' := by
  rcases he with rfl | rfl
  all_goals
    go_enter Try.func6, Try.ntmps6
    go_wp2_with fail
    refine (awake_any _).mono ?_; rintro e w1 ⟨rfl, hg1⟩
    have hz1 : w.heap.size < w1.heap.size := by have := hg1.size; simp at this; omega
    obtain ⟨hc1, hf1⟩ := old_cells hg1
    simp only [World.size_alloc] at hc1 hf1
    go_wp2_with fail
    refine (C1.out _).mono ?_; rintro e w2 ⟨rfl, hg2⟩
    have hb2 : Below w.heap.size w w2 := (((((Below.refl _ _).alloc (Nat.le_refl _) _).trans ((grown_below hg1).mono (by simp))).setCell (Nat.le_refl _) _).setCell (Nat.le_refl _) _).trans ((grown_below hg2).mono (by simp; omega))
    go_wp2
    go_ret
    exact ⟨rfl, hb2⟩
set_option maxHeartbeats 400000 in
theorem middle_a1i (is al ar : Bool) (of wd least most left right edges x y z : Int) (w : World) (C1 : Hid (∀ W : World, Calls Try.prog 10 #[.int .i64 of, .agg #[.bool is, .int .i64 wd, .int .i64 least, .int .i64 most, .int .i64 left, .int .i64 right, .bool true, .bool true, .int .i64 edges]] W fun e' w' => e' = .returned (.tuple #[.int .i64 x, .int .i64 y, .int .i64 z, .int .i64 0]) ∧ W.grownBy w' none))
    (C2 : Hid (∀ W : World, Calls Try.prog 10 #[.int .i64 of, .agg #[.bool false, .int .i64 wd, .int .i64 0, .int .i64 1099511627776, .int .i64 left, .int .i64 right, .bool true, .bool true, .int .i64 edges]] W fun e' w' => e' = .returned (.tuple #[.int .i64 0, .int .i64 (of - edges), .int .i64 0, .int .i64 0]) ∧ W.grownBy w' none))
    (_h0 : B40 of)
    (_h1 : 0 ≤ edges ∧ edges ≤ 1099511627776)
    (_h2 : B40 x)
    (_h3 : B40 y)
    (_h4 : B40 z)
    (_h5 : 0 ≤ of - edges - y)
    (_h6 : y ≤ of - edges)
    (_h7 : decide (0 ≤ of - edges - y) = true)
    (_h8 : (z != x) = false)
    (_h9 : edges ≤ of)
    : Calls Try.prog 6 #[.int .i64 of, .agg #[.bool is, .int .i64 wd, .int .i64 least, .int .i64 most, .int .i64 left, .int .i64 right, .bool al, .bool ar, .int .i64 edges]] w fun e w' => e = .returned (.bool true) ∧ Below w.heap.size w w' := by
  unfold B40 at *
  go_enter Try.func6, Try.ntmps6
  go_wp2_with fail
  refine (awake_any _).mono ?_; rintro e w1 ⟨rfl, hg1⟩
  have hz1 : w.heap.size < w1.heap.size := by have := hg1.size; simp at this; omega
  obtain ⟨hc1, hf1⟩ := old_cells hg1
  simp only [World.size_alloc] at hc1 hf1
  go_wp2_with fail
  refine (C1.out _).mono ?_; rintro e w2 ⟨rfl, hg2⟩
  have hb2 : Below w.heap.size w w2 := (((((Below.refl _ _).alloc (Nat.le_refl _) _).trans ((grown_below hg1).mono (by simp))).setCell (Nat.le_refl _) _).setCell (Nat.le_refl _) _).trans ((grown_below hg2).mono (by simp; omega))
  have hz2 : w.heap.size < w2.heap.size := by have := hg2.size; simp at this; omega
  obtain ⟨hc2, hf2⟩ := old_cells hg2
  simp only [World.size_setCell] at hc2 hf2
  go_wp2_with fail
  refine (C2.out _).mono ?_; rintro e w3 ⟨rfl, hg3⟩
  have hb3 := ((((hb2.setCell (p := ⟨w.heap.size, 0, none⟩) (Nat.le_refl _) (.bool false)).setCell (p := ⟨w.heap.size, 2, none⟩) (Nat.le_refl _) (.int .i64 0)).setCell (p := ⟨w.heap.size, 3, none⟩) (Nat.le_refl _) (.int .i64 1099511627776)).trans ((grown_below hg3).mono (by simp; omega)))
  obtain ⟨hc3, hf3⟩ := old_cells hg3
  simp only [World.size_setCell] at hc3 hf3
  go_wp2
  go_ret
  exact ⟨rfl, hb3⟩
set_option maxHeartbeats 400000 in
theorem middle_a1j (is al ar : Bool) (of wd least most left right edges x y z : Int) (w : World) (C1 : Hid (∀ W : World, Calls Try.prog 10 #[.int .i64 of, .agg #[.bool is, .int .i64 wd, .int .i64 least, .int .i64 most, .int .i64 left, .int .i64 right, .bool true, .bool true, .int .i64 edges]] W fun e' w' => e' = .returned (.tuple #[.int .i64 x, .int .i64 y, .int .i64 z, .int .i64 0]) ∧ W.grownBy w' none))
    (C2 : Hid (∀ W : World, Calls Try.prog 10 #[.int .i64 of, .agg #[.bool false, .int .i64 wd, .int .i64 0, .int .i64 1099511627776, .int .i64 left, .int .i64 right, .bool true, .bool true, .int .i64 edges]] W fun e' w' => e' = .returned (.tuple #[.int .i64 0, .int .i64 0, .int .i64 (of - edges), .int .i64 0]) ∧ W.grownBy w' none))
    (_h0 : B40 of)
    (_h1 : 0 ≤ edges ∧ edges ≤ 1099511627776)
    (_h2 : B40 x)
    (_h3 : B40 y)
    (_h4 : B40 z)
    (_h5 : 0 ≤ of - edges - y)
    (_h6 : y ≤ of - edges)
    (_h7 : decide (0 ≤ of - edges - y) = true)
    (_h8 : (z != x) = false)
    (_h9 : of < edges)
    (_h10 : (of - edges == 0) = false)
    (_h11 : decide (of - edges < 0) = true)
    : Calls Try.prog 6 #[.int .i64 of, .agg #[.bool is, .int .i64 wd, .int .i64 least, .int .i64 most, .int .i64 left, .int .i64 right, .bool al, .bool ar, .int .i64 edges]] w fun e w' => e = .returned (.bool true) ∧ Below w.heap.size w w' := by
  unfold B40 at *
  go_enter Try.func6, Try.ntmps6
  go_wp2_with fail
  refine (awake_any _).mono ?_; rintro e w1 ⟨rfl, hg1⟩
  have hz1 : w.heap.size < w1.heap.size := by have := hg1.size; simp at this; omega
  obtain ⟨hc1, hf1⟩ := old_cells hg1
  simp only [World.size_alloc] at hc1 hf1
  go_wp2_with fail
  refine (C1.out _).mono ?_; rintro e w2 ⟨rfl, hg2⟩
  have hb2 : Below w.heap.size w w2 := (((((Below.refl _ _).alloc (Nat.le_refl _) _).trans ((grown_below hg1).mono (by simp))).setCell (Nat.le_refl _) _).setCell (Nat.le_refl _) _).trans ((grown_below hg2).mono (by simp; omega))
  have hz2 : w.heap.size < w2.heap.size := by have := hg2.size; simp at this; omega
  obtain ⟨hc2, hf2⟩ := old_cells hg2
  simp only [World.size_setCell] at hc2 hf2
  go_wp2_with fail
  refine (C2.out _).mono ?_; rintro e w3 ⟨rfl, hg3⟩
  have hb3 := ((((hb2.setCell (p := ⟨w.heap.size, 0, none⟩) (Nat.le_refl _) (.bool false)).setCell (p := ⟨w.heap.size, 2, none⟩) (Nat.le_refl _) (.int .i64 0)).setCell (p := ⟨w.heap.size, 3, none⟩) (Nat.le_refl _) (.int .i64 1099511627776)).trans ((grown_below hg3).mono (by simp; omega)))
  obtain ⟨hc3, hf3⟩ := old_cells hg3
  simp only [World.size_setCell] at hc3 hf3
  go_wp2
  go_ret
  exact ⟨rfl, hb3⟩
set_option maxHeartbeats 400000 in
theorem middle_a2i (is al ar : Bool) (of wd least most left right edges x y z : Int) (w : World) (C1 : Hid (∀ W : World, Calls Try.prog 10 #[.int .i64 of, .agg #[.bool is, .int .i64 wd, .int .i64 least, .int .i64 most, .int .i64 left, .int .i64 right, .bool true, .bool true, .int .i64 edges]] W fun e' w' => e' = .returned (.tuple #[.int .i64 x, .int .i64 y, .int .i64 z, .int .i64 0]) ∧ W.grownBy w' none))
    (C2 : Hid (∀ W : World, Calls Try.prog 10 #[.int .i64 of, .agg #[.bool false, .int .i64 wd, .int .i64 0, .int .i64 1099511627776, .int .i64 left, .int .i64 right, .bool true, .bool true, .int .i64 edges]] W fun e' w' => e' = .returned (.tuple #[.int .i64 0, .int .i64 (of - edges), .int .i64 0, .int .i64 0]) ∧ W.grownBy w' none))
    (_h0 : B40 of)
    (_h1 : 0 ≤ edges ∧ edges ≤ 1099511627776)
    (_h2 : B40 x)
    (_h3 : B40 y)
    (_h4 : B40 z)
    (_h5 : 0 ≤ of - edges - y)
    (_h6 : y ≤ of - edges)
    (_h7 : decide (0 ≤ of - edges - y) = true)
    (_h8 : (z != x) = true)
    (_h9 : (z != x + 1) = false)
    (_h10 : edges ≤ of)
    : Calls Try.prog 6 #[.int .i64 of, .agg #[.bool is, .int .i64 wd, .int .i64 least, .int .i64 most, .int .i64 left, .int .i64 right, .bool al, .bool ar, .int .i64 edges]] w fun e w' => e = .returned (.bool true) ∧ Below w.heap.size w w' := by
  unfold B40 at *
  go_enter Try.func6, Try.ntmps6
  go_wp2_with fail
  refine (awake_any _).mono ?_; rintro e w1 ⟨rfl, hg1⟩
  have hz1 : w.heap.size < w1.heap.size := by have := hg1.size; simp at this; omega
  obtain ⟨hc1, hf1⟩ := old_cells hg1
  simp only [World.size_alloc] at hc1 hf1
  go_wp2_with fail
  refine (C1.out _).mono ?_; rintro e w2 ⟨rfl, hg2⟩
  have hb2 : Below w.heap.size w w2 := (((((Below.refl _ _).alloc (Nat.le_refl _) _).trans ((grown_below hg1).mono (by simp))).setCell (Nat.le_refl _) _).setCell (Nat.le_refl _) _).trans ((grown_below hg2).mono (by simp; omega))
  have hz2 : w.heap.size < w2.heap.size := by have := hg2.size; simp at this; omega
  obtain ⟨hc2, hf2⟩ := old_cells hg2
  simp only [World.size_setCell] at hc2 hf2
  go_wp2_with fail
  refine (C2.out _).mono ?_; rintro e w3 ⟨rfl, hg3⟩
  have hb3 := ((((hb2.setCell (p := ⟨w.heap.size, 0, none⟩) (Nat.le_refl _) (.bool false)).setCell (p := ⟨w.heap.size, 2, none⟩) (Nat.le_refl _) (.int .i64 0)).setCell (p := ⟨w.heap.size, 3, none⟩) (Nat.le_refl _) (.int .i64 1099511627776)).trans ((grown_below hg3).mono (by simp; omega)))
  obtain ⟨hc3, hf3⟩ := old_cells hg3
  simp only [World.size_setCell] at hc3 hf3
  go_wp2
  go_ret
  exact ⟨rfl, hb3⟩
set_option maxHeartbeats 400000 in
theorem middle_a2j (is al ar : Bool) (of wd least most left right edges x y z : Int) (w : World) (C1 : Hid (∀ W : World, Calls Try.prog 10 #[.int .i64 of, .agg #[.bool is, .int .i64 wd, .int .i64 least, .int .i64 most, .int .i64 left, .int .i64 right, .bool true, .bool true, .int .i64 edges]] W fun e' w' => e' = .returned (.tuple #[.int .i64 x, .int .i64 y, .int .i64 z, .int .i64 0]) ∧ W.grownBy w' none))
    (C2 : Hid (∀ W : World, Calls Try.prog 10 #[.int .i64 of, .agg #[.bool false, .int .i64 wd, .int .i64 0, .int .i64 1099511627776, .int .i64 left, .int .i64 right, .bool true, .bool true, .int .i64 edges]] W fun e' w' => e' = .returned (.tuple #[.int .i64 0, .int .i64 0, .int .i64 (of - edges), .int .i64 0]) ∧ W.grownBy w' none))
    (_h0 : B40 of)
    (_h1 : 0 ≤ edges ∧ edges ≤ 1099511627776)
    (_h2 : B40 x)
    (_h3 : B40 y)
    (_h4 : B40 z)
    (_h5 : 0 ≤ of - edges - y)
    (_h6 : y ≤ of - edges)
    (_h7 : decide (0 ≤ of - edges - y) = true)
    (_h8 : (z != x) = true)
    (_h9 : (z != x + 1) = false)
    (_h10 : of < edges)
    (_h11 : (of - edges == 0) = false)
    (_h12 : decide (of - edges < 0) = true)
    : Calls Try.prog 6 #[.int .i64 of, .agg #[.bool is, .int .i64 wd, .int .i64 least, .int .i64 most, .int .i64 left, .int .i64 right, .bool al, .bool ar, .int .i64 edges]] w fun e w' => e = .returned (.bool true) ∧ Below w.heap.size w w' := by
  unfold B40 at *
  go_enter Try.func6, Try.ntmps6
  go_wp2_with fail
  refine (awake_any _).mono ?_; rintro e w1 ⟨rfl, hg1⟩
  have hz1 : w.heap.size < w1.heap.size := by have := hg1.size; simp at this; omega
  obtain ⟨hc1, hf1⟩ := old_cells hg1
  simp only [World.size_alloc] at hc1 hf1
  go_wp2_with fail
  refine (C1.out _).mono ?_; rintro e w2 ⟨rfl, hg2⟩
  have hb2 : Below w.heap.size w w2 := (((((Below.refl _ _).alloc (Nat.le_refl _) _).trans ((grown_below hg1).mono (by simp))).setCell (Nat.le_refl _) _).setCell (Nat.le_refl _) _).trans ((grown_below hg2).mono (by simp; omega))
  have hz2 : w.heap.size < w2.heap.size := by have := hg2.size; simp at this; omega
  obtain ⟨hc2, hf2⟩ := old_cells hg2
  simp only [World.size_setCell] at hc2 hf2
  go_wp2_with fail
  refine (C2.out _).mono ?_; rintro e w3 ⟨rfl, hg3⟩
  have hb3 := ((((hb2.setCell (p := ⟨w.heap.size, 0, none⟩) (Nat.le_refl _) (.bool false)).setCell (p := ⟨w.heap.size, 2, none⟩) (Nat.le_refl _) (.int .i64 0)).setCell (p := ⟨w.heap.size, 3, none⟩) (Nat.le_refl _) (.int .i64 1099511627776)).trans ((grown_below hg3).mono (by simp; omega)))
  obtain ⟨hc3, hf3⟩ := old_cells hg3
  simp only [World.size_setCell] at hc3 hf3
  go_wp2
  go_ret
  exact ⟨rfl, hb3⟩
set_option maxHeartbeats 400000 in
theorem middle_bi (is al ar : Bool) (of wd least most left right edges x y z : Int) (w : World) (C1 : Hid (∀ W : World, Calls Try.prog 10 #[.int .i64 of, .agg #[.bool is, .int .i64 wd, .int .i64 least, .int .i64 most, .int .i64 left, .int .i64 right, .bool true, .bool true, .int .i64 edges]] W fun e' w' => e' = .returned (.tuple #[.int .i64 x, .int .i64 y, .int .i64 z, .int .i64 0]) ∧ W.grownBy w' none))
    (C2 : Hid (∀ W : World, Calls Try.prog 10 #[.int .i64 of, .agg #[.bool false, .int .i64 wd, .int .i64 0, .int .i64 1099511627776, .int .i64 left, .int .i64 right, .bool true, .bool true, .int .i64 edges]] W fun e' w' => e' = .returned (.tuple #[.int .i64 0, .int .i64 (of - edges), .int .i64 0, .int .i64 0]) ∧ W.grownBy w' none))
    (_h0 : B40 of)
    (_h1 : 0 ≤ edges ∧ edges ≤ 1099511627776)
    (_h2 : B40 x)
    (_h3 : B40 y)
    (_h4 : B40 z)
    (_h5 : of - edges - y < 0)
    (_h6 : of - edges < y)
    (_h7 : decide (0 ≤ of - edges - y) = false)
    (_h8 : edges ≤ of)
    : Calls Try.prog 6 #[.int .i64 of, .agg #[.bool is, .int .i64 wd, .int .i64 least, .int .i64 most, .int .i64 left, .int .i64 right, .bool al, .bool ar, .int .i64 edges]] w fun e w' => e = .returned (.bool true) ∧ Below w.heap.size w w' := by
  unfold B40 at *
  go_enter Try.func6, Try.ntmps6
  go_wp2_with fail
  refine (awake_any _).mono ?_; rintro e w1 ⟨rfl, hg1⟩
  have hz1 : w.heap.size < w1.heap.size := by have := hg1.size; simp at this; omega
  obtain ⟨hc1, hf1⟩ := old_cells hg1
  simp only [World.size_alloc] at hc1 hf1
  go_wp2_with fail
  refine (C1.out _).mono ?_; rintro e w2 ⟨rfl, hg2⟩
  have hb2 : Below w.heap.size w w2 := (((((Below.refl _ _).alloc (Nat.le_refl _) _).trans ((grown_below hg1).mono (by simp))).setCell (Nat.le_refl _) _).setCell (Nat.le_refl _) _).trans ((grown_below hg2).mono (by simp; omega))
  have hz2 : w.heap.size < w2.heap.size := by have := hg2.size; simp at this; omega
  obtain ⟨hc2, hf2⟩ := old_cells hg2
  simp only [World.size_setCell] at hc2 hf2
  go_wp2_with fail
  refine (C2.out _).mono ?_; rintro e w3 ⟨rfl, hg3⟩
  have hb3 := ((((hb2.setCell (p := ⟨w.heap.size, 0, none⟩) (Nat.le_refl _) (.bool false)).setCell (p := ⟨w.heap.size, 2, none⟩) (Nat.le_refl _) (.int .i64 0)).setCell (p := ⟨w.heap.size, 3, none⟩) (Nat.le_refl _) (.int .i64 1099511627776)).trans ((grown_below hg3).mono (by simp; omega)))
  obtain ⟨hc3, hf3⟩ := old_cells hg3
  simp only [World.size_setCell] at hc3 hf3
  go_wp2
  go_ret
  exact ⟨rfl, hb3⟩
set_option maxHeartbeats 400000 in
theorem middle_bj (is al ar : Bool) (of wd least most left right edges x y z : Int) (w : World) (C1 : Hid (∀ W : World, Calls Try.prog 10 #[.int .i64 of, .agg #[.bool is, .int .i64 wd, .int .i64 least, .int .i64 most, .int .i64 left, .int .i64 right, .bool true, .bool true, .int .i64 edges]] W fun e' w' => e' = .returned (.tuple #[.int .i64 x, .int .i64 y, .int .i64 z, .int .i64 0]) ∧ W.grownBy w' none))
    (C2 : Hid (∀ W : World, Calls Try.prog 10 #[.int .i64 of, .agg #[.bool false, .int .i64 wd, .int .i64 0, .int .i64 1099511627776, .int .i64 left, .int .i64 right, .bool true, .bool true, .int .i64 edges]] W fun e' w' => e' = .returned (.tuple #[.int .i64 0, .int .i64 0, .int .i64 (of - edges), .int .i64 0]) ∧ W.grownBy w' none))
    (_h0 : B40 of)
    (_h1 : 0 ≤ edges ∧ edges ≤ 1099511627776)
    (_h2 : B40 x)
    (_h3 : B40 y)
    (_h4 : B40 z)
    (_h5 : of - edges - y < 0)
    (_h6 : of - edges < y)
    (_h7 : decide (0 ≤ of - edges - y) = false)
    (_h8 : of < edges)
    (_h9 : (of - edges == 0) = false)
    (_h10 : decide (of - edges < 0) = true)
    : Calls Try.prog 6 #[.int .i64 of, .agg #[.bool is, .int .i64 wd, .int .i64 least, .int .i64 most, .int .i64 left, .int .i64 right, .bool al, .bool ar, .int .i64 edges]] w fun e w' => e = .returned (.bool true) ∧ Below w.heap.size w w' := by
  unfold B40 at *
  go_enter Try.func6, Try.ntmps6
  go_wp2_with fail
  refine (awake_any _).mono ?_; rintro e w1 ⟨rfl, hg1⟩
  have hz1 : w.heap.size < w1.heap.size := by have := hg1.size; simp at this; omega
  obtain ⟨hc1, hf1⟩ := old_cells hg1
  simp only [World.size_alloc] at hc1 hf1
  go_wp2_with fail
  refine (C1.out _).mono ?_; rintro e w2 ⟨rfl, hg2⟩
  have hb2 : Below w.heap.size w w2 := (((((Below.refl _ _).alloc (Nat.le_refl _) _).trans ((grown_below hg1).mono (by simp))).setCell (Nat.le_refl _) _).setCell (Nat.le_refl _) _).trans ((grown_below hg2).mono (by simp; omega))
  have hz2 : w.heap.size < w2.heap.size := by have := hg2.size; simp at this; omega
  obtain ⟨hc2, hf2⟩ := old_cells hg2
  simp only [World.size_setCell] at hc2 hf2
  go_wp2_with fail
  refine (C2.out _).mono ?_; rintro e w3 ⟨rfl, hg3⟩
  have hb3 := ((((hb2.setCell (p := ⟨w.heap.size, 0, none⟩) (Nat.le_refl _) (.bool false)).setCell (p := ⟨w.heap.size, 2, none⟩) (Nat.le_refl _) (.int .i64 0)).setCell (p := ⟨w.heap.size, 3, none⟩) (Nat.le_refl _) (.int .i64 1099511627776)).trans ((grown_below hg3).mono (by simp; omega)))
  obtain ⟨hc3, hf3⟩ := old_cells hg3
  simp only [World.size_setCell] at hc3 hf3
  go_wp2
  go_ret
  exact ⟨rfl, hb3⟩
theorem WidthMiddle_walk (w : World) (of : Int) (wo : (Lit.int .i64 of).wf = true) (cs : List Value) (ok : OkAll [.bool, .int .i64, .int .i64, .int .i64, .int .i64, .int .i64, .bool, .bool, .int .i64] cs) :
    Calls Try.prog 6 #[.int .i64 of, .agg ⟨cs⟩] w fun e w' => e = .returned (.bool true) ∧ Below w.heap.size w w' := by
  obtain ⟨is, wd, least, most, left, right, al, ar, edges, ha, rfl⟩ := ask_open ok
  have ho := wf_i64 wo
  have ha1 : (Ask.mk is wd least most left right true true edges).ok := ha
  have C1 := Lib.hid (fun W => solve_any of _ W ho ha1)
  rcases sol_cases of (Ask.mk is wd least most left right true true edges) with ⟨e, he, hs⟩ | ⟨x, y, z, hs, h⟩
  · rw [hs] at C1
    exact middle_bad is al ar of wd least most left right edges e w he C1
  · rw [hs] at C1
    clear hs
    obtain ⟨b1, b2, b3, b4, b5, b6, b7, b8, b9, b10, hx, hy, hz⟩ := h
    simp only at b1 b2 b3 b4 b5 b6 b7
    have ha2 : (Ask.mk false wd 0 1099511627776 left right true true edges).ok := ⟨ha.1, by unfold I64; simp, by unfold I64; simp, ha.2.2.2.1, ha.2.2.2.2.1, ha.2.2.2.2.2⟩
    have C2 := Lib.hid (fun W => solve_any of _ W ho ha2)
    have h0 : askedV of (Ask.mk false wd 0 1099511627776 left right true true edges) = 0 := asked_mk b1 (by simp) (by simp) b4 b5 b6 (by simp)
    have hw : widt of (Ask.mk false wd 0 1099511627776 left right true true edges) = max 0 (of - edges) := by simp only [widt, asks, lef, rig, if_true, Bool.false_eq_true, if_false]; omega
    have hfr : free of (Ask.mk false wd 0 1099511627776 left right true true edges) = of - 0 - edges - max 0 (of - edges) - 0 := by simp only [free, hw, lef, rig, if_true]
    have hl : lef2 of (Ask.mk false wd 0 1099511627776 left right true true edges) = 0 := by
      unfold lef2; rw [hfr]; simp only [lef, rig, if_true, and_true, or_false, Bool.true_eq_false]; (repeat' split) <;> omega
    have hr : rig2 of (Ask.mk false wd 0 1099511627776 left right true true edges) = min 0 (of - edges) := by
      unfold rig2; rw [hfr]; simp only [lef, rig, if_true, and_true, or_false, Bool.true_eq_false]; (repeat' split) <;> omega
    have hs2 := sol_mk h0 (by rw [hl]; unfold B40; omega) (by rw [hw]; unfold B40; omega) (by rw [hr]; unfold B40; omega)
    rw [hl, hw, hr] at hs2
    rw [hs2] at C2
    have hb : B40 of ∧ B40 x ∧ B40 y ∧ B40 z := by unfold B40; omega
    have hfx : free of (Ask.mk is wd least most left right true true edges) = of - 0 - edges - y - 0 := by rw [hy]; simp only [free, lef, rig, if_true]
    unfold lef2 at hx
    unfold rig2 at hz
    rw [hfx] at hx hz
    simp only [lef, rig, if_true, and_true, or_false, Bool.true_eq_false] at hx hz
    clear hs2 hw hfr hl hr h0 hfx hy
    have hcase : (0 ≤ of - edges - y ∧ z = x) ∨ (0 ≤ of - edges - y ∧ z ≠ x ∧ z = x + 1) ∨ of - edges - y < 0 := by
      by_cases c : 0 ≤ of - edges - y
      · (repeat' split at hx) <;> (repeat' split at hz) <;> omega
      · omega
    rcases Int.lt_or_le of edges with hlt | hle
    · have e1 : max 0 (of - edges) = 0 := by omega
      have e2 : min 0 (of - edges) = of - edges := by omega
      rw [e1, e2] at C2
      have hne : (of - edges == 0) = false := by simp; omega
      rcases hcase with ⟨k1, k2⟩ | ⟨k1, k2, k3⟩ | k1
      · exact middle_a1j is al ar of wd least most left right edges x y z w C1 C2 hb.1 b6 hb.2.1 hb.2.2.1 hb.2.2.2 k1 (by omega) (by simp; omega) (by simp [k2]) hlt hne (by simp; omega)
      · exact middle_a2j is al ar of wd least most left right edges x y z w C1 C2 hb.1 b6 hb.2.1 hb.2.2.1 hb.2.2.2 k1 (by omega) (by simp; omega) (by simp [k2]) (by simp [k3]) hlt hne (by simp; omega)
      · exact middle_bj is al ar of wd least most left right edges x y z w C1 C2 hb.1 b6 hb.2.1 hb.2.2.1 hb.2.2.2 k1 (by omega) (by simp; omega) hlt hne (by simp; omega)
    · have e1 : max 0 (of - edges) = of - edges := by omega
      have e2 : min 0 (of - edges) = 0 := by omega
      rw [e1, e2] at C2
      rcases hcase with ⟨k1, k2⟩ | ⟨k1, k2, k3⟩ | k1
      · exact middle_a1i is al ar of wd least most left right edges x y z w C1 C2 hb.1 b6 hb.2.1 hb.2.2.1 hb.2.2.2 k1 (by omega) (by simp; omega) (by simp [k2]) hle
      · exact middle_a2i is al ar of wd least most left right edges x y z w C1 C2 hb.1 b6 hb.2.1 hb.2.2.1 hb.2.2.2 k1 (by omega) (by simp; omega) (by simp [k2]) (by simp [k3]) hle
      · exact middle_bi is al ar of wd least most left right edges x y z w C1 C2 hb.1 b6 hb.2.1 hb.2.2.1 hb.2.2.2 k1 (by omega) (by simp; omega) hle
end Go.Proofs.Ytjaeoaebkkmaaaa
