/- The walks of WidthStays (printed by gen_we.py). -/
import Derived.Test.YtjaeoaebkkmaaaaAw
import Derived.Test.YtjaeoaebkkmaaaaSf
import Derived.BigGuardPart
namespace Go.Proofs.Ytjaeoaebkkmaaaa
open Go Go.RowKit
set_option maxHeartbeats 400000 in
theorem stays_bad (is al ar : Bool) (of wd least most left right edges e : Int) (w : World) (he : e = 2 ∨ e = 10) (C1 : Hid (∀ W : World, Calls Try.prog 10 #[.int .i64 of, .agg #[.bool is, .int .i64 wd, .int .i64 least, .int .i64 most, .int .i64 left, .int .i64 right, .bool al, .bool ar, .int .i64 edges]] W fun e' w' => e' = .returned (.tuple #[.int .i64 0, .int .i64 0, .int .i64 0, .int .i64 e]) ∧ W.grownBy w' none))
    : Calls Try.prog 5 #[.int .i64 of, .agg #[.bool is, .int .i64 wd, .int .i64 least, .int .i64 most, .int .i64 left, .int .i64 right, .bool al, .bool ar, .int .i64 edges]] w fun e w' => e = .returned (.bool true) ∧ Below w.heap.size w w' := by
  rcases he with rfl | rfl
  all_goals
    go_enter Try.func5, Try.ntmps5
    go_wp2_with fail
    refine (awake_any _).mono ?_; rintro e w1 ⟨rfl, hg1⟩
    obtain ⟨hc, hf⟩ := old_cells hg1
    simp only [World.size_alloc] at hc hf
    go_wp2_with fail
    refine (C1.out _).mono ?_; rintro e w2 ⟨rfl, hg2⟩
    have hg := grown_trans hg1 hg2
    clear hc hf hg1 hg2
    obtain ⟨hc, hf⟩ := old_cells hg
    simp only [World.size_alloc] at hc hf
    go_wp2
    go_ret
    exact ⟨rfl, grown_below (grown_trans (World.grownBy_alloc _ _ _) hg)⟩
set_option maxHeartbeats 400000 in
theorem stays_ff_less (is : Bool) (of wd least most left right edges x y z : Int) (w : World) (C1 : Hid (∀ W : World, Calls Try.prog 10 #[.int .i64 of, .agg #[.bool is, .int .i64 wd, .int .i64 least, .int .i64 most, .int .i64 left, .int .i64 right, .bool false, .bool false, .int .i64 edges]] W fun e w' => e = .returned (.tuple #[.int .i64 x, .int .i64 y, .int .i64 z, .int .i64 0]) ∧ W.grownBy w' none))
    (_h0 : B40 of)
    (_h1 : 0 ≤ edges ∧ edges ≤ 1099511627776)
    (_h2 : B40 x)
    (_h3 : B40 y)
    (_h4 : B40 z)
    (_h5 : B40 left)
    (_h6 : B40 right)
    (_h7 : 0 ≤ y)
    (_h8 : (x != left) = false)
    (_h9 : of < edges + y + left + right)
    : Calls Try.prog 5 #[.int .i64 of, .agg #[.bool is, .int .i64 wd, .int .i64 least, .int .i64 most, .int .i64 left, .int .i64 right, .bool false, .bool false, .int .i64 edges]] w fun e w' => e = .returned (.bool true) ∧ Below w.heap.size w w' := by
  unfold B40 at *
  go_enter Try.func5, Try.ntmps5
  go_wp2_with fail
  refine (awake_any _).mono ?_; rintro e w1 ⟨rfl, hg1⟩
  obtain ⟨hc, hf⟩ := old_cells hg1
  simp only [World.size_alloc] at hc hf
  go_wp2_with fail
  refine (C1.out _).mono ?_; rintro e w2 ⟨rfl, hg2⟩
  have hg := grown_trans hg1 hg2
  clear hc hf hg1 hg2
  obtain ⟨hc, hf⟩ := old_cells hg
  simp only [World.size_alloc] at hc hf
  go_wp2
  go_ret
  exact ⟨rfl, grown_below (grown_trans (World.grownBy_alloc _ _ _) hg)⟩
set_option maxHeartbeats 400000 in
theorem stays_ff_more (is : Bool) (of wd least most left right edges x y z : Int) (w : World) (C1 : Hid (∀ W : World, Calls Try.prog 10 #[.int .i64 of, .agg #[.bool is, .int .i64 wd, .int .i64 least, .int .i64 most, .int .i64 left, .int .i64 right, .bool false, .bool false, .int .i64 edges]] W fun e w' => e = .returned (.tuple #[.int .i64 x, .int .i64 y, .int .i64 z, .int .i64 0]) ∧ W.grownBy w' none))
    (_h0 : B40 of)
    (_h1 : 0 ≤ edges ∧ edges ≤ 1099511627776)
    (_h2 : B40 x)
    (_h3 : B40 y)
    (_h4 : B40 z)
    (_h5 : B40 left)
    (_h6 : B40 right)
    (_h7 : 0 ≤ y)
    (_h8 : (x != left) = false)
    (_h9 : edges + y + left + right ≤ of)
    : Calls Try.prog 5 #[.int .i64 of, .agg #[.bool is, .int .i64 wd, .int .i64 least, .int .i64 most, .int .i64 left, .int .i64 right, .bool false, .bool false, .int .i64 edges]] w fun e w' => e = .returned (.bool true) ∧ Below w.heap.size w w' := by
  unfold B40 at *
  go_enter Try.func5, Try.ntmps5
  go_wp2_with fail
  refine (awake_any _).mono ?_; rintro e w1 ⟨rfl, hg1⟩
  obtain ⟨hc, hf⟩ := old_cells hg1
  simp only [World.size_alloc] at hc hf
  go_wp2_with fail
  refine (C1.out _).mono ?_; rintro e w2 ⟨rfl, hg2⟩
  have hg := grown_trans hg1 hg2
  clear hc hf hg1 hg2
  obtain ⟨hc, hf⟩ := old_cells hg
  simp only [World.size_alloc] at hc hf
  go_wp2
  go_ret
  exact ⟨rfl, grown_below (grown_trans (World.grownBy_alloc _ _ _) hg)⟩
set_option maxHeartbeats 400000 in
theorem stays_ft_less (is : Bool) (of wd least most left right edges x y z : Int) (w : World) (C1 : Hid (∀ W : World, Calls Try.prog 10 #[.int .i64 of, .agg #[.bool is, .int .i64 wd, .int .i64 least, .int .i64 most, .int .i64 left, .int .i64 right, .bool false, .bool true, .int .i64 edges]] W fun e w' => e = .returned (.tuple #[.int .i64 x, .int .i64 y, .int .i64 z, .int .i64 0]) ∧ W.grownBy w' none))
    (_h0 : B40 of)
    (_h1 : 0 ≤ edges ∧ edges ≤ 1099511627776)
    (_h2 : B40 x)
    (_h3 : B40 y)
    (_h4 : B40 z)
    (_h5 : B40 left)
    (_h6 : B40 right)
    (_h7 : 0 ≤ y)
    (_h8 : (x != left) = false)
    (_h9 : of < edges + y + left)
    : Calls Try.prog 5 #[.int .i64 of, .agg #[.bool is, .int .i64 wd, .int .i64 least, .int .i64 most, .int .i64 left, .int .i64 right, .bool false, .bool true, .int .i64 edges]] w fun e w' => e = .returned (.bool true) ∧ Below w.heap.size w w' := by
  unfold B40 at *
  go_enter Try.func5, Try.ntmps5
  go_wp2_with fail
  refine (awake_any _).mono ?_; rintro e w1 ⟨rfl, hg1⟩
  obtain ⟨hc, hf⟩ := old_cells hg1
  simp only [World.size_alloc] at hc hf
  go_wp2_with fail
  refine (C1.out _).mono ?_; rintro e w2 ⟨rfl, hg2⟩
  have hg := grown_trans hg1 hg2
  clear hc hf hg1 hg2
  obtain ⟨hc, hf⟩ := old_cells hg
  simp only [World.size_alloc] at hc hf
  go_wp2
  go_ret
  exact ⟨rfl, grown_below (grown_trans (World.grownBy_alloc _ _ _) hg)⟩
set_option maxHeartbeats 400000 in
theorem stays_ft_more (is : Bool) (of wd least most left right edges x y z : Int) (w : World) (C1 : Hid (∀ W : World, Calls Try.prog 10 #[.int .i64 of, .agg #[.bool is, .int .i64 wd, .int .i64 least, .int .i64 most, .int .i64 left, .int .i64 right, .bool false, .bool true, .int .i64 edges]] W fun e w' => e = .returned (.tuple #[.int .i64 x, .int .i64 y, .int .i64 z, .int .i64 0]) ∧ W.grownBy w' none))
    (_h0 : B40 of)
    (_h1 : 0 ≤ edges ∧ edges ≤ 1099511627776)
    (_h2 : B40 x)
    (_h3 : B40 y)
    (_h4 : B40 z)
    (_h5 : B40 left)
    (_h6 : B40 right)
    (_h7 : 0 ≤ y)
    (_h8 : (x != left) = false)
    (_h9 : edges + y + left ≤ of)
    (_h10 : 0 ≤ z)
    : Calls Try.prog 5 #[.int .i64 of, .agg #[.bool is, .int .i64 wd, .int .i64 least, .int .i64 most, .int .i64 left, .int .i64 right, .bool false, .bool true, .int .i64 edges]] w fun e w' => e = .returned (.bool true) ∧ Below w.heap.size w w' := by
  unfold B40 at *
  go_enter Try.func5, Try.ntmps5
  go_wp2_with fail
  refine (awake_any _).mono ?_; rintro e w1 ⟨rfl, hg1⟩
  obtain ⟨hc, hf⟩ := old_cells hg1
  simp only [World.size_alloc] at hc hf
  go_wp2_with fail
  refine (C1.out _).mono ?_; rintro e w2 ⟨rfl, hg2⟩
  have hg := grown_trans hg1 hg2
  clear hc hf hg1 hg2
  obtain ⟨hc, hf⟩ := old_cells hg
  simp only [World.size_alloc] at hc hf
  go_wp2
  go_ret
  exact ⟨rfl, grown_below (grown_trans (World.grownBy_alloc _ _ _) hg)⟩
set_option maxHeartbeats 400000 in
theorem stays_tf_less (is : Bool) (of wd least most left right edges x y z : Int) (w : World) (C1 : Hid (∀ W : World, Calls Try.prog 10 #[.int .i64 of, .agg #[.bool is, .int .i64 wd, .int .i64 least, .int .i64 most, .int .i64 left, .int .i64 right, .bool true, .bool false, .int .i64 edges]] W fun e w' => e = .returned (.tuple #[.int .i64 x, .int .i64 y, .int .i64 z, .int .i64 0]) ∧ W.grownBy w' none))
    (_h0 : B40 of)
    (_h1 : 0 ≤ edges ∧ edges ≤ 1099511627776)
    (_h2 : B40 x)
    (_h3 : B40 y)
    (_h4 : B40 z)
    (_h5 : B40 left)
    (_h6 : B40 right)
    (_h7 : 0 ≤ y)
    (_h8 : 0 ≤ x)
    (_h9 : of < edges + y + right)
    (_h10 : (x == 0) = true)
    : Calls Try.prog 5 #[.int .i64 of, .agg #[.bool is, .int .i64 wd, .int .i64 least, .int .i64 most, .int .i64 left, .int .i64 right, .bool true, .bool false, .int .i64 edges]] w fun e w' => e = .returned (.bool true) ∧ Below w.heap.size w w' := by
  unfold B40 at *
  go_enter Try.func5, Try.ntmps5
  go_wp2_with fail
  refine (awake_any _).mono ?_; rintro e w1 ⟨rfl, hg1⟩
  obtain ⟨hc, hf⟩ := old_cells hg1
  simp only [World.size_alloc] at hc hf
  go_wp2_with fail
  refine (C1.out _).mono ?_; rintro e w2 ⟨rfl, hg2⟩
  have hg := grown_trans hg1 hg2
  clear hc hf hg1 hg2
  obtain ⟨hc, hf⟩ := old_cells hg
  simp only [World.size_alloc] at hc hf
  go_wp2
  go_ret
  exact ⟨rfl, grown_below (grown_trans (World.grownBy_alloc _ _ _) hg)⟩
set_option maxHeartbeats 400000 in
theorem stays_tf_more (is : Bool) (of wd least most left right edges x y z : Int) (w : World) (C1 : Hid (∀ W : World, Calls Try.prog 10 #[.int .i64 of, .agg #[.bool is, .int .i64 wd, .int .i64 least, .int .i64 most, .int .i64 left, .int .i64 right, .bool true, .bool false, .int .i64 edges]] W fun e w' => e = .returned (.tuple #[.int .i64 x, .int .i64 y, .int .i64 z, .int .i64 0]) ∧ W.grownBy w' none))
    (_h0 : B40 of)
    (_h1 : 0 ≤ edges ∧ edges ≤ 1099511627776)
    (_h2 : B40 x)
    (_h3 : B40 y)
    (_h4 : B40 z)
    (_h5 : B40 left)
    (_h6 : B40 right)
    (_h7 : 0 ≤ y)
    (_h8 : 0 ≤ x)
    (_h9 : edges + y + right ≤ of)
    (_h10 : (z != right) = false)
    : Calls Try.prog 5 #[.int .i64 of, .agg #[.bool is, .int .i64 wd, .int .i64 least, .int .i64 most, .int .i64 left, .int .i64 right, .bool true, .bool false, .int .i64 edges]] w fun e w' => e = .returned (.bool true) ∧ Below w.heap.size w w' := by
  unfold B40 at *
  go_enter Try.func5, Try.ntmps5
  go_wp2_with fail
  refine (awake_any _).mono ?_; rintro e w1 ⟨rfl, hg1⟩
  obtain ⟨hc, hf⟩ := old_cells hg1
  simp only [World.size_alloc] at hc hf
  go_wp2_with fail
  refine (C1.out _).mono ?_; rintro e w2 ⟨rfl, hg2⟩
  have hg := grown_trans hg1 hg2
  clear hc hf hg1 hg2
  obtain ⟨hc, hf⟩ := old_cells hg
  simp only [World.size_alloc] at hc hf
  go_wp2
  go_ret
  exact ⟨rfl, grown_below (grown_trans (World.grownBy_alloc _ _ _) hg)⟩
set_option maxHeartbeats 400000 in
theorem stays_tt_less (is : Bool) (of wd least most left right edges x y z : Int) (w : World) (C1 : Hid (∀ W : World, Calls Try.prog 10 #[.int .i64 of, .agg #[.bool is, .int .i64 wd, .int .i64 least, .int .i64 most, .int .i64 left, .int .i64 right, .bool true, .bool true, .int .i64 edges]] W fun e w' => e = .returned (.tuple #[.int .i64 x, .int .i64 y, .int .i64 z, .int .i64 0]) ∧ W.grownBy w' none))
    (_h0 : B40 of)
    (_h1 : 0 ≤ edges ∧ edges ≤ 1099511627776)
    (_h2 : B40 x)
    (_h3 : B40 y)
    (_h4 : B40 z)
    (_h5 : B40 left)
    (_h6 : B40 right)
    (_h7 : 0 ≤ y)
    (_h8 : 0 ≤ x)
    (_h9 : of < edges + y)
    (_h10 : (x == 0) = true)
    : Calls Try.prog 5 #[.int .i64 of, .agg #[.bool is, .int .i64 wd, .int .i64 least, .int .i64 most, .int .i64 left, .int .i64 right, .bool true, .bool true, .int .i64 edges]] w fun e w' => e = .returned (.bool true) ∧ Below w.heap.size w w' := by
  unfold B40 at *
  go_enter Try.func5, Try.ntmps5
  go_wp2_with fail
  refine (awake_any _).mono ?_; rintro e w1 ⟨rfl, hg1⟩
  obtain ⟨hc, hf⟩ := old_cells hg1
  simp only [World.size_alloc] at hc hf
  go_wp2_with fail
  refine (C1.out _).mono ?_; rintro e w2 ⟨rfl, hg2⟩
  have hg := grown_trans hg1 hg2
  clear hc hf hg1 hg2
  obtain ⟨hc, hf⟩ := old_cells hg
  simp only [World.size_alloc] at hc hf
  go_wp2
  go_ret
  exact ⟨rfl, grown_below (grown_trans (World.grownBy_alloc _ _ _) hg)⟩
set_option maxHeartbeats 400000 in
theorem stays_tt_more (is : Bool) (of wd least most left right edges x y z : Int) (w : World) (C1 : Hid (∀ W : World, Calls Try.prog 10 #[.int .i64 of, .agg #[.bool is, .int .i64 wd, .int .i64 least, .int .i64 most, .int .i64 left, .int .i64 right, .bool true, .bool true, .int .i64 edges]] W fun e w' => e = .returned (.tuple #[.int .i64 x, .int .i64 y, .int .i64 z, .int .i64 0]) ∧ W.grownBy w' none))
    (_h0 : B40 of)
    (_h1 : 0 ≤ edges ∧ edges ≤ 1099511627776)
    (_h2 : B40 x)
    (_h3 : B40 y)
    (_h4 : B40 z)
    (_h5 : B40 left)
    (_h6 : B40 right)
    (_h7 : 0 ≤ y)
    (_h8 : 0 ≤ x)
    (_h9 : edges + y ≤ of)
    (_h10 : 0 ≤ z)
    : Calls Try.prog 5 #[.int .i64 of, .agg #[.bool is, .int .i64 wd, .int .i64 least, .int .i64 most, .int .i64 left, .int .i64 right, .bool true, .bool true, .int .i64 edges]] w fun e w' => e = .returned (.bool true) ∧ Below w.heap.size w w' := by
  unfold B40 at *
  go_enter Try.func5, Try.ntmps5
  go_wp2_with fail
  refine (awake_any _).mono ?_; rintro e w1 ⟨rfl, hg1⟩
  obtain ⟨hc, hf⟩ := old_cells hg1
  simp only [World.size_alloc] at hc hf
  go_wp2_with fail
  refine (C1.out _).mono ?_; rintro e w2 ⟨rfl, hg2⟩
  have hg := grown_trans hg1 hg2
  clear hc hf hg1 hg2
  obtain ⟨hc, hf⟩ := old_cells hg
  simp only [World.size_alloc] at hc hf
  go_wp2
  go_ret
  exact ⟨rfl, grown_below (grown_trans (World.grownBy_alloc _ _ _) hg)⟩
theorem WidthStays_walk (w : World) (of : Int) (wo : (Lit.int .i64 of).wf = true) (cs : List Value) (ok : OkAll [.bool, .int .i64, .int .i64, .int .i64, .int .i64, .int .i64, .bool, .bool, .int .i64] cs) :
    Calls Try.prog 5 #[.int .i64 of, .agg ⟨cs⟩] w fun e w' => e = .returned (.bool true) ∧ Below w.heap.size w w' := by
  obtain ⟨is, wd, least, most, left, right, al, ar, edges, ha, rfl⟩ := ask_open ok
  have ho := wf_i64 wo
  have C1 := Lib.hid (fun W => solve_any of _ W ho ha)
  rcases sol_cases of (Ask.mk is wd least most left right al ar edges) with ⟨e, he, hs⟩ | ⟨x, y, z, hs, h⟩
  · rw [hs] at C1
    exact stays_bad is al ar of wd least most left right edges e w he C1
  · rw [hs] at C1
    clear hs
    have hsum := h.sum
    obtain ⟨b1, b2, b3, b4, b5, b6, b7, b8, b9, b10, hx, hy, hz⟩ := h
    simp only at b1 b2 b3 b4 b5 b6 b7 hsum
    have hwc := widt_cases of (Ask.mk is wd least most left right al ar edges)
    rw [← hy] at hwc
    simp only at hwc
    have hb : B40 of ∧ B40 x ∧ B40 y ∧ B40 z ∧ B40 left ∧ B40 right := by unfold B40; omega
    have hy0 : 0 ≤ y := by rcases hwc with ⟨_, k⟩ | ⟨_, k, _⟩ <;> omega
    have hfr : free of (Ask.mk is wd least most left right al ar edges) = of - lef (Ask.mk is wd least most left right al ar edges) - edges - y - rig (Ask.mk is wd least most left right al ar edges) := by rw [hy]; rfl
    unfold lef2 at hx
    unfold rig2 at hz
    rw [hfr] at hx hz
    clear hfr hy hwc
    cases al <;> cases ar
    · simp only [lef, rig, Bool.false_eq_true, if_false, if_true, and_false, false_and, and_true, true_and, or_true, or_false, true_or, Bool.true_eq_false, eq_self] at hx hz
      by_cases c : of < edges + y + left + right
      · exact stays_ff_less is of wd least most left right edges x y z w C1 hb.1 b6 hb.2.1 hb.2.2.1 hb.2.2.2.1 hb.2.2.2.2.1 hb.2.2.2.2.2 hy0 (by have : x = left := (by (repeat' split at hx) <;> omega); simp [this]) c
      · exact stays_ff_more is of wd least most left right edges x y z w C1 hb.1 b6 hb.2.1 hb.2.2.1 hb.2.2.2.1 hb.2.2.2.2.1 hb.2.2.2.2.2 hy0 (by have : x = left := (by (repeat' split at hx) <;> omega); simp [this]) (by omega)
    · simp only [lef, rig, Bool.false_eq_true, if_false, if_true, and_false, false_and, and_true, true_and, or_true, or_false, true_or, Bool.true_eq_false, eq_self] at hx hz
      by_cases c : of < edges + y + left
      · exact stays_ft_less is of wd least most left right edges x y z w C1 hb.1 b6 hb.2.1 hb.2.2.1 hb.2.2.2.1 hb.2.2.2.2.1 hb.2.2.2.2.2 hy0 (by have : x = left := (by (repeat' split at hx) <;> omega); simp [this]) c
      · exact stays_ft_more is of wd least most left right edges x y z w C1 hb.1 b6 hb.2.1 hb.2.2.1 hb.2.2.2.1 hb.2.2.2.2.1 hb.2.2.2.2.2 hy0 (by have : x = left := (by (repeat' split at hx) <;> omega); simp [this]) (by omega) (by (repeat' split at hz) <;> omega)
    · simp only [lef, rig, Bool.false_eq_true, if_false, if_true, and_false, false_and, and_true, true_and, or_true, or_false, true_or, Bool.true_eq_false, eq_self] at hx hz
      by_cases c : of < edges + y + right
      · exact stays_tf_less is of wd least most left right edges x y z w C1 hb.1 b6 hb.2.1 hb.2.2.1 hb.2.2.2.1 hb.2.2.2.2.1 hb.2.2.2.2.2 hy0 (by (repeat' split at hx) <;> omega) c (by have : x = 0 := (by (repeat' split at hx) <;> omega); simp [this])
      · exact stays_tf_more is of wd least most left right edges x y z w C1 hb.1 b6 hb.2.1 hb.2.2.1 hb.2.2.2.1 hb.2.2.2.2.1 hb.2.2.2.2.2 hy0 (by (repeat' split at hx) <;> omega) (by omega) (by have : z = right := (by (repeat' split at hz) <;> omega); simp [this])
    · simp only [lef, rig, Bool.false_eq_true, if_false, if_true, and_false, false_and, and_true, true_and, or_true, or_false, true_or, Bool.true_eq_false, eq_self] at hx hz
      by_cases c : of < edges + y
      · exact stays_tt_less is of wd least most left right edges x y z w C1 hb.1 b6 hb.2.1 hb.2.2.1 hb.2.2.2.1 hb.2.2.2.2.1 hb.2.2.2.2.2 hy0 (by (repeat' split at hx) <;> omega) c (by have : x = 0 := (by (repeat' split at hx) <;> omega); simp [this])
      · exact stays_tt_more is of wd least most left right edges x y z w C1 hb.1 b6 hb.2.1 hb.2.2.1 hb.2.2.2.1 hb.2.2.2.2.1 hb.2.2.2.2.2 hy0 (by (repeat' split at hx) <;> omega) (by omega) (by (repeat' split at hz) <;> omega)
end Go.Proofs.Ytjaeoaebkkmaaaa
