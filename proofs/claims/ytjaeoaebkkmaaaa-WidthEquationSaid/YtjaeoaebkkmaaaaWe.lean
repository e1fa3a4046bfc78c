/- The walks of WidthEquation and WidthStays (printed by gen_we.py). -/
import Derived.Test.YtjaeoaebkkmaaaaAw
import Derived.Test.YtjaeoaebkkmaaaaSf
import Derived.BigGuardPart
namespace Go.Proofs.Ytjaeoaebkkmaaaa
open Go Go.RowKit
set_option maxHeartbeats 400000 in
theorem equation_bad (is al ar : Bool) (of wd least most left right edges e : Int) (w : World) (he : e = 2 ∨ e = 10) (C1 : Hid (∀ W : World, Calls Try.prog 10 #[.int .i64 of, .agg #[.bool is, .int .i64 wd, .int .i64 least, .int .i64 most, .int .i64 left, .int .i64 right, .bool al, .bool ar, .int .i64 edges]] W fun e' w' => e' = .returned (.tuple #[.int .i64 0, .int .i64 0, .int .i64 0, .int .i64 e]) ∧ W.grownBy w' none))
    : Calls Try.prog 4 #[.int .i64 of, .agg #[.bool is, .int .i64 wd, .int .i64 least, .int .i64 most, .int .i64 left, .int .i64 right, .bool al, .bool ar, .int .i64 edges]] w fun e w' => e = .returned (.bool true) ∧ Below w.heap.size w w' := by
  rcases he with rfl | rfl
  all_goals
    go_enter Try.func4, Try.ntmps4
    go_wp2_with fail
    refine (awake_any _).mono ?_; rintro e w1 ⟨rfl, hg1⟩
    obtain ⟨hc, hf⟩ := old_cells hg1
    simp only [World.size_alloc] at hc hf
    go_wp2_with fail
    refine (C1.out _).mono ?_; rintro e w2 ⟨rfl, hg2⟩
    have hg := grown_trans hg1 hg2
    clear hc hf hg1 hg2
    obtain ⟨hc, hf⟩ := old_cells hg
    simp only [World.size_alloc] at hc hf
    go_wp2
    go_ret
    exact ⟨rfl, grown_below (grown_trans (World.grownBy_alloc _ _ _) hg)⟩
set_option maxHeartbeats 400000 in
theorem equation_a (is al ar : Bool) (of wd least most left right edges x y z : Int) (w : World) (C1 : Hid (∀ W : World, Calls Try.prog 10 #[.int .i64 of, .agg #[.bool is, .int .i64 wd, .int .i64 least, .int .i64 most, .int .i64 left, .int .i64 right, .bool al, .bool ar, .int .i64 edges]] W fun e w' => e = .returned (.tuple #[.int .i64 x, .int .i64 y, .int .i64 z, .int .i64 0]) ∧ W.grownBy w' none))
    (_h0 : B40 of)
    (_h1 : 0 ≤ edges ∧ edges ≤ 1099511627776)
    (_h2 : B40 x)
    (_h3 : B40 y)
    (_h4 : B40 z)
    (_h5 : B40 left)
    (_h6 : B40 right)
    (_h7 : ((x + edges + y + z) != of) = false)
    (_h8 : 0 ≤ y)
    (_h9 : most < least)
    (_h10 : (y == least) = true)
    : Calls Try.prog 4 #[.int .i64 of, .agg #[.bool is, .int .i64 wd, .int .i64 least, .int .i64 most, .int .i64 left, .int .i64 right, .bool al, .bool ar, .int .i64 edges]] w fun e w' => e = .returned (.bool true) ∧ Below w.heap.size w w' := by
  unfold B40 at *
  go_enter Try.func4, Try.ntmps4
  go_wp2_with fail
  refine (awake_any _).mono ?_; rintro e w1 ⟨rfl, hg1⟩
  obtain ⟨hc, hf⟩ := old_cells hg1
  simp only [World.size_alloc] at hc hf
  go_wp2_with fail
  refine (C1.out _).mono ?_; rintro e w2 ⟨rfl, hg2⟩
  have hg := grown_trans hg1 hg2
  clear hc hf hg1 hg2
  obtain ⟨hc, hf⟩ := old_cells hg
  simp only [World.size_alloc] at hc hf
  go_wp2
  go_ret
  exact ⟨rfl, grown_below (grown_trans (World.grownBy_alloc _ _ _) hg)⟩
set_option maxHeartbeats 400000 in
theorem equation_b (al ar : Bool) (of wd least most left right edges x y z : Int) (w : World) (C1 : Hid (∀ W : World, Calls Try.prog 10 #[.int .i64 of, .agg #[.bool false, .int .i64 wd, .int .i64 least, .int .i64 most, .int .i64 left, .int .i64 right, .bool al, .bool ar, .int .i64 edges]] W fun e w' => e = .returned (.tuple #[.int .i64 x, .int .i64 y, .int .i64 z, .int .i64 0]) ∧ W.grownBy w' none))
    (_h0 : B40 of)
    (_h1 : 0 ≤ edges ∧ edges ≤ 1099511627776)
    (_h2 : B40 x)
    (_h3 : B40 y)
    (_h4 : B40 z)
    (_h5 : B40 left)
    (_h6 : B40 right)
    (_h7 : ((x + edges + y + z) != of) = false)
    (_h8 : 0 ≤ y)
    (_h9 : least ≤ most)
    (_h10 : least ≤ y)
    (_h11 : y ≤ most)
    : Calls Try.prog 4 #[.int .i64 of, .agg #[.bool false, .int .i64 wd, .int .i64 least, .int .i64 most, .int .i64 left, .int .i64 right, .bool al, .bool ar, .int .i64 edges]] w fun e w' => e = .returned (.bool true) ∧ Below w.heap.size w w' := by
  unfold B40 at *
  go_enter Try.func4, Try.ntmps4
  go_wp2_with fail
  refine (awake_any _).mono ?_; rintro e w1 ⟨rfl, hg1⟩
  obtain ⟨hc, hf⟩ := old_cells hg1
  simp only [World.size_alloc] at hc hf
  go_wp2_with fail
  refine (C1.out _).mono ?_; rintro e w2 ⟨rfl, hg2⟩
  have hg := grown_trans hg1 hg2
  clear hc hf hg1 hg2
  obtain ⟨hc, hf⟩ := old_cells hg
  simp only [World.size_alloc] at hc hf
  go_wp2
  go_ret
  exact ⟨rfl, grown_below (grown_trans (World.grownBy_alloc _ _ _) hg)⟩
set_option maxHeartbeats 400000 in
theorem equation_c (al ar : Bool) (of wd least most left right edges x y z : Int) (w : World) (C1 : Hid (∀ W : World, Calls Try.prog 10 #[.int .i64 of, .agg #[.bool true, .int .i64 wd, .int .i64 least, .int .i64 most, .int .i64 left, .int .i64 right, .bool al, .bool ar, .int .i64 edges]] W fun e w' => e = .returned (.tuple #[.int .i64 x, .int .i64 y, .int .i64 z, .int .i64 0]) ∧ W.grownBy w' none))
    (_h0 : B40 of)
    (_h1 : 0 ≤ edges ∧ edges ≤ 1099511627776)
    (_h2 : B40 x)
    (_h3 : B40 y)
    (_h4 : B40 z)
    (_h5 : B40 left)
    (_h6 : B40 right)
    (_h7 : ((x + edges + y + z) != of) = false)
    (_h8 : 0 ≤ y)
    (_h9 : least ≤ most)
    (_h10 : least ≤ y)
    (_h11 : y ≤ most)
    (_h12 : wd < least)
    : Calls Try.prog 4 #[.int .i64 of, .agg #[.bool true, .int .i64 wd, .int .i64 least, .int .i64 most, .int .i64 left, .int .i64 right, .bool al, .bool ar, .int .i64 edges]] w fun e w' => e = .returned (.bool true) ∧ Below w.heap.size w w' := by
  unfold B40 at *
  go_enter Try.func4, Try.ntmps4
  go_wp2_with fail
  refine (awake_any _).mono ?_; rintro e w1 ⟨rfl, hg1⟩
  obtain ⟨hc, hf⟩ := old_cells hg1
  simp only [World.size_alloc] at hc hf
  go_wp2_with fail
  refine (C1.out _).mono ?_; rintro e w2 ⟨rfl, hg2⟩
  have hg := grown_trans hg1 hg2
  clear hc hf hg1 hg2
  obtain ⟨hc, hf⟩ := old_cells hg
  simp only [World.size_alloc] at hc hf
  go_wp2
  go_ret
  exact ⟨rfl, grown_below (grown_trans (World.grownBy_alloc _ _ _) hg)⟩
set_option maxHeartbeats 400000 in
theorem equation_d (al ar : Bool) (of wd least most left right edges x y z : Int) (w : World) (C1 : Hid (∀ W : World, Calls Try.prog 10 #[.int .i64 of, .agg #[.bool true, .int .i64 wd, .int .i64 least, .int .i64 most, .int .i64 left, .int .i64 right, .bool al, .bool ar, .int .i64 edges]] W fun e w' => e = .returned (.tuple #[.int .i64 x, .int .i64 y, .int .i64 z, .int .i64 0]) ∧ W.grownBy w' none))
    (_h0 : B40 of)
    (_h1 : 0 ≤ edges ∧ edges ≤ 1099511627776)
    (_h2 : B40 x)
    (_h3 : B40 y)
    (_h4 : B40 z)
    (_h5 : B40 left)
    (_h6 : B40 right)
    (_h7 : ((x + edges + y + z) != of) = false)
    (_h8 : 0 ≤ y)
    (_h9 : least ≤ most)
    (_h10 : least ≤ y)
    (_h11 : y ≤ most)
    (_h12 : least ≤ wd)
    (_h13 : most < wd)
    : Calls Try.prog 4 #[.int .i64 of, .agg #[.bool true, .int .i64 wd, .int .i64 least, .int .i64 most, .int .i64 left, .int .i64 right, .bool al, .bool ar, .int .i64 edges]] w fun e w' => e = .returned (.bool true) ∧ Below w.heap.size w w' := by
  unfold B40 at *
  go_enter Try.func4, Try.ntmps4
  go_wp2_with fail
  refine (awake_any _).mono ?_; rintro e w1 ⟨rfl, hg1⟩
  obtain ⟨hc, hf⟩ := old_cells hg1
  simp only [World.size_alloc] at hc hf
  go_wp2_with fail
  refine (C1.out _).mono ?_; rintro e w2 ⟨rfl, hg2⟩
  have hg := grown_trans hg1 hg2
  clear hc hf hg1 hg2
  obtain ⟨hc, hf⟩ := old_cells hg
  simp only [World.size_alloc] at hc hf
  go_wp2
  go_ret
  exact ⟨rfl, grown_below (grown_trans (World.grownBy_alloc _ _ _) hg)⟩
set_option maxHeartbeats 400000 in
theorem equation_e (al ar : Bool) (of wd least most left right edges x y z : Int) (w : World) (C1 : Hid (∀ W : World, Calls Try.prog 10 #[.int .i64 of, .agg #[.bool true, .int .i64 wd, .int .i64 least, .int .i64 most, .int .i64 left, .int .i64 right, .bool al, .bool ar, .int .i64 edges]] W fun e w' => e = .returned (.tuple #[.int .i64 x, .int .i64 y, .int .i64 z, .int .i64 0]) ∧ W.grownBy w' none))
    (_h0 : B40 of)
    (_h1 : 0 ≤ edges ∧ edges ≤ 1099511627776)
    (_h2 : B40 x)
    (_h3 : B40 y)
    (_h4 : B40 z)
    (_h5 : B40 left)
    (_h6 : B40 right)
    (_h7 : ((x + edges + y + z) != of) = false)
    (_h8 : 0 ≤ y)
    (_h9 : least ≤ most)
    (_h10 : least ≤ y)
    (_h11 : y ≤ most)
    (_h12 : least ≤ wd)
    (_h13 : wd ≤ most)
    (_h14 : (y == wd) = true)
    : Calls Try.prog 4 #[.int .i64 of, .agg #[.bool true, .int .i64 wd, .int .i64 least, .int .i64 most, .int .i64 left, .int .i64 right, .bool al, .bool ar, .int .i64 edges]] w fun e w' => e = .returned (.bool true) ∧ Below w.heap.size w w' := by
  unfold B40 at *
  go_enter Try.func4, Try.ntmps4
  go_wp2_with fail
  refine (awake_any _).mono ?_; rintro e w1 ⟨rfl, hg1⟩
  obtain ⟨hc, hf⟩ := old_cells hg1
  simp only [World.size_alloc] at hc hf
  go_wp2_with fail
  refine (C1.out _).mono ?_; rintro e w2 ⟨rfl, hg2⟩
  have hg := grown_trans hg1 hg2
  clear hc hf hg1 hg2
  obtain ⟨hc, hf⟩ := old_cells hg
  simp only [World.size_alloc] at hc hf
  go_wp2
  go_ret
  exact ⟨rfl, grown_below (grown_trans (World.grownBy_alloc _ _ _) hg)⟩
theorem WidthEquation_walk (w : World) (of : Int) (wo : (Lit.int .i64 of).wf = true) (cs : List Value) (ok : OkAll [.bool, .int .i64, .int .i64, .int .i64, .int .i64, .int .i64, .bool, .bool, .int .i64] cs) :
    Calls Try.prog 4 #[.int .i64 of, .agg ⟨cs⟩] w fun e w' => e = .returned (.bool true) ∧ Below w.heap.size w w' := by
  obtain ⟨is, wd, least, most, left, right, al, ar, edges, ha, rfl⟩ := ask_open ok
  have ho := wf_i64 wo
  have C1 := Lib.hid (fun W => solve_any of _ W ho ha)
  rcases sol_cases of (Ask.mk is wd least most left right al ar edges) with ⟨e, he, hs⟩ | ⟨x, y, z, hs, h⟩
  · rw [hs] at C1
    exact equation_bad is al ar of wd least most left right edges e w he C1
  · rw [hs] at C1
    clear hs
    have hsum := h.sum
    obtain ⟨b1, b2, b3, b4, b5, b6, b7, b8, b9, b10, hx, hy, hz⟩ := h
    simp only at b1 b2 b3 b4 b5 b6 b7 hsum
    have e1 : ((x + edges + y + z) != of) = false := by simp [hsum]
    have hwc := widt_cases of (Ask.mk is wd least most left right al ar edges)
    rw [← hy] at hwc
    simp only at hwc
    have hb : B40 of ∧ B40 x ∧ B40 y ∧ B40 z ∧ B40 left ∧ B40 right := by unfold B40; omega
    have hy0 : 0 ≤ y := by rcases hwc with ⟨_, k⟩ | ⟨_, k, _⟩ <;> omega
    rcases hwc with ⟨k1, k2⟩ | ⟨k1, k2, k3, k4⟩
    · exact equation_a is al ar of wd least most left right edges x y z w C1 hb.1 b6 hb.2.1 hb.2.2.1 hb.2.2.2.1 hb.2.2.2.2.1 hb.2.2.2.2.2 e1 hy0 k1 (by simp [k2])
    · cases is with
      | false => exact equation_b al ar of wd least most left right edges x y z w C1 hb.1 b6 hb.2.1 hb.2.2.1 hb.2.2.2.1 hb.2.2.2.2.1 hb.2.2.2.2.2 e1 hy0 k1 k2 k3
      | true =>
        by_cases c1 : wd < least
        · exact equation_c al ar of wd least most left right edges x y z w C1 hb.1 b6 hb.2.1 hb.2.2.1 hb.2.2.2.1 hb.2.2.2.2.1 hb.2.2.2.2.2 e1 hy0 k1 k2 k3 c1
        · by_cases c2 : most < wd
          · exact equation_d al ar of wd least most left right edges x y z w C1 hb.1 b6 hb.2.1 hb.2.2.1 hb.2.2.2.1 hb.2.2.2.2.1 hb.2.2.2.2.2 e1 hy0 k1 k2 k3 (by omega) c2
          · exact equation_e al ar of wd least most left right edges x y z w C1 hb.1 b6 hb.2.1 hb.2.2.1 hb.2.2.2.1 hb.2.2.2.2.1 hb.2.2.2.2.2 e1 hy0 k1 k2 k3 (by omega) (by omega) (by simp [k4 rfl (by omega) (by omega)])
end Go.Proofs.Ytjaeoaebkkmaaaa
