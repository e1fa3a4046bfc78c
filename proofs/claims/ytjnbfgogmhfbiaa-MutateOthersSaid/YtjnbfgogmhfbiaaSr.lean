/- The walks of style's rules (printed by gen_rules.py). -/
import Derived.Test.YtjnbfgogmhfbiaaSy
import Derived.Test.YtjnbfgogmhfbiaaRows
import Derived.BigGuardPart
namespace Go.Proofs.Ytjnbfgogmhfbiaa
open Go Go.RowKit
theorem sty_cells2 {W w1 : World} (hg : W.grownBy w1 none) : (∀ b o, b < W.heap.size → w1.cell? ⟨b, o, none⟩ = W.cell? ⟨b, o, none⟩) ∧ (∀ b o, b < W.heap.size → w1.frozen? ⟨b, o, none⟩ = W.frozen? ⟨b, o, none⟩) :=
  ⟨fun b o h => (grown_below hg).cell (p := ⟨b, o, none⟩) h, fun b o h => (grown_below hg).frozen (p := ⟨b, o, none⟩) h⟩
theorem among_any (n a b : Int) (w : World) (_h1 : -9223372036854775808 ≤ n) (_h2 : n ≤ 9223372036854775807) :
    Calls Try.prog 49 #[.int .i64 n, .int .i64 a, .int .i64 b] w fun e w' => e = .returned (.bool (amongB n a b)) ∧ w = w' := by
  by_cases h1 : a ≤ n
  · have hv := Lib.hid (show amongB n a b = decide (n ≤ b) by simp [amongB, h1])
    go_enter Try.func49, Try.ntmps49
    go_wp2
    go_ret
    exact ⟨by rw [hv.out]; rfl, rfl⟩
  · have hv := Lib.hid (show amongB n a b = false by simp [amongB, h1])
    go_enter Try.func49, Try.ntmps49
    go_wp2
    go_ret
    exact ⟨by rw [hv.out]; rfl, rfl⟩
set_option maxHeartbeats 400000 in
theorem length_any (k n least : Int) (w : World) (k1 : 0 ≤ k) (k2 : k ≤ 255) (h1 : -9223372036854775808 ≤ n) (h2 : n ≤ 9223372036854775807) :
    Calls Try.prog 46 #[.agg #[.int .u8 k, .int .i64 n], .int .i64 least] w fun e w' => e = .returned (.bool (lengthB k n least)) ∧ w.grownBy w' none := by
  have C1 := Lib.hid (fun W => among_any n least 274877906944 W h1 h2)
  have C2 := Lib.hid (fun W => among_any n 0 100000 W h1 h2)
  by_cases e0 : k = 0
  · subst e0
    have hv := Lib.hid (show lengthB 0 n least = decide (n = 0) from rfl)
    go_enter Try.func46, Try.ntmps46
    go_wp2
    go_ret
    exact ⟨by rw [hv.out]; rfl, World.grownBy_alloc _ _ _⟩
  by_cases e1 : k = 1
  · subst e1
    have hv := Lib.hid (show lengthB 1 n least = amongB n least 274877906944 from rfl)
    go_enter Try.func46, Try.ntmps46
    go_wp2_with fail
    refine (C1.out _).mono ?_; rintro e w1 ⟨rfl, rfl⟩
    go_wp2
    go_ret
    exact ⟨by rw [hv.out]; rfl, World.grownBy_alloc _ _ _⟩
  have b0 : (k == 0) = false := by simp [e0]
  have b1 : (k == 1) = false := by simp [e1]
  by_cases e2 : k = 2
  · subst e2
    have hv := Lib.hid (show lengthB 2 n least = amongB n 0 100000 by simp [lengthB])
    clear b0 b1 e0 e1
    go_enter Try.func46, Try.ntmps46
    go_wp2_with fail
    refine (C2.out _).mono ?_; rintro e w1 ⟨rfl, rfl⟩
    go_wp2
    go_ret
    exact ⟨by rw [hv.out]; rfl, World.grownBy_alloc _ _ _⟩
  · have b2 : (k == 2) = false := by simp [e2]
    have hv := Lib.hid (show lengthB k n least = false by simp [lengthB, e0, e1, e2])
    clear e0 e1 e2
    go_enter Try.func46, Try.ntmps46
    go_wp2
    go_ret
    exact ⟨by rw [hv.out]; rfl, World.grownBy_alloc _ _ _⟩
set_option maxHeartbeats 1000000 in
theorem rule1_any (s : Sty) (w : World) (hs : s.ok) :
    Calls Try.prog 42 #[.agg s.cells] w fun e w' => e = .returned (.bool (r1 s)) ∧ w.grownBy w' none := by
  have b0 := Sty.b0 hs
  have b33 := Sty.b33 hs
  have b35 := Sty.b35 hs
  have k0 := s.c0
  have k33 := s.c33
  have k35 := s.c35
  have hv : r1 s = (decide (s.n 0 ≤ 2) && decide (s.n 33 ≤ 2) && decide (s.n 35 ≤ 2)) := rfl
  have hv' := Lib.hid hv
  clear hv
  generalize s.n 0 = x at *
  generalize s.n 33 = y at *
  generalize s.n 35 = z at *
  by_cases e0 : x ≤ 2
  all_goals by_cases e1 : y ≤ 2
  all_goals by_cases e2 : z ≤ 2
  all_goals
    go_enter Try.func42, Try.ntmps42
    go_wp2
    all_goals
      go_ret
      refine ⟨ret_b ?_, World.grownBy_alloc _ _ _⟩
      rw [hv'.out]
      simp [*]
set_option maxHeartbeats 1000000 in
theorem rule2_any (s : Sty) (w : World) (hs : s.ok) :
    Calls Try.prog 43 #[.agg s.cells] w fun e w' => e = .returned (.bool (r2 s)) ∧ w.grownBy w' none := by
  have b36 := Sty.b36 hs
  have b34 := Sty.b34 hs
  have b37 := Sty.b37 hs
  have k36 := s.c36
  have k34 := s.c34
  have k37 := s.c37
  have hv : r2 s = (decide (s.n 36 ≤ 3) && decide (s.n 34 ≤ 2) && decide (s.n 37 ≤ 4)) := rfl
  have hv' := Lib.hid hv
  clear hv
  generalize s.n 36 = x at *
  generalize s.n 34 = y at *
  generalize s.n 37 = z at *
  by_cases e0 : x ≤ 3
  all_goals by_cases e1 : y ≤ 2
  all_goals by_cases e2 : z ≤ 4
  all_goals
    go_enter Try.func43, Try.ntmps43
    go_wp2
    all_goals
      go_ret
      refine ⟨ret_b ?_, World.grownBy_alloc _ _ _⟩
      rw [hv'.out]
      simp [*]
set_option maxHeartbeats 1000000 in
theorem rule3_any (s : Sty) (w : World) (hs : s.ok) :
    Calls Try.prog 44 #[.agg s.cells] w fun e w' => e = .returned (.bool (r3 s)) ∧ w.grownBy w' none := by
  have b39 := Sty.b39 hs
  have k39 := s.c39
  have hv : r3 s = ((decide (s.n 39 ≤ 2) || decide (s.n 39 = 5))) := rfl
  have hv' := Lib.hid hv
  clear hv
  generalize s.n 39 = x at *
  by_cases e0 : x ≤ 2
  · go_enter Try.func44, Try.ntmps44
    go_wp2
    go_ret
    exact ⟨ret_b (by rw [hv'.out]; simp [e0]), World.grownBy_alloc _ _ _⟩
  · go_enter Try.func44, Try.ntmps44
    go_wp2
    go_ret
    exact ⟨ret_b (by rw [hv'.out, decide_eq_false (by omega : ¬ x ≤ 2), Bool.false_or]; rfl), World.grownBy_alloc _ _ _⟩
set_option maxHeartbeats 1000000 in
theorem rule4_any (s : Sty) (w : World) (hs : s.ok) :
    Calls Try.prog 45 #[.agg s.cells] w fun e w' => e = .returned (.bool (r4 s)) ∧ w.grownBy w' none := by
  have b2 := Sty.b2 hs
  have b3 := Sty.b3 hs
  have b4 := Sty.b4 hs
  have b5 := Sty.b5 hs
  have b6 := Sty.b6 hs
  have b7 := Sty.b7 hs
  have b44 := Sty.b44 hs
  have b45 := Sty.b45 hs
  have k2 := s.c2
  have k3 := s.c3
  have k4 := s.c4
  have k5 := s.c5
  have k6 := s.c6
  have k7 := s.c7
  have k44 := s.c44
  have k45 := s.c45
  have hv := Lib.hid (show r4 s = (lengthB (s.n 2) (s.n 3) 0 && (lengthB (s.n 4) (s.n 5) 0 && (lengthB (s.n 6) (s.n 7) 0 && (lengthB (s.n 44) (s.n 45) 0)))) from rfl)
  have C0 := Lib.hid (fun W => length_any (s.n 2) (s.n 3) (0) W b2.1 b2.2 b3.1 b3.2)
  have C1 := Lib.hid (fun W => length_any (s.n 4) (s.n 5) (0) W b4.1 b4.2 b5.1 b5.2)
  have C2 := Lib.hid (fun W => length_any (s.n 6) (s.n 7) (0) W b6.1 b6.2 b7.1 b7.2)
  have C3 := Lib.hid (fun W => length_any (s.n 44) (s.n 45) (0) W b44.1 b44.2 b45.1 b45.2)
  generalize lengthB (s.n 2) (s.n 3) 0 = q0 at *
  generalize lengthB (s.n 4) (s.n 5) 0 = q1 at *
  generalize lengthB (s.n 6) (s.n 7) 0 = q2 at *
  generalize lengthB (s.n 44) (s.n 45) 0 = q3 at *
  go_enter Try.func45, Try.ntmps45
  go_wp2_with fail
  refine (C0.out _).mono ?_; rintro e w1 ⟨rfl, hg1⟩
  have hG1 := hg1
  obtain ⟨hc, hf⟩ := sty_cells2 hG1
  simp only [World.size_alloc] at hc hf
  cases q0 with
  | false =>
    go_wp2
    go_ret
    exact ⟨by rw [hv.out]; rfl, grown_trans (World.grownBy_alloc _ _ _) hG1⟩
  | true =>
    go_wp2_with fail
    refine (C1.out _).mono ?_; rintro e w2 ⟨rfl, hg2⟩
    have hG2 := grown_trans hG1 hg2
    clear hc hf
    obtain ⟨hc, hf⟩ := sty_cells2 hG2
    simp only [World.size_alloc] at hc hf
    cases q1 with
    | false =>
      go_wp2
      go_ret
      exact ⟨by rw [hv.out]; rfl, grown_trans (World.grownBy_alloc _ _ _) hG2⟩
    | true =>
      go_wp2_with fail
      refine (C2.out _).mono ?_; rintro e w3 ⟨rfl, hg3⟩
      have hG3 := grown_trans hG2 hg3
      clear hc hf
      obtain ⟨hc, hf⟩ := sty_cells2 hG3
      simp only [World.size_alloc] at hc hf
      cases q2 with
      | false =>
        go_wp2
        go_ret
        exact ⟨by rw [hv.out]; rfl, grown_trans (World.grownBy_alloc _ _ _) hG3⟩
      | true =>
        go_wp2_with fail
        refine (C3.out _).mono ?_; rintro e w4 ⟨rfl, hg4⟩
        have hG4 := grown_trans hG3 hg4
        clear hc hf
        obtain ⟨hc, hf⟩ := sty_cells2 hG4
        simp only [World.size_alloc] at hc hf
        go_wp2
        go_ret
        exact ⟨by rw [hv.out]; rfl, grown_trans (World.grownBy_alloc _ _ _) hG4⟩
set_option maxHeartbeats 1000000 in
theorem rule7_any (s : Sty) (w : World) (hs : s.ok) :
    Calls Try.prog 50 #[.agg s.cells] w fun e w' => e = .returned (.bool (r7 s)) ∧ w.grownBy w' none := by
  have b40 := Sty.b40 hs
  have b41 := Sty.b41 hs
  have b30 := Sty.b30 hs
  have b31 := Sty.b31 hs
  have k40 := s.c40
  have k41 := s.c41
  have k30 := s.c30
  have k31 := s.c31
  have hv := Lib.hid (show r7 s = (amongB (s.n 40) 0 274877906944 && (amongB (s.n 41) 0 274877906944 && (amongB (s.n 30) (-274877906944) 274877906944 && (amongB (s.n 31) (-274877906944) 274877906944)))) from rfl)
  have C0 := Lib.hid (fun W => among_any (s.n 40) (0) (274877906944) W b40.1 b40.2)
  have C1 := Lib.hid (fun W => among_any (s.n 41) (0) (274877906944) W b41.1 b41.2)
  have C2 := Lib.hid (fun W => among_any (s.n 30) (-274877906944) (274877906944) W b30.1 b30.2)
  have C3 := Lib.hid (fun W => among_any (s.n 31) (-274877906944) (274877906944) W b31.1 b31.2)
  generalize amongB (s.n 40) 0 274877906944 = q0 at *
  generalize amongB (s.n 41) 0 274877906944 = q1 at *
  generalize amongB (s.n 30) (-274877906944) 274877906944 = q2 at *
  generalize amongB (s.n 31) (-274877906944) 274877906944 = q3 at *
  go_enter Try.func50, Try.ntmps50
  go_wp2_with fail
  refine (C0.out _).mono ?_; rintro e w1 ⟨rfl, rfl⟩
  cases q0 with
  | false =>
    go_wp2
    go_ret
    exact ⟨by rw [hv.out]; rfl, World.grownBy_alloc _ _ _⟩
  | true =>
    go_wp2_with fail
    refine (C1.out _).mono ?_; rintro e w2 ⟨rfl, rfl⟩
    cases q1 with
    | false =>
      go_wp2
      go_ret
      exact ⟨by rw [hv.out]; rfl, World.grownBy_alloc _ _ _⟩
    | true =>
      go_wp2_with fail
      refine (C2.out _).mono ?_; rintro e w3 ⟨rfl, rfl⟩
      cases q2 with
      | false =>
        go_wp2
        go_ret
        exact ⟨by rw [hv.out]; rfl, World.grownBy_alloc _ _ _⟩
      | true =>
        go_wp2_with fail
        refine (C3.out _).mono ?_; rintro e w4 ⟨rfl, rfl⟩
        go_wp2
        go_ret
        exact ⟨by rw [hv.out]; rfl, World.grownBy_alloc _ _ _⟩
set_option maxHeartbeats 1000000 in
theorem rule8_any (s : Sty) (w : World) (hs : s.ok) :
    Calls Try.prog 51 #[.agg s.cells] w fun e w' => e = .returned (.bool (r8 s)) ∧ w.grownBy w' none := by
  have b32 := Sty.b32 hs
  have b46 := Sty.b46 hs
  have k32 := s.c32
  have k46 := s.c46
  have hv := Lib.hid (show r8 s = (amongB (s.n 32) 0 1000 && (amongB (s.n 46) (-1000) 1000)) from rfl)
  have C0 := Lib.hid (fun W => among_any (s.n 32) (0) (1000) W b32.1 b32.2)
  have C1 := Lib.hid (fun W => among_any (s.n 46) (-1000) (1000) W b46.1 b46.2)
  generalize amongB (s.n 32) 0 1000 = q0 at *
  generalize amongB (s.n 46) (-1000) 1000 = q1 at *
  go_enter Try.func51, Try.ntmps51
  go_wp2_with fail
  refine (C0.out _).mono ?_; rintro e w1 ⟨rfl, rfl⟩
  cases q0 with
  | false =>
    go_wp2
    go_ret
    exact ⟨by rw [hv.out]; rfl, World.grownBy_alloc _ _ _⟩
  | true =>
    go_wp2_with fail
    refine (C1.out _).mono ?_; rintro e w2 ⟨rfl, rfl⟩
    go_wp2
    go_ret
    exact ⟨by rw [hv.out]; rfl, World.grownBy_alloc _ _ _⟩
set_option maxHeartbeats 1000000 in
theorem rule9_any (s : Sty) (w : World) (hs : s.ok) :
    Calls Try.prog 52 #[.agg s.cells] w fun e w' => e = .returned (.bool (r9 s)) ∧ w.grownBy w' none := by
  have b42 := Sty.b42 hs
  have b43 := Sty.b43 hs
  have k42 := s.c42
  have k43 := s.c43
  have hv := Lib.hid (show r9 s = (amongB (s.n 42) 0 1000 && (amongB (s.n 43) 0 1000)) from rfl)
  have C0 := Lib.hid (fun W => among_any (s.n 42) (0) (1000) W b42.1 b42.2)
  have C1 := Lib.hid (fun W => among_any (s.n 43) (0) (1000) W b43.1 b43.2)
  generalize amongB (s.n 42) 0 1000 = q0 at *
  generalize amongB (s.n 43) 0 1000 = q1 at *
  go_enter Try.func52, Try.ntmps52
  go_wp2_with fail
  refine (C0.out _).mono ?_; rintro e w1 ⟨rfl, rfl⟩
  cases q0 with
  | false =>
    go_wp2
    go_ret
    exact ⟨by rw [hv.out]; rfl, World.grownBy_alloc _ _ _⟩
  | true =>
    go_wp2_with fail
    refine (C1.out _).mono ?_; rintro e w2 ⟨rfl, rfl⟩
    go_wp2
    go_ret
    exact ⟨by rw [hv.out]; rfl, World.grownBy_alloc _ _ _⟩
end Go.Proofs.Ytjnbfgogmhfbiaa
