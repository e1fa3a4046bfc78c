/- The walks of style's rules 5 and 6 (printed by gen_r56.py). -/
import Derived.Test.YtjnbfgogmhfbiaaSr
namespace Go.Proofs.Ytjnbfgogmhfbiaa
open Go Go.RowKit
set_option maxHeartbeats 4000000 in
set_option maxRecDepth 100000 in
theorem rule6_any (s : Sty) (w : World) (hs : s.ok) :
    Calls Try.prog 48 #[.agg s.cells] w fun e w' => e = .returned (.bool (r6 s)) ∧ w.grownBy w' none := by
  have b14 := Sty.b14 hs
  have b15 := Sty.b15 hs
  have b16 := Sty.b16 hs
  have b17 := Sty.b17 hs
  have b18 := Sty.b18 hs
  have b19 := Sty.b19 hs
  have b20 := Sty.b20 hs
  have b21 := Sty.b21 hs
  have b22 := Sty.b22 hs
  have b23 := Sty.b23 hs
  have b24 := Sty.b24 hs
  have b25 := Sty.b25 hs
  have b26 := Sty.b26 hs
  have b27 := Sty.b27 hs
  have b28 := Sty.b28 hs
  have b29 := Sty.b29 hs
  have k14 := s.c14
  have k15 := s.c15
  have k16 := s.c16
  have k17 := s.c17
  have k18 := s.c18
  have k19 := s.c19
  have k20 := s.c20
  have k21 := s.c21
  have k22 := s.c22
  have k23 := s.c23
  have k24 := s.c24
  have k25 := s.c25
  have k26 := s.c26
  have k27 := s.c27
  have k28 := s.c28
  have k29 := s.c29
  have hv := Lib.hid (show r6 s = ((lengthB (s.n 14) (s.n 15) (-274877906944) && (amongB (s.n 22) 0 274877906944 && amongB (s.n 26) 0 274877906944)) && ((lengthB (s.n 16) (s.n 17) (-274877906944) && (amongB (s.n 23) 0 274877906944 && amongB (s.n 27) 0 274877906944)) && ((lengthB (s.n 18) (s.n 19) (-274877906944) && (amongB (s.n 24) 0 274877906944 && amongB (s.n 28) 0 274877906944)) && ((lengthB (s.n 20) (s.n 21) (-274877906944) && (amongB (s.n 25) 0 274877906944 && amongB (s.n 29) 0 274877906944)))))) from rfl)
  have CL0 := Lib.hid (fun W => length_any (s.n 14) (s.n 15) (-274877906944) W b14.1 b14.2 b15.1 b15.2)
  have CP0 := Lib.hid (fun W => among_any (s.n 22) 0 274877906944 W b22.1 b22.2)
  have CB0 := Lib.hid (fun W => among_any (s.n 26) 0 274877906944 W b26.1 b26.2)
  have CL1 := Lib.hid (fun W => length_any (s.n 16) (s.n 17) (-274877906944) W b16.1 b16.2 b17.1 b17.2)
  have CP1 := Lib.hid (fun W => among_any (s.n 23) 0 274877906944 W b23.1 b23.2)
  have CB1 := Lib.hid (fun W => among_any (s.n 27) 0 274877906944 W b27.1 b27.2)
  have CL2 := Lib.hid (fun W => length_any (s.n 18) (s.n 19) (-274877906944) W b18.1 b18.2 b19.1 b19.2)
  have CP2 := Lib.hid (fun W => among_any (s.n 24) 0 274877906944 W b24.1 b24.2)
  have CB2 := Lib.hid (fun W => among_any (s.n 28) 0 274877906944 W b28.1 b28.2)
  have CL3 := Lib.hid (fun W => length_any (s.n 20) (s.n 21) (-274877906944) W b20.1 b20.2 b21.1 b21.2)
  have CP3 := Lib.hid (fun W => among_any (s.n 25) 0 274877906944 W b25.1 b25.2)
  have CB3 := Lib.hid (fun W => among_any (s.n 29) 0 274877906944 W b29.1 b29.2)
  generalize lengthB (s.n 14) (s.n 15) (-274877906944) = l0 at *
  generalize amongB (s.n 22) 0 274877906944 = p0 at *
  generalize amongB (s.n 26) 0 274877906944 = q0 at *
  generalize lengthB (s.n 16) (s.n 17) (-274877906944) = l1 at *
  generalize amongB (s.n 23) 0 274877906944 = p1 at *
  generalize amongB (s.n 27) 0 274877906944 = q1 at *
  generalize lengthB (s.n 18) (s.n 19) (-274877906944) = l2 at *
  generalize amongB (s.n 24) 0 274877906944 = p2 at *
  generalize amongB (s.n 28) 0 274877906944 = q2 at *
  generalize lengthB (s.n 20) (s.n 21) (-274877906944) = l3 at *
  generalize amongB (s.n 25) 0 274877906944 = p3 at *
  generalize amongB (s.n 29) 0 274877906944 = q3 at *
  go_enter Try.func48, Try.ntmps48
  go_wp2_with fail
  refine wp_loop_rounds 5 ?_
  rw [rounds_succ]
  go_wp2_with fail
  refine (CL0.out _).mono ?_; rintro e w1 ⟨rfl, hg1⟩
  have hG1 := hg1
  obtain ⟨hc, hf⟩ := sty_cells2 hG1
  simp only [World.size_alloc] at hc hf
  cases l0 with
  | false =>
    go_wp2
    go_ret
    exact ⟨ret_b (by rw [hv.out]; simp), grown_trans (World.grownBy_alloc _ _ _) hG1⟩
  | true =>
    go_wp2_with fail
    refine (CP0.out _).mono ?_; rintro e w0 ⟨rfl, rfl⟩
    cases p0 with
    | false =>
      go_wp2
      go_ret
      exact ⟨ret_b (by rw [hv.out]; simp), grown_trans (World.grownBy_alloc _ _ _) hG1⟩
    | true =>
      go_wp2_with fail
      refine (CB0.out _).mono ?_; rintro e w0 ⟨rfl, rfl⟩
      cases q0 with
      | false =>
        go_wp2
        go_ret
        exact ⟨ret_b (by rw [hv.out]; simp), grown_trans (World.grownBy_alloc _ _ _) hG1⟩
      | true =>
        go_wp2_with fail
        rw [rounds_succ]
        go_wp2_with fail
        refine (CL1.out _).mono ?_; rintro e w2 ⟨rfl, hg2⟩
        have hG2 := grown_trans hG1 hg2
        clear hc hf
        obtain ⟨hc, hf⟩ := sty_cells2 hG2
        simp only [World.size_alloc] at hc hf
        cases l1 with
        | false =>
          go_wp2
          go_ret
          exact ⟨ret_b (by rw [hv.out]; simp), grown_trans (World.grownBy_alloc _ _ _) hG2⟩
        | true =>
          go_wp2_with fail
          refine (CP1.out _).mono ?_; rintro e w0 ⟨rfl, rfl⟩
          cases p1 with
          | false =>
            go_wp2
            go_ret
            exact ⟨ret_b (by rw [hv.out]; simp), grown_trans (World.grownBy_alloc _ _ _) hG2⟩
          | true =>
            go_wp2_with fail
            refine (CB1.out _).mono ?_; rintro e w0 ⟨rfl, rfl⟩
            cases q1 with
            | false =>
              go_wp2
              go_ret
              exact ⟨ret_b (by rw [hv.out]; simp), grown_trans (World.grownBy_alloc _ _ _) hG2⟩
            | true =>
              go_wp2_with fail
              rw [rounds_succ]
              go_wp2_with fail
              refine (CL2.out _).mono ?_; rintro e w3 ⟨rfl, hg3⟩
              have hG3 := grown_trans hG2 hg3
              clear hc hf
              obtain ⟨hc, hf⟩ := sty_cells2 hG3
              simp only [World.size_alloc] at hc hf
              cases l2 with
              | false =>
                go_wp2
                go_ret
                exact ⟨ret_b (by rw [hv.out]; simp), grown_trans (World.grownBy_alloc _ _ _) hG3⟩
              | true =>
                go_wp2_with fail
                refine (CP2.out _).mono ?_; rintro e w0 ⟨rfl, rfl⟩
                cases p2 with
                | false =>
                  go_wp2
                  go_ret
                  exact ⟨ret_b (by rw [hv.out]; simp), grown_trans (World.grownBy_alloc _ _ _) hG3⟩
                | true =>
                  go_wp2_with fail
                  refine (CB2.out _).mono ?_; rintro e w0 ⟨rfl, rfl⟩
                  cases q2 with
                  | false =>
                    go_wp2
                    go_ret
                    exact ⟨ret_b (by rw [hv.out]; simp), grown_trans (World.grownBy_alloc _ _ _) hG3⟩
                  | true =>
                    go_wp2_with fail
                    rw [rounds_succ]
                    go_wp2_with fail
                    refine (CL3.out _).mono ?_; rintro e w4 ⟨rfl, hg4⟩
                    have hG4 := grown_trans hG3 hg4
                    clear hc hf
                    obtain ⟨hc, hf⟩ := sty_cells2 hG4
                    simp only [World.size_alloc] at hc hf
                    cases l3 with
                    | false =>
                      go_wp2
                      go_ret
                      exact ⟨ret_b (by rw [hv.out]; simp), grown_trans (World.grownBy_alloc _ _ _) hG4⟩
                    | true =>
                      go_wp2_with fail
                      refine (CP3.out _).mono ?_; rintro e w0 ⟨rfl, rfl⟩
                      cases p3 with
                      | false =>
                        go_wp2
                        go_ret
                        exact ⟨ret_b (by rw [hv.out]; simp), grown_trans (World.grownBy_alloc _ _ _) hG4⟩
                      | true =>
                        go_wp2_with fail
                        refine (CB3.out _).mono ?_; rintro e w0 ⟨rfl, rfl⟩
                        cases q3 with
                        | false =>
                          go_wp2
                          go_ret
                          exact ⟨ret_b (by rw [hv.out]; simp), grown_trans (World.grownBy_alloc _ _ _) hG4⟩
                        | true =>
                          go_wp2_with fail
                          rw [rounds_succ]
                          go_wp2
                          go_ret
                          exact ⟨ret_b (by rw [hv.out]; rfl), grown_trans (World.grownBy_alloc _ _ _) hG4⟩
set_option maxHeartbeats 4000000 in
set_option maxRecDepth 100000 in
theorem rule5_any (s : Sty) (w : World) (hs : s.ok) :
    Calls Try.prog 47 #[.agg s.cells] w fun e w' => e = .returned (.bool (r5 s)) ∧ w.grownBy w' none := by
  have b8 := Sty.b8 hs
  have k8 := s.c8
  have b9 := Sty.b9 hs
  have k9 := s.c9
  have b10 := Sty.b10 hs
  have k10 := s.c10
  have b11 := Sty.b11 hs
  have k11 := s.c11
  have b12 := Sty.b12 hs
  have k12 := s.c12
  have b13 := Sty.b13 hs
  have k13 := s.c13
  have C0 := Lib.hid (fun W => length_any (s.n 8) (s.n 9) 0 W b8.1 b8.2 b9.1 b9.2)
  have C1 := Lib.hid (fun W => length_any (s.n 10) (s.n 11) 0 W b10.1 b10.2 b11.1 b11.2)
  have C2 := Lib.hid (fun W => length_any (s.n 12) (s.n 13) 0 W b12.1 b12.2 b13.1 b13.2)
  have hv := Lib.hid (show r5 s = ((!decide (s.n 8 = 2) && lengthB (s.n 8) (s.n 9) 0) && ((!decide (s.n 10 = 2) && lengthB (s.n 10) (s.n 11) 0) && ((!decide (s.n 12 = 2) && lengthB (s.n 12) (s.n 13) 0)))) from rfl)
  generalize lengthB (s.n 8) (s.n 9) 0 = l0 at *
  generalize lengthB (s.n 10) (s.n 11) 0 = l1 at *
  generalize lengthB (s.n 12) (s.n 13) 0 = l2 at *
  generalize s.n 8 = x0 at *
  generalize s.n 10 = x1 at *
  generalize s.n 12 = x2 at *
  go_enter Try.func47, Try.ntmps47
  go_wp2_with fail
  refine wp_loop_rounds 4 ?_
  rw [rounds_succ]
  by_cases d0 : x0 = 2
  · subst d0
    go_wp2
    go_ret
    exact ⟨ret_b (by rw [hv.out]; simp), grown_trans (World.grownBy_alloc _ _ _) (grown_trans (World.grownBy_alloc _ _ _) (World.grownBy_alloc _ _ _))⟩
  have d0' : (x0 == 2) = false := by simp [d0]
  go_wp2_with fail
  refine (C0.out _).mono ?_; rintro e w1 ⟨rfl, hg1⟩
  have hG1 : w.grownBy w1 none := grown_trans (grown_trans (World.grownBy_alloc _ _ _) (grown_trans (World.grownBy_alloc _ _ _) (World.grownBy_alloc _ _ _))) hg1
  have HG1 := grown_trans (World.grownBy_alloc _ _ _) hg1
  obtain ⟨hc, hf⟩ := sty_cells2 HG1
  have hs1 := hg1.size
  simp only [World.size_alloc] at hc hf hs1
  have hs1' : w.heap.size + 1 < w1.heap.size := by omega
  cases l0 with
  | false =>
    go_wp2
    go_ret
    exact ⟨ret_b (by rw [hv.out]; simp), hG1⟩
  | true =>
    go_wp2_with fail
    rw [rounds_succ]
    by_cases d1 : x1 = 2
    · subst d1
      go_wp2
      go_ret
      exact ⟨ret_b (by rw [hv.out]; simp), grown_trans hG1 (World.grownBy_alloc _ _ _)⟩
    have d1' : (x1 == 2) = false := by simp [d1]
    go_wp2_with fail
    refine (C1.out _).mono ?_; rintro e w2 ⟨rfl, hg2⟩
    have hG2 : w.grownBy w2 none := grown_trans (grown_trans hG1 (World.grownBy_alloc _ _ _)) hg2
    have HG2 := grown_trans (grown_trans HG1 (World.grownBy_alloc _ _ _)) hg2
    clear hc hf
    obtain ⟨hc, hf⟩ := sty_cells2 HG2
    have hs2 := hg2.size
    simp only [World.size_alloc] at hc hf hs2
    have hs2' : w.heap.size + 1 < w2.heap.size := by omega
    cases l1 with
    | false =>
      go_wp2
      go_ret
      exact ⟨ret_b (by rw [hv.out]; simp), hG2⟩
    | true =>
      go_wp2_with fail
      rw [rounds_succ]
      by_cases d2 : x2 = 2
      · subst d2
        go_wp2
        go_ret
        exact ⟨ret_b (by rw [hv.out]; simp), grown_trans hG2 (World.grownBy_alloc _ _ _)⟩
      have d2' : (x2 == 2) = false := by simp [d2]
      go_wp2_with fail
      refine (C2.out _).mono ?_; rintro e w3 ⟨rfl, hg3⟩
      have hG3 : w.grownBy w3 none := grown_trans (grown_trans hG2 (World.grownBy_alloc _ _ _)) hg3
      have HG3 := grown_trans (grown_trans HG2 (World.grownBy_alloc _ _ _)) hg3
      clear hc hf
      obtain ⟨hc, hf⟩ := sty_cells2 HG3
      have hs3 := hg3.size
      simp only [World.size_alloc] at hc hf hs3
      have hs3' : w.heap.size + 1 < w3.heap.size := by omega
      cases l2 with
      | false =>
        go_wp2
        go_ret
        exact ⟨ret_b (by rw [hv.out]; simp), hG3⟩
      | true =>
        go_wp2_with fail
        rw [rounds_succ]
        go_wp2
        go_ret
        exact ⟨ret_b (by rw [hv.out]; simp [*]), hG3⟩
end Go.Proofs.Ytjnbfgogmhfbiaa
