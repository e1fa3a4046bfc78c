/- The document's Edges, content, between, Width, Widths (printed by gen_ref2.py). -/
import Derived.Test.YtjaeoaebkkmaaaaSf
namespace Go.Proofs.Ytjaeoaebkkmaaaa
open Go Go.RowKit
set_option linter.unusedSimpArgs false
theorem resV_is {k n of : Int} (h : (resV k n of).is = true) : (resV k n of).e = 0 := by
  unfold resV at *
  split at h
  · rename_i h1
    rw [if_pos h1]
    split at h
    · simp at h
    · rename_i h2; rw [if_neg h2]
  · rename_i h1
    rw [if_neg h1]
    split at h
    · rename_i h2; rw [if_pos h2]; simpa using h
    · simp at h
theorem tup2 {a b c d : Int} (h1 : a = c) (h2 : b = d) : Ending.returned (.tuple #[.int .i64 a, .int .i64 b]) = .returned (.tuple #[.int .i64 c, .int .i64 d]) := by rw [h1, h2]
set_option maxHeartbeats 2000000 in
set_option maxRecDepth 100000 in
theorem redges_yes (s : Sty) (w : World) (hm : mayB s = true) :
    Calls Try.prog 29 #[.agg s.cells] w fun e w' => e = .returned (.tuple #[.int .i64 (acrossV s), .int .i64 (upV s)]) ∧ w.grownBy w' none := by
  obtain ⟨b22, b23, b24, b25, b26, b27, b28, b29⟩ := Pads.of hm
  have ha := Lib.hid (show s.n 25 + s.n 23 + s.n 29 + s.n 27 = acrossV s by unfold acrossV; omega)
  have hu := Lib.hid (show s.n 22 + s.n 24 + s.n 26 + s.n 28 = upV s by unfold upV; omega)
  clear hm
  have j22 := s.c22
  generalize s.n 22 = x22 at *
  have j23 := s.c23
  generalize s.n 23 = x23 at *
  have j24 := s.c24
  generalize s.n 24 = x24 at *
  have j25 := s.c25
  generalize s.n 25 = x25 at *
  have j26 := s.c26
  generalize s.n 26 = x26 at *
  have j27 := s.c27
  generalize s.n 27 = x27 at *
  have j28 := s.c28
  generalize s.n 28 = x28 at *
  have j29 := s.c29
  generalize s.n 29 = x29 at *
  go_enter Try.func29, Try.ntmps29
  go_wp2
  have hh := Held.new w s
  have k22 := (hh.at 22).trans j22
  clear j22
  have k23 := (hh.at 23).trans j23
  clear j23
  have k24 := (hh.at 24).trans j24
  clear j24
  have k25 := (hh.at 25).trans j25
  clear j25
  have k26 := (hh.at 26).trans j26
  clear j26
  have k27 := (hh.at 27).trans j27
  clear j27
  have k28 := (hh.at 28).trans j28
  clear j28
  have k29 := (hh.at 29).trans j29
  clear j29
  have hg := World.grownBy_alloc w (.cells s.cells 39) none
  generalize (w.alloc (.cells s.cells 39)) = W at *
  generalize w.heap.size = B at *
  clear hh
  go_quiet (fail)
  go_wp2
  go_ret2
  exact ⟨tup2 ha.out hu.out, grown_drewN hg _⟩
set_option maxHeartbeats 1000000 in
theorem rcontent_any (s : Sty) (k n of ed : Int) (w : World) (k1 : 0 ≤ k ∧ k ≤ 255) (h1 : -9223372036854775808 ≤ n ∧ n ≤ 9223372036854775807) (h3 : -9223372036854775808 ≤ of ∧ of ≤ 9223372036854775807) (he : 0 ≤ ed ∧ ed ≤ 1099511627776) :
    Calls Try.prog 44 #[.agg s.cells, len2 k n, .int .i64 of, .int .i64 ed] w fun e w' => e = .returned (contV (s.b 1) k n of ed).val ∧ w.grownBy w' none := by
  have CR := Lib.hid (fun W => rresolve_any k n of W k1.1 k1.2 h1.1 h1.2 h3.1 h3.2)
  have hb := resV_bound k n of
  have hz : (resV k n of).is = true → (resV k n of).e = 0 := resV_is
  have hv := Lib.hid (show contV (s.b 1) k n of ed = if (resV k n of).is && (s.b 1) then ⟨max 0 ((resV k n of).n - ed), (resV k n of).is, (resV k n of).e⟩ else resV k n of from rfl)
  have c1 := s.c1
  generalize resV k n of = g at *
  generalize s.b 1 = wh at *
  obtain ⟨m, is, er⟩ := g
  unfold Got.val at CR
  unfold len2 at *
  dsimp only at hb CR hz
  clear k1 h1 h3
  cases is with
  | false =>
    clear hz
    go_enter Try.func44, Try.ntmps44
    go_wp2_with fail
    refine (CR.out _).mono ?_; rintro e w1 ⟨rfl, hx⟩
    have hG : w.grownBy w1 none := grown_trans (World.grownBy_alloc _ _ _) (grown_trans (World.grownBy_alloc _ _ _) hx)
    go_wp2
    go_ret3
    exact ⟨by rw [hv.out]; rfl, hG⟩
  | true =>
    obtain rfl : er = 0 := hz rfl
    clear hz
    go_enter Try.func44, Try.ntmps44
    go_wp2_with fail
    refine (CR.out _).mono ?_; rintro e w1 ⟨rfl, hx⟩
    have hG : w.grownBy w1 none := grown_trans (World.grownBy_alloc _ _ _) (grown_trans (World.grownBy_alloc _ _ _) hx)
    have hw := (((Held.new w s).grown (World.grownBy_alloc _ (.cells #[.int .u8 k, .int .i64 n] 35) _)).grown hx).at 1 |>.trans c1
    clear hx
    cases wh with
    | false =>
      go_wp2
      go_ret3
      exact ⟨by rw [hv.out]; rfl, hG⟩
    | true =>
      by_cases h0 : m < ed
      · have hv2 := Lib.hid (show contV true k n of ed = ⟨0, true, 0⟩ by rw [hv.out]; simp; omega)
        go_wp2
        go_ret3
        exact ⟨by rw [hv2.out]; rfl, hG⟩
      · have hv2 := Lib.hid (show contV true k n of ed = ⟨m - ed, true, 0⟩ by rw [hv.out]; simp; omega)
        go_wp2
        go_ret3
        exact ⟨by rw [hv2.out]; rfl, hG⟩
set_option maxHeartbeats 1000000 in
theorem rbetween_any (s : Sty) (k1 n1 k2 n2 of ed : Int) (w : World) (hk1 : 0 ≤ k1 ∧ k1 ≤ 255) (hn1 : -9223372036854775808 ≤ n1 ∧ n1 ≤ 9223372036854775807) (hk2 : 0 ≤ k2 ∧ k2 ≤ 255) (hn2 : -9223372036854775808 ≤ n2 ∧ n2 ≤ 9223372036854775807)
    (h3 : -9223372036854775808 ≤ of ∧ of ≤ 9223372036854775807) (he : 0 ≤ ed ∧ ed ≤ 1099511627776) :
    Calls Try.prog 45 #[.agg s.cells, len2 k1 n1, len2 k2 n2, .int .i64 of, .int .i64 ed] w fun e w' => e = .returned (limV (s.b 1) k1 n1 k2 n2 of ed).val ∧ w.grownBy w' none := by
  have C1 := Lib.hid (fun W => rcontent_any s k1 n1 of ed W hk1 hn1 h3 he)
  have C2 := Lib.hid (fun W => rcontent_any s k2 n2 of ed W hk2 hn2 h3 he)
  have hv := Lib.hid (show limV (s.b 1) k1 n1 k2 n2 of ed = if (contV (s.b 1) k1 n1 of ed).e != 0 then ⟨0, 0, (contV (s.b 1) k1 n1 of ed).e⟩ else if (contV (s.b 1) k2 n2 of ed).e != 0 then ⟨0, 0, (contV (s.b 1) k2 n2 of ed).e⟩ else ⟨(contV (s.b 1) k1 n1 of ed).n, if (contV (s.b 1) k2 n2 of ed).is then (contV (s.b 1) k2 n2 of ed).n else 1099511627776, 0⟩ from rfl)
  generalize contV (s.b 1) k1 n1 of ed = g1 at *
  generalize contV (s.b 1) k2 n2 of ed = g2 at *
  obtain ⟨m1, i1, e1⟩ := g1
  obtain ⟨m2, i2, e2⟩ := g2
  unfold Got.val at C1 C2
  unfold len2 at *
  dsimp only at C1 C2
  clear hk1 hn1 hk2 hn2 h3 he
  go_enter Try.func45, Try.ntmps45
  have hh := ((Held.new w s).grown (World.grownBy_alloc _ (.cells #[.int .u8 k1, .int .i64 n1] 35) _)).grown (World.grownBy_alloc _ (.cells #[.int .u8 k2, .int .i64 n2] 35) _)
  go_wp2_with (refine load_sty hh rfl _ rfl rfl ?_)
  refine (C1.out _).mono ?_; rintro e w1 ⟨rfl, hx⟩
  have hG : w.grownBy w1 none := grown_trans (World.grownBy_alloc _ _ _) (grown_trans (World.grownBy_alloc _ _ _) (grown_trans (World.grownBy_alloc _ _ _) hx))
  have hh1 := hh.grown hx
  obtain ⟨hc, hf⟩ := sty_cells hx
  clear hx hh
  simp only [World.size_alloc] at hc hf
  by_cases z1 : e1 = 0
  · have z1' : (e1 != 0) = false := by simp [z1]
    rw [z1'] at hv
    go_wp2_with (refine load_sty hh1 rfl _ rfl rfl ?_)
    refine (C2.out _).mono ?_; rintro e w2 ⟨rfl, hx2⟩
    by_cases z2 : e2 = 0
    · have z2' : (e2 != 0) = false := by simp [z2]
      rw [z2'] at hv
      cases i2 with
      | false =>
        go_wp2
        go_ret3
        exact ⟨by rw [hv.out]; rfl, grown_trans hG hx2⟩
      | true =>
        go_wp2
        go_ret3
        exact ⟨by rw [hv.out]; rfl, grown_trans hG hx2⟩
    · have z2' : (e2 != 0) = true := by simp [z2]
      rw [z2'] at hv
      clear z2
      go_wp2
      go_ret3
      exact ⟨by rw [hv.out]; rfl, grown_trans hG hx2⟩
  · have z1' : (e1 != 0) = true := by simp [z1]
    rw [z1'] at hv
    clear z1
    go_wp2
    go_ret3
    exact ⟨by rw [hv.out]; rfl, hG⟩
set_option maxHeartbeats 1000000 in
theorem rwidth_any (s : Sty) (of : Int) (w : World) (hs : s.ok) (h3 : -9223372036854775808 ≤ of ∧ of ≤ 9223372036854775807) :
    Calls Try.prog 30 #[.agg s.cells, .int .i64 of] w fun e w' => e = .returned (widthV s of).val ∧ w.grownBy w' none := by
  have CM := Lib.hid (fun W => rmay_any s W hs)
  rw [rmay_eq hs] at CM
  cases hm : mayB s with
  | true =>
    rw [hm] at CM
    have CE := Lib.hid (fun W => redges_yes s W hm)
    have hv := Lib.hid (show widthV s of = contV (s.b 1) (s.n 2) (s.n 3) of (acrossV s) by unfold widthV; rw [if_pos hm])
    have CC := Lib.hid (fun W => rcontent_any s (s.n 2) (s.n 3) of (acrossV s) W (Sty.b2 hs) (Sty.b3 hs) h3 (acrossV_bounds hm))
    have c2 := s.c2
    have c3 := s.c3
    generalize contV (s.b 1) (s.n 2) (s.n 3) of (acrossV s) = g at *
    obtain ⟨m, is, er⟩ := g
    unfold Got.val at CC
    unfold len2 at CC
    dsimp only at CC
    clear hm h3
    generalize acrossV s = ac at *
    generalize upV s = up at *
    go_enter Try.func30, Try.ntmps30
    have hh := Held.new w s
    go_wp2_with (refine load_sty hh rfl _ rfl rfl ?_)
    refine (CM.out _).mono ?_; rintro e w1 ⟨rfl, hx⟩
    have hG : w.grownBy w1 none := grown_trans (World.grownBy_alloc _ _ _) hx
    have hh1 := hh.grown hx
    clear hh hx
    go_wp2_with (refine load_sty hh1 rfl _ rfl rfl ?_)
    refine (CE.out _).mono ?_; rintro e w2 ⟨rfl, hx⟩
    have hG2 := grown_trans hG hx
    have hh2 := hh1.grown hx
    clear hh1 hx
    have k2 := (hh2.at 2).trans c2
    have k3 := (hh2.at 3).trans c3
    go_wp2_with (refine load_sty hh2 rfl _ rfl rfl ?_)
    refine (CC.out _).mono ?_; rintro e w3 ⟨rfl, hx⟩
    go_wp2
    go_ret3
    exact ⟨by rw [hv.out]; rfl, grown_trans hG2 hx⟩
  | false =>
    rw [hm] at CM
    have hv := Lib.hid (show widthV s of = ⟨0, false, 60⟩ by unfold widthV; rw [if_neg (by simp [hm])])
    clear hm
    go_enter Try.func30, Try.ntmps30
    have hh := Held.new w s
    go_wp2_with (refine load_sty hh rfl _ rfl rfl ?_)
    refine (CM.out _).mono ?_; rintro e w1 ⟨rfl, hx⟩
    go_wp2
    go_ret3
    exact ⟨by rw [hv.out]; rfl, grown_trans (World.grownBy_alloc _ _ _) hx⟩
set_option maxHeartbeats 1000000 in
theorem rwidths_any (s : Sty) (of : Int) (w : World) (hs : s.ok) (h3 : -9223372036854775808 ≤ of ∧ of ≤ 9223372036854775807) :
    Calls Try.prog 31 #[.agg s.cells, .int .i64 of] w fun e w' => e = .returned (widthsV s of).val ∧ w.grownBy w' none := by
  have CM := Lib.hid (fun W => rmay_any s W hs)
  rw [rmay_eq hs] at CM
  cases hm : mayB s with
  | true =>
    rw [hm] at CM
    have CE := Lib.hid (fun W => redges_yes s W hm)
    have hv := Lib.hid (show widthsV s of = limV (s.b 1) (s.n 4) (s.n 5) (s.n 6) (s.n 7) of (acrossV s) by unfold widthsV; rw [if_pos hm])
    have CC := Lib.hid (fun W => rbetween_any s (s.n 4) (s.n 5) (s.n 6) (s.n 7) of (acrossV s) W (Sty.b4 hs) (Sty.b5 hs) (Sty.b6 hs) (Sty.b7 hs) h3 (acrossV_bounds hm))
    have c4 := s.c4
    have c5 := s.c5
    have c6 := s.c6
    have c7 := s.c7
    generalize limV (s.b 1) (s.n 4) (s.n 5) (s.n 6) (s.n 7) of (acrossV s) = g at *
    obtain ⟨m, is, er⟩ := g
    unfold Three.val at CC
    unfold len2 at CC
    dsimp only at CC
    clear hm h3
    generalize acrossV s = ac at *
    generalize upV s = up at *
    go_enter Try.func31, Try.ntmps31
    have hh := Held.new w s
    go_wp2_with (refine load_sty hh rfl _ rfl rfl ?_)
    refine (CM.out _).mono ?_; rintro e w1 ⟨rfl, hx⟩
    have hG : w.grownBy w1 none := grown_trans (World.grownBy_alloc _ _ _) hx
    have hh1 := hh.grown hx
    clear hh hx
    go_wp2_with (refine load_sty hh1 rfl _ rfl rfl ?_)
    refine (CE.out _).mono ?_; rintro e w2 ⟨rfl, hx⟩
    have hG2 := grown_trans hG hx
    have hh2 := hh1.grown hx
    clear hh1 hx
    have k4 := (hh2.at 4).trans c4
    have k5 := (hh2.at 5).trans c5
    have k6 := (hh2.at 6).trans c6
    have k7 := (hh2.at 7).trans c7
    go_wp2_with (refine load_sty hh2 rfl _ rfl rfl ?_)
    refine (CC.out _).mono ?_; rintro e w3 ⟨rfl, hx⟩
    go_wp2
    go_ret3
    exact ⟨by rw [hv.out]; rfl, grown_trans hG2 hx⟩
  | false =>
    rw [hm] at CM
    have hv := Lib.hid (show widthsV s of = ⟨0, 0, 60⟩ by unfold widthsV; rw [if_neg (by simp [hm])])
    clear hm
    go_enter Try.func31, Try.ntmps31
    have hh := Held.new w s
    go_wp2_with (refine load_sty hh rfl _ rfl rfl ?_)
    refine (CM.out _).mono ?_; rintro e w1 ⟨rfl, hx⟩
    go_wp2
    go_ret3
    exact ⟨by rw [hv.out]; rfl, grown_trans (World.grownBy_alloc _ _ _) hx⟩
end Go.Proofs.Ytjaeoaebkkmaaaa
