/- style.Height, Heights, Font. -/
import Derived.Test.YtkpfhhfecjeflaaSe
namespace Go.Proofs.Ytkpfhhfecjeflaa
open Go Go.RowKit
def heightV (s : Sty) : Got := if mayB s then contV (s.b 1) (s.n 8) (s.n 9) 0 (upV s) else ⟨0, false, 60⟩
def heightsV (s : Sty) : Three := if mayB s then limV (s.b 1) (s.n 10) (s.n 11) (s.n 12) (s.n 13) 0 (upV s) else ⟨0, 0, 60⟩
def fontV (s : Sty) (around : Int) : Int := if s.n 32 = 0 then around else s.n 32
set_option maxHeartbeats 1000000 in
theorem height_any (s : Sty) (w : World) (hs : s.ok) :
    Calls Try.prog 22 #[.agg s.cells] w fun e w' => e = .returned (heightV s).val ∧ w.grownBy w' none := by
  have CE := Lib.hid (fun W => edges_any s W hs)
  cases hm : mayB s with
  | true =>
    have hv := Lib.hid (show heightV s = contV (s.b 1) (s.n 8) (s.n 9) 0 (upV s) by unfold heightV; rw [if_pos hm])
    have he : edgesV s = .tuple #[.int .i64 (acrossV s), .int .i64 (upV s), .int .i64 0] := by unfold edgesV; rw [if_pos hm]
    rw [he] at CE
    have CC := Lib.hid (fun W => content_any s (s.n 8) (s.n 9) 0 (upV s) W (Sty.b8 hs) (Sty.b9 hs) (by omega) (upV_bounds hm))
    have c8 := s.c8
    have c9 := s.c9
    generalize contV (s.b 1) (s.n 8) (s.n 9) 0 (upV s) = g at *
    obtain ⟨m, is, er⟩ := g
    unfold Got.val at CC
    unfold len2 at CC
    dsimp only at CC
    clear he hm
    generalize acrossV s = ac at *
    generalize upV s = up at *
    go_enter Try.func22, Try.ntmps22
    have hh := Held.new w s
    go_wp2_with (refine load_sty hh rfl _ rfl rfl ?_)
    refine (CE.out _).mono ?_; rintro e w1 ⟨rfl, hx⟩
    have hG : w.grownBy w1 none := grown_trans (World.grownBy_alloc _ _ _) hx
    have hh1 := hh.grown hx
    have k8 := (hh1.at 8).trans c8
    have k9 := (hh1.at 9).trans c9
    clear hh hx
    go_wp2_with (refine load_sty hh1 rfl _ rfl rfl ?_)
    refine (CC.out _).mono ?_; rintro e w2 ⟨rfl, hx⟩
    go_wp2
    go_ret3
    exact ⟨by rw [hv.out]; rfl, grown_trans hG hx⟩
  | false =>
    have hv := Lib.hid (show heightV s = ⟨0, false, 60⟩ by unfold heightV; rw [if_neg (by simp [hm])])
    have he : edgesV s = .tuple #[.int .i64 0, .int .i64 0, .int .i64 60] := by unfold edgesV; rw [if_neg (by simp [hm])]
    rw [he] at CE
    clear he hm
    go_enter Try.func22, Try.ntmps22
    have hh := Held.new w s
    go_wp2_with (refine load_sty hh rfl _ rfl rfl ?_)
    refine (CE.out _).mono ?_; rintro e w1 ⟨rfl, hx⟩
    go_wp2
    go_ret3
    exact ⟨by rw [hv.out]; rfl, grown_trans (World.grownBy_alloc _ _ _) hx⟩
set_option maxHeartbeats 1000000 in
theorem heights_any (s : Sty) (w : World) (hs : s.ok) :
    Calls Try.prog 26 #[.agg s.cells] w fun e w' => e = .returned (heightsV s).val ∧ w.grownBy w' none := by
  have CE := Lib.hid (fun W => edges_any s W hs)
  cases hm : mayB s with
  | true =>
    have hv := Lib.hid (show heightsV s = limV (s.b 1) (s.n 10) (s.n 11) (s.n 12) (s.n 13) 0 (upV s) by unfold heightsV; rw [if_pos hm])
    have he : edgesV s = .tuple #[.int .i64 (acrossV s), .int .i64 (upV s), .int .i64 0] := by unfold edgesV; rw [if_pos hm]
    rw [he] at CE
    have CC := Lib.hid (fun W => limits_any s (s.n 10) (s.n 11) (s.n 12) (s.n 13) 0 (upV s) W (Sty.b10 hs) (Sty.b11 hs) (Sty.b12 hs) (Sty.b13 hs) (by omega) (upV_bounds hm))
    have c10 := s.c10
    have c11 := s.c11
    have c12 := s.c12
    have c13 := s.c13
    generalize limV (s.b 1) (s.n 10) (s.n 11) (s.n 12) (s.n 13) 0 (upV s) = g at *
    obtain ⟨m, is, er⟩ := g
    unfold Three.val at CC
    unfold len2 at CC
    dsimp only at CC
    clear he hm
    generalize acrossV s = ac at *
    generalize upV s = up at *
    go_enter Try.func26, Try.ntmps26
    have hh := Held.new w s
    go_wp2_with (refine load_sty hh rfl _ rfl rfl ?_)
    refine (CE.out _).mono ?_; rintro e w1 ⟨rfl, hx⟩
    have hG : w.grownBy w1 none := grown_trans (World.grownBy_alloc _ _ _) hx
    have hh1 := hh.grown hx
    have k10 := (hh1.at 10).trans c10
    have k11 := (hh1.at 11).trans c11
    have k12 := (hh1.at 12).trans c12
    have k13 := (hh1.at 13).trans c13
    clear hh hx
    go_wp2_with (refine load_sty hh1 rfl _ rfl rfl ?_)
    refine (CC.out _).mono ?_; rintro e w2 ⟨rfl, hx⟩
    go_wp2
    go_ret3
    exact ⟨by rw [hv.out]; rfl, grown_trans hG hx⟩
  | false =>
    have hv := Lib.hid (show heightsV s = ⟨0, 0, 60⟩ by unfold heightsV; rw [if_neg (by simp [hm])])
    have he : edgesV s = .tuple #[.int .i64 0, .int .i64 0, .int .i64 60] := by unfold edgesV; rw [if_neg (by simp [hm])]
    rw [he] at CE
    clear he hm
    go_enter Try.func26, Try.ntmps26
    have hh := Held.new w s
    go_wp2_with (refine load_sty hh rfl _ rfl rfl ?_)
    refine (CE.out _).mono ?_; rintro e w1 ⟨rfl, hx⟩
    go_wp2
    go_ret3
    exact ⟨by rw [hv.out]; rfl, grown_trans (World.grownBy_alloc _ _ _) hx⟩
theorem font_any (s : Sty) (around : Int) (w : World) (hs : s.ok) :
    Calls Try.prog 15 #[.agg s.cells, .int .i64 around] w fun e w' => e = .returned (.int .i64 (fontV s around)) ∧ w.grownBy w' none := by
  have b32 := Sty.b32 hs
  have c32 := s.c32
  have hv := Lib.hid (show fontV s around = if s.n 32 = 0 then around else s.n 32 from rfl)
  generalize s.n 32 = x at *
  by_cases h0 : x = 0
  · subst h0
    go_enter Try.func15, Try.ntmps15
    go_wp2
    go_ret
    exact ⟨by rw [hv.out]; rfl, World.grownBy_alloc _ _ _⟩
  · have h0' : (x == 0) = false := by simp [h0]
    have hv2 := Lib.hid (show fontV s around = x by rw [hv.out, if_neg h0])
    clear h0
    go_enter Try.func15, Try.ntmps15
    go_wp2
    go_ret
    exact ⟨by rw [hv2.out]; rfl, World.grownBy_alloc _ _ _⟩
end Go.Proofs.Ytkpfhhfecjeflaa
