/- The walk of StyleSizes (printed by gen_wz2.py). -/
import Derived.Test.YtkpfhhfecjeflaaSi
namespace Go.Proofs.Ytkpfhhfecjeflaa
open Go Go.RowKit
theorem ints {n : Int} (h : (Lit.int .i64 n).wf = true) : -9223372036854775808 ≤ n ∧ n ≤ 9223372036854775807 := swf_i64 h
set_option maxHeartbeats 4000000 in
set_option maxRecDepth 100000 in
theorem StyleSizes_walk (w : World) (cs : List Value) (ok : OkAll styL cs) (of : Int) (wo : (Lit.int .i64 of).wf = true) :
    Calls Try.prog 8 #[.agg ⟨cs⟩, .int .i64 of] w fun e w' => e = .returned (.bool true) ∧ Below w.heap.size w w' := by
  obtain ⟨s, hs, rfl⟩ := Sty.open ok
  have ho := ints wo
  clear wo ok
  show Calls Try.prog 8 #[.agg s.cells, .int .i64 of] w _
  have C0 := Lib.hid (fun W => width_any s of W hs ho)
  have C1 := Lib.hid (fun W => rwidth_any s of W hs ho)
  have C2 := Lib.hid (fun W => height_any s W hs)
  have C3 := Lib.hid (fun W => rheight_any s W hs)
  have C4 := Lib.hid (fun W => widths_any s of W hs ho)
  have C5 := Lib.hid (fun W => rwidths_any s of W hs ho)
  have C6 := Lib.hid (fun W => heights_any s W hs)
  have C7 := Lib.hid (fun W => rheights_any s W hs)
  generalize widthV s of = g0 at *
  obtain ⟨a0, b0, c0⟩ := g0
  unfold Got.val at C0 C1
  dsimp only at C0 C1
  generalize heightV s = g1 at *
  obtain ⟨a1, b1, c1⟩ := g1
  unfold Got.val at C2 C3
  dsimp only at C2 C3
  generalize widthsV s of = g2 at *
  obtain ⟨a2, b2, c2⟩ := g2
  unfold Three.val at C4 C5
  dsimp only at C4 C5
  generalize heightsV s = g3 at *
  obtain ⟨a3, b3, c3⟩ := g3
  unfold Three.val at C6 C7
  dsimp only at C6 C7
  go_enter Try.func8, Try.ntmps8
  have hh := Held.new w s
  have hg := World.grownBy_alloc w (.cells s.cells 33) none
  go_wp2_with (refine load_sty hh rfl _ rfl rfl ?_)
  refine (C0.out _).mono ?_; rintro e w1 ⟨rfl, hx⟩
  replace hh := hh.grown hx
  replace hg := grown_trans hg hx
  clear hx
  go_wp2_with (refine load_sty hh rfl _ rfl rfl ?_)
  refine (C1.out _).mono ?_; rintro e w2 ⟨rfl, hx⟩
  replace hh := hh.grown hx
  replace hg := grown_trans hg hx
  clear hx
  go_wp2_with (refine load_sty hh rfl _ rfl rfl ?_)
  refine (C2.out _).mono ?_; rintro e w3 ⟨rfl, hx⟩
  replace hh := hh.grown hx
  replace hg := grown_trans hg hx
  clear hx
  go_wp2_with (refine load_sty hh rfl _ rfl rfl ?_)
  refine (C3.out _).mono ?_; rintro e w4 ⟨rfl, hx⟩
  replace hh := hh.grown hx
  replace hg := grown_trans hg hx
  clear hx
  go_wp2_with (refine load_sty hh rfl _ rfl rfl ?_)
  refine (C4.out _).mono ?_; rintro e w5 ⟨rfl, hx⟩
  replace hh := hh.grown hx
  replace hg := grown_trans hg hx
  clear hx
  go_wp2_with (refine load_sty hh rfl _ rfl rfl ?_)
  refine (C5.out _).mono ?_; rintro e w6 ⟨rfl, hx⟩
  replace hh := hh.grown hx
  replace hg := grown_trans hg hx
  clear hx
  go_wp2_with (refine load_sty hh rfl _ rfl rfl ?_)
  refine (C6.out _).mono ?_; rintro e w7 ⟨rfl, hx⟩
  replace hh := hh.grown hx
  replace hg := grown_trans hg hx
  clear hx
  go_wp2_with (refine load_sty hh rfl _ rfl rfl ?_)
  refine (C7.out _).mono ?_; rintro e w8 ⟨rfl, hx⟩
  replace hh := hh.grown hx
  replace hg := grown_trans hg hx
  clear hx
  go_wp2
  go_ret
  exact ⟨rfl, grown_below hg⟩
end Go.Proofs.Ytkpfhhfecjeflaa
