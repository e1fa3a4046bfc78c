/- awake: the walk. -/
import Derived.Test.YthbdfibolgaapaaTj
namespace Go.Proofs.Ythbdfibolgaapaa
open Go Go.RowKit
set_option maxRecDepth 100000 in
set_option maxHeartbeats 4000000 in
theorem awake_any (w : World) : Calls Try.prog 8 #[] w fun e w' => e = .returned (.bool true) ∧ w.grownBy w' none := by
  go_enter Try.func8, Try.ntmps8
  go_wp2_with fail
  refine (four_any w).mono ?_; rintro e w1 ⟨rfl, o1, g1⟩
  have o1' := Lib.hid o1
  have g1' := Lib.hid g1
  have l1 := (o1.cells_ (by rw [nodes_len fourL_ok]; decide))
  clear o1 g1
  go_wp2_with fail
  refine (four_any w1).mono ?_; rintro e w2 ⟨rfl, o2, g2⟩
  have o2' := Lib.hid o2
  have g2' := Lib.hid g2
  clear o2 g2
  go_wp2_with fail
  refine (four_any w2).mono ?_; rintro e w3 ⟨rfl, o3, g3⟩
  have hc3 : ∀ x y z, (((w3.alloc x).alloc y).alloc z).cell? ⟨w2.heap.size + 1, 52, none⟩ = some (.int .i64 1) := fun x y z => by
    have hg := grown_trans (World.grownBy_alloc w3 x none) (grown_trans (World.grownBy_alloc (w3.alloc x) y none) (World.grownBy_alloc ((w3.alloc x).alloc y) z none))
    obtain ⟨g, hA, _, _, _, hc⟩ := (o3.grown0 hg).cells_ (by rw [nodes_len fourL_ok]; decide)
    cases hA
    rw [hc 52 (by rw [nodes_len fourL_ok]; decide)]
    rfl
  have hf3 : ∀ x y z, (((w3.alloc x).alloc y).alloc z).frozen? ⟨w2.heap.size + 1, 52, none⟩ = false := fun x y z => by
    have hg := grown_trans (World.grownBy_alloc w3 x none) (grown_trans (World.grownBy_alloc (w3.alloc x) y none) (World.grownBy_alloc ((w3.alloc x).alloc y) z none))
    exact (o3.grown0 hg).frozen_ (by rw [nodes_len fourL_ok]; decide) rfl 52
  have o3' := Lib.hid o3
  have g3' := Lib.hid g3
  clear o3 g3
  go_upto_region 4 with fail
  have gx := World.grownBy_alloc w3 (.cells #[.slice (some ⟨w.heap.size + 1, 0, none⟩) 4 4, .int .i64 5] 24) none
  have gy := World.grownBy_alloc (w3.alloc (.cells #[.slice (some ⟨w.heap.size + 1, 0, none⟩) 4 4, .int .i64 5] 24)) (.cells #[.slice (some ⟨w1.heap.size + 1, 0, none⟩) 4 4, .int .i64 4] 24) none
  have gz := World.grownBy_alloc ((w3.alloc (.cells #[.slice (some ⟨w.heap.size + 1, 0, none⟩) 4 4, .int .i64 5] 24)).alloc (.cells #[.slice (some ⟨w1.heap.size + 1, 0, none⟩) 4 4, .int .i64 4] 24)) (.cells #[.slice (some ⟨w2.heap.size + 1, 0, none⟩) 4 4, .int .i64 5] 24) none
  have hs1 := g1'.out.size
  have hs2 := g2'.out.size
  have hs3 := g3'.out.size
  have r1 := ((Row.new w3 24 #[.slice (some ⟨w.heap.size + 1, 0, none⟩) 4 4, .int .i64 5]).kept0 gy).kept0 gz
  have r2 := (Row.new (w3.alloc (.cells #[.slice (some ⟨w.heap.size + 1, 0, none⟩) 4 4, .int .i64 5] 24)) 24 #[.slice (some ⟨w1.heap.size + 1, 0, none⟩) 4 4, .int .i64 4]).kept0 gz
  rw [World.size_alloc] at r2
  have r3 := Row.new ((w3.alloc (.cells #[.slice (some ⟨w.heap.size + 1, 0, none⟩) 4 4, .int .i64 5] 24)).alloc (.cells #[.slice (some ⟨w1.heap.size + 1, 0, none⟩) 4 4, .int .i64 4] 24)) 24 #[.slice (some ⟨w2.heap.size + 1, 0, none⟩) 4 4, .int .i64 5]
  rw [World.size_alloc, World.size_alloc] at r3
  have gxyz := grown_trans gx (grown_trans gy gz)
  have n1 := ((o1'.out.grown0 g2'.out).grown0 g3'.out).grown0 gxyz
  have n2 := (o2'.out.grown0 g3'.out).grown0 gxyz
  have n3 := o3'.out.grown0 gxyz
  have hgw := grown_trans g1'.out (grown_trans g2'.out (grown_trans g3'.out gxyz))
  have b1l := (o1'.out.row_ge (w.heap.size + 1) rfl).2
  have b2l := (o2'.out.row_ge (w1.heap.size + 1) rfl).2
  have b3l := (o3'.out.row_ge (w2.heap.size + 1) rfl).2
  clear gx gy gz gxyz o1' o2' o3' g1' g2' g3' hc3 hf3 l1
  generalize ((w3.alloc (.cells #[.slice (some ⟨w.heap.size + 1, 0, none⟩) 4 4, .int .i64 5] 24)).alloc (.cells #[.slice (some ⟨w1.heap.size + 1, 0, none⟩) 4 4, .int .i64 4] 24)).alloc (.cells #[.slice (some ⟨w2.heap.size + 1, 0, none⟩) 4 4, .int .i64 5] 24) = V at *
  have hgs := grownBy_setCell V (w2.heap.size + 1) 52 (.int .i64 2)
  replace r1 := r1.keptNe hgs (by omega)
  replace r2 := r2.keptNe hgs (by omega)
  replace r3 := r3.keptNe hgs (by omega)
  replace n1 := n1.grownBy_ hgs (.inr (by show (some (w.heap.size + 1) : Option Nat) ≠ _; intro e; have := Option.some.inj e; omega))
  replace n2 := n2.grownBy_ hgs (.inr (by show (some (w1.heap.size + 1) : Option Nat) ≠ _; intro e; have := Option.some.inj e; omega))
  replace n3 := n3.set_ 52 (.int .i64 2)
  rw [deep_flat] at n3
  replace hgw := grown_new hgw hgs (fun b e => by cases e; omega)
  generalize V.setCell ⟨w2.heap.size + 1, 52, none⟩ (.int .i64 2) = W0 at *
  have N1 := Lib.hid (show NodesAt W0 W0.heap.size (some ⟨w.heap.size + 1, 0, none⟩) 4 fourL from ⟨fourL_ok, rfl, n1.reads, by omega⟩)
  have N2 := Lib.hid (show NodesAt W0 W0.heap.size (some ⟨w1.heap.size + 1, 0, none⟩) 4 fourL from ⟨fourL_ok, rfl, n2.reads, by omega⟩)
  have N3 := Lib.hid (show NodesAt W0 W0.heap.size (some ⟨w2.heap.size + 1, 0, none⟩) 4 deepL from ⟨deepL_ok, rfl, n3.reads, by omega⟩)
  have hgw' := Lib.hid hgw
  have HB := Lib.hid (fun W (hg : W0.grownBy W none) => show (W.cell? ⟨w3.heap.size, 0, none⟩ = some (.slice (some ⟨w.heap.size + 1, 0, none⟩) 4 4) ∧ W.cell? ⟨w3.heap.size, 1, none⟩ = some (.int .i64 5)) ∧ (W.cell? ⟨w3.heap.size + 1, 0, none⟩ = some (.slice (some ⟨w1.heap.size + 1, 0, none⟩) 4 4) ∧ W.cell? ⟨w3.heap.size + 1, 1, none⟩ = some (.int .i64 4)) ∧ (W.cell? ⟨w3.heap.size + 1 + 1, 0, none⟩ = some (.slice (some ⟨w2.heap.size + 1, 0, none⟩) 4 4) ∧ W.cell? ⟨w3.heap.size + 1 + 1, 1, none⟩ = some (.int .i64 5)) from ⟨⟨(r1.kept0 hg).at 0, (r1.kept0 hg).at 1⟩, ⟨(r2.kept0 hg).at 0, (r2.kept0 hg).at 1⟩, (r3.kept0 hg).at 0, (r3.kept0 hg).at 1⟩)
  clear r1 r2 r3 n1 n2 n3 hgw hgs hs1 hs2 hs3 b1l b2l b3l
  obtain ⟨p1, hp1⟩ : ∃ p, p = w.heap.size + 1 := ⟨_, rfl⟩
  obtain ⟨p2, hp2⟩ : ∃ p, p = w1.heap.size + 1 := ⟨_, rfl⟩
  obtain ⟨p3, hp3⟩ : ∃ p, p = w2.heap.size + 1 := ⟨_, rfl⟩
  obtain ⟨q1, hq1⟩ : ∃ p, p = w3.heap.size := ⟨_, rfl⟩
  rw [← hp1, ← hp2, ← hp3, ← hq1] at HB ⊢
  rw [← hp1] at N1
  rw [← hp2] at N2
  rw [← hp3] at N3
  clear hp1 hp2 hp3 hq1
  have K0 := Lib.hid (fun W (hg : W0.grownBy W none) => show Calls Try.prog 11 #[.agg #[.slice (some ⟨p1, 0, none⟩) 4 4, .int .i64 5], .int .i64 0] W fun e w' => ∃ A' c', e = .returned (.slice A' 2 c') ∧ Own w' W.heap.size 3 1 A' 2 c' [.int .i64 1, .int .i64 3] ∧ W.grownBy w' none from by
    have := kids_in (some ⟨p1, 0, none⟩) 4 4 5 0 fourL W (N1.out.grow hg) (by omega) four_dp
    rw [four_kids0] at this
    exact this)
  have K3 := Lib.hid (fun W (hg : W0.grownBy W none) => show Calls Try.prog 11 #[.agg #[.slice (some ⟨p1, 0, none⟩) 4 4, .int .i64 5], .int .i64 3] W fun e w' => ∃ A' c', e = .returned (.slice A' 0 c') ∧ W.grownBy w' none from by
    have := kids_in (some ⟨p1, 0, none⟩) 4 4 5 3 fourL W (N1.out.grow hg) (by omega) four_dp
    rw [four_kids3] at this
    refine this.mono ?_
    rintro e w' ⟨A', c', h1, _, h3⟩
    exact ⟨A', c', h1, h3⟩)
  have M1 := Lib.hid (fun W (hg : W0.grownBy W none) => may_yes (some ⟨p1, 0, none⟩) 4 4 5 fourL W (N1.out.grow hg) four_len four_shape)
  have M2 := Lib.hid (fun W (hg : W0.grownBy W none) => may_no (some ⟨p2, 0, none⟩) 4 4 4 fourL W (N2.out.grow hg) four_len four_less)
  have M3 := Lib.hid (fun W (hg : W0.grownBy W none) => may_no (some ⟨p3, 0, none⟩) 4 4 5 deepL W (N3.out.grow hg) deep_len four_deep)
  have M4 := Lib.hid (fun W => may_no none 0 0 0 [] W ⟨by simp, rfl, Reads.nil_, by omega⟩ (fun i hi => absurd hi (by omega)) none_shape)
  have F3 := Lib.hid (fun W (hg : W0.grownBy W none) => show Calls Try.prog 13 #[.agg #[.slice (some ⟨p1, 0, none⟩) 4 4, .int .i64 5], .int .i64 3] W fun e w' => e = .returned (.int .i64 2) ∧ W.grownBy w' none from by
    have := find_any (some ⟨p1, 0, none⟩) 4 4 fourL 5 3 W _ (N1.out.grow hg)
    rw [four_find3] at this
    exact this)
  have F9 := Lib.hid (fun W (hg : W0.grownBy W none) => show Calls Try.prog 13 #[.agg #[.slice (some ⟨p1, 0, none⟩) 4 4, .int .i64 5], .int .i64 9] W fun e w' => e = .returned (.int .i64 (-1)) ∧ W.grownBy w' none from by
    have := find_any (some ⟨p1, 0, none⟩) 4 4 fourL 5 9 W _ (N1.out.grow hg)
    rw [four_find9] at this
    exact this)
  have E0 := Lib.hid (fun W (hg : W0.grownBy W none) => show Calls Try.prog 14 #[.agg #[.slice (some ⟨p1, 0, none⟩) 4 4, .int .i64 5], .int .i64 0] W fun e w' => e = .returned (.int .i64 4) ∧ W.grownBy w' none from by
    have := end_in (some ⟨p1, 0, none⟩) 4 4 5 0 fourL W (N1.out.grow hg) (by omega)
    rw [four_end0] at this
    exact this)
  have E1 := Lib.hid (fun W (hg : W0.grownBy W none) => show Calls Try.prog 14 #[.agg #[.slice (some ⟨p1, 0, none⟩) 4 4, .int .i64 5], .int .i64 1] W fun e w' => e = .returned (.int .i64 3) ∧ W.grownBy w' none from by
    have := end_in (some ⟨p1, 0, none⟩) 4 4 5 1 fourL W (N1.out.grow hg) (by omega)
    rw [four_end1] at this
    exact this)
  have E4 := Lib.hid (fun W => end_no (some ⟨p1, 0, none⟩) 4 4 5 4 W (by omega) (.inr (by omega)))
  have P0 := Lib.hid (fun W (hg : W0.grownBy W none) => show Calls Try.prog 12 #[.agg #[.slice (some ⟨p1, 0, none⟩) 4 4, .int .i64 5], .int .i64 0] W fun e w' => e = .returned (.int .i64 (-1)) ∧ W.grownBy w' none from by
    have := parent_in (some ⟨p1, 0, none⟩) 4 4 5 0 fourL W (N1.out.grow hg) (by omega) (by omega) (by omega) four_dp
    rw [four_par0] at this
    exact this)
  have P2 := Lib.hid (fun W (hg : W0.grownBy W none) => show Calls Try.prog 12 #[.agg #[.slice (some ⟨p1, 0, none⟩) 4 4, .int .i64 5], .int .i64 2] W fun e w' => e = .returned (.int .i64 1) ∧ W.grownBy w' none from by
    have := parent_in (some ⟨p1, 0, none⟩) 4 4 5 2 fourL W (N1.out.grow hg) (by omega) (by omega) (by omega) four_dp
    rw [four_par2] at this
    exact this)
  have P3 := Lib.hid (fun W (hg : W0.grownBy W none) => show Calls Try.prog 12 #[.agg #[.slice (some ⟨p1, 0, none⟩) 4 4, .int .i64 5], .int .i64 3] W fun e w' => e = .returned (.int .i64 0) ∧ W.grownBy w' none from by
    have := parent_in (some ⟨p1, 0, none⟩) 4 4 5 3 fourL W (N1.out.grow hg) (by omega) (by omega) (by omega) four_dp
    rw [four_par3] at this
    exact this)
  have CC := Lib.hid (fun W (hg : W0.grownBy W none) => copy_any (some ⟨p1, 0, none⟩) 4 4 fourL 5 W _ fourL_ok rfl (N1.out.grow hg).reads (by omega))
  have S1 := Lib.hid (fun W A c (hg : W0.grownBy W none) (h : NodesAt W W.heap.size A 4 fourL) => show Calls Try.prog 16 #[.agg #[.slice (some ⟨p1, 0, none⟩) 4 4, .int .i64 5], .agg #[.slice A 4 c, .int .i64 5]] W fun e w' => e = .returned (.bool true) ∧ W.grownBy w' none from by
    have := same_any (some ⟨p1, 0, none⟩) 4 4 fourL 5 A 4 c fourL 5 W fourL_ok fourL_ok rfl rfl (N1.out.grow hg).reads h.reads (by omega) (by omega)
    rw [docEq_self fourL_ok] at this
    exact this)
  have S2 := Lib.hid (fun W (hg : W0.grownBy W none) => show Calls Try.prog 16 #[.agg #[.slice (some ⟨p1, 0, none⟩) 4 4, .int .i64 5], .agg #[.slice (some ⟨p2, 0, none⟩) 4 4, .int .i64 4]] W fun e w' => e = .returned (.bool false) ∧ W.grownBy w' none from by
    have := same_any (some ⟨p1, 0, none⟩) 4 4 fourL 5 (some ⟨p2, 0, none⟩) 4 4 fourL 4 W fourL_ok fourL_ok rfl rfl (N1.out.grow hg).reads (N2.out.grow hg).reads (by omega) (by omega)
    rw [docEq_less] at this
    exact this)
  have hgW := World.grownBy.refl W0 none
  obtain ⟨⟨c1, c2⟩, ⟨c3, c4⟩, c5, c6⟩ := HB.out _ hgW
  go_wp2_with fail
  refine (K0.out _ hgW).mono ?_; rintro e wk ⟨A', c', rfl, hown, hgk⟩
  clear c1 c2 c3 c4 c5 c6
  replace hgW := grown_trans hgW hgk
  obtain ⟨⟨c1, c2⟩, ⟨c3, c4⟩, c5, c6⟩ := HB.out _ hgW
  obtain ⟨gl, rfl, _, _, _, hcl⟩ := hown.cells_ (by simp)
  have z0 : wk.cell? ⟨gl, 0, none⟩ = some (.int .i64 1) := hcl 0 (by simp)
  have z1 : wk.cell? ⟨gl, 1, none⟩ = some (.int .i64 3) := hcl 1 (by simp)
  clear hcl hown hgk
  go_wp2_with fail
  refine (M1.out _ hgW).mono ?_; rintro e v0 ⟨rfl, hg0⟩
  clear c1 c2 c3 c4 c5 c6
  replace hgW := grown_trans hgW hg0
  obtain ⟨⟨c1, c2⟩, ⟨c3, c4⟩, c5, c6⟩ := HB.out _ hgW
  replace z0 := hg0.cell z0 (by simp)
  replace z1 := hg0.cell z1 (by simp)
  clear hg0
  go_wp2_with fail
  refine (M2.out _ hgW).mono ?_; rintro e v1 ⟨rfl, hg1⟩
  clear c1 c2 c3 c4 c5 c6
  replace hgW := grown_trans hgW hg1
  obtain ⟨⟨c1, c2⟩, ⟨c3, c4⟩, c5, c6⟩ := HB.out _ hgW
  replace z0 := hg1.cell z0 (by simp)
  replace z1 := hg1.cell z1 (by simp)
  clear hg1
  go_wp2_with fail
  refine (M3.out _ hgW).mono ?_; rintro e v2 ⟨rfl, hg2⟩
  clear c1 c2 c3 c4 c5 c6
  replace hgW := grown_trans hgW hg2
  obtain ⟨⟨c1, c2⟩, ⟨c3, c4⟩, c5, c6⟩ := HB.out _ hgW
  replace z0 := hg2.cell z0 (by simp)
  replace z1 := hg2.cell z1 (by simp)
  clear hg2
  go_wp2_with fail
  refine (M4.out _).mono ?_; rintro e v3 ⟨rfl, hg3⟩
  clear c1 c2 c3 c4 c5 c6
  replace hgW := grown_trans hgW hg3
  obtain ⟨⟨c1, c2⟩, ⟨c3, c4⟩, c5, c6⟩ := HB.out _ hgW
  replace z0 := hg3.cell z0 (by simp)
  replace z1 := hg3.cell z1 (by simp)
  clear hg3
  go_wp2_with fail
  refine (F3.out _ hgW).mono ?_; rintro e v4 ⟨rfl, hg4⟩
  clear c1 c2 c3 c4 c5 c6
  replace hgW := grown_trans hgW hg4
  obtain ⟨⟨c1, c2⟩, ⟨c3, c4⟩, c5, c6⟩ := HB.out _ hgW
  replace z0 := hg4.cell z0 (by simp)
  replace z1 := hg4.cell z1 (by simp)
  clear hg4
  go_wp2_with fail
  refine (F9.out _ hgW).mono ?_; rintro e v5 ⟨rfl, hg5⟩
  clear c1 c2 c3 c4 c5 c6
  replace hgW := grown_trans hgW hg5
  obtain ⟨⟨c1, c2⟩, ⟨c3, c4⟩, c5, c6⟩ := HB.out _ hgW
  replace z0 := hg5.cell z0 (by simp)
  replace z1 := hg5.cell z1 (by simp)
  clear hg5
  go_upto_region 7 with fail
  clear c1 c2 c3 c4 c5 c6 z0 z1 K0 M1 M2 M3 M4 F3 F9
  replace hgW := grown_trans hgW (grown_drew (World.grownBy.refl _ none))
  obtain ⟨⟨c1, c2⟩, ⟨c3, c4⟩, c5, c6⟩ := HB.out _ hgW
  go_region_with (first
    | (go_at_call 14; ((with_reducible refine (E0.out _ hgW).mono ?_); rintro e vv ⟨rfl, hgk⟩); clear c1 c2 c3 c4 c5 c6; replace hgW := grown_trans hgW hgk; obtain ⟨⟨c1, c2⟩, ⟨c3, c4⟩, c5, c6⟩ := HB.out _ hgW; clear hgk)
    | (go_at_call 14; ((with_reducible refine (E1.out _ hgW).mono ?_); rintro e vv ⟨rfl, hgk⟩); clear c1 c2 c3 c4 c5 c6; replace hgW := grown_trans hgW hgk; obtain ⟨⟨c1, c2⟩, ⟨c3, c4⟩, c5, c6⟩ := HB.out _ hgW; clear hgk)
    | (go_at_call 14; ((with_reducible refine (E4.out _).mono ?_); rintro e vv ⟨rfl, hgk⟩); clear c1 c2 c3 c4 c5 c6; replace hgW := grown_trans hgW hgk; obtain ⟨⟨c1, c2⟩, ⟨c3, c4⟩, c5, c6⟩ := HB.out _ hgW; clear hgk)
    | (go_at_call 12; ((with_reducible refine (P0.out _ hgW).mono ?_); rintro e vv ⟨rfl, hgk⟩); clear c1 c2 c3 c4 c5 c6; replace hgW := grown_trans hgW hgk; obtain ⟨⟨c1, c2⟩, ⟨c3, c4⟩, c5, c6⟩ := HB.out _ hgW; clear hgk)
    | (go_at_call 12; ((with_reducible refine (P2.out _ hgW).mono ?_); rintro e vv ⟨rfl, hgk⟩); clear c1 c2 c3 c4 c5 c6; replace hgW := grown_trans hgW hgk; obtain ⟨⟨c1, c2⟩, ⟨c3, c4⟩, c5, c6⟩ := HB.out _ hgW; clear hgk)
    | (go_at_call 12; ((with_reducible refine (P3.out _ hgW).mono ?_); rintro e vv ⟨rfl, hgk⟩); clear c1 c2 c3 c4 c5 c6; replace hgW := grown_trans hgW hgk; obtain ⟨⟨c1, c2⟩, ⟨c3, c4⟩, c5, c6⟩ := HB.out _ hgW; clear hgk)
    | (go_at_call 11; ((with_reducible refine (K3.out _ hgW).mono ?_); rintro e vv ⟨A3, c3', rfl, hgk⟩); clear c1 c2 c3 c4 c5 c6; replace hgW := grown_trans hgW hgk; obtain ⟨⟨c1, c2⟩, ⟨c3, c4⟩, c5, c6⟩ := HB.out _ hgW; clear hgk)
    | (go_at_call 15; ((with_reducible refine (CC.out _ hgW).mono ?_); rintro e vv ⟨A2, c2', rfl, hown, hgk⟩); have NC := Lib.hid (show NodesAt vv vv.heap.size A2 4 fourL from ⟨fourL_ok, rfl, hown.reads, by omega⟩); clear hown; clear c1 c2 c3 c4 c5 c6; replace hgW := grown_trans hgW hgk; obtain ⟨⟨c1, c2⟩, ⟨c3, c4⟩, c5, c6⟩ := HB.out _ hgW; clear hgk)
    | (go_at_call 16; ((with_reducible refine (S1.out _ _ _ hgW NC.out).mono ?_); rintro e vv ⟨rfl, hgk⟩); clear NC; clear c1 c2 c3 c4 c5 c6; replace hgW := grown_trans hgW hgk; obtain ⟨⟨c1, c2⟩, ⟨c3, c4⟩, c5, c6⟩ := HB.out _ hgW; clear hgk)
    | (go_at_call 16; ((with_reducible refine (S2.out _ hgW).mono ?_); rintro e vv ⟨rfl, hgk⟩); clear c1 c2 c3 c4 c5 c6; replace hgW := grown_trans hgW hgk; obtain ⟨⟨c1, c2⟩, ⟨c3, c4⟩, c5, c6⟩ := HB.out _ hgW; clear hgk))
  all_goals
    go_wp2
    go_ret
    exact ⟨rfl, grown_trans hgw'.out hgW⟩
end Go.Proofs.Ythbdfibolgaapaa
