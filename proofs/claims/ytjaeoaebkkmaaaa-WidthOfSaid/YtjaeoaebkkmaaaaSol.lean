/- The walk of width.Solve (printed by gen_sol.py). -/
import Derived.Test.YtjaeoaebkkmaaaaSv
namespace Go.Proofs.Ytjaeoaebkkmaaaa
open Go Go.RowKit
set_option linter.unusedSimpArgs false
theorem fits3 (x y z : Int) (w : World) (hx : I64 x) (hy : I64 y) (hz : I64 z) (e : TypeId) (B : Nat) (hB : B = w.heap.size) :
    Calls Try.prog 19 #[.slice (some ⟨B, 0, none⟩) 3 3] (w.alloc (.cells #[.int .i64 x, .int .i64 y, .int .i64 z] e)) fun e' w' => ∃ b, e' = .returned (.bool !b) ∧ [x, y, z].any far = b ∧ w.alloc (.cells #[.int .i64 x, .int .i64 y, .int .i64 z] e) = w' :=
  (fitsN [x, y, z] 3 rfl (by omega) (by simp; exact ⟨hx, hy, hz⟩) w e B hB _ rfl).mono fun _ _ ⟨h1, h2⟩ => ⟨_, h1, rfl, h2⟩
set_option maxHeartbeats 1000000 in
theorem solve_ttt (of : Int) (wd least most left right edges : Int) (w : World) (ho : I64 of) (ha : (Ask.mk true wd least most left right true true edges).ok) (h0 : askedV of (Ask.mk true wd least most left right true true edges) = 0) :
    Calls Try.prog 10 #[.int .i64 of, (Ask.mk true wd least most left right true true edges).val] w fun e w' => e = .returned (solveV of (Ask.mk true wd least most left right true true edges)).val ∧ w.grownBy w' none := by
  have hz := asked_zero h0
  simp only [true_implies] at hz
  obtain ⟨g1, g2, g3, g4, g5, g6, g7⟩ := hz
  have CA := Lib.hid (fun W => asked_any of (Ask.mk true wd least most left right true true edges) W ho ha)
  rw [h0] at CA
  have h0' := Lib.hid h0
  unfold Ask.val at *
  simp only at CA
  clear h0 ha ho
  go_enter Try.func10, Try.ntmps10
  go_wp2_with fail
  refine (CA.out _).mono ?_; rintro e w1 ⟨rfl, hg1⟩
  have hC : ∀ j v, (#[Value.bool true, .int .i64 wd, .int .i64 least, .int .i64 most, .int .i64 left, .int .i64 right, .bool true, .bool true, .int .i64 edges] : Array Value)[j]? = some v → w1.cell? ⟨w.heap.size, j, none⟩ = some v := fun j v hv =>
    hg1.cell ((cell_of_row _ w.heap.size j _ _ _ (heap_alloc_new w _)).trans hv) (by simp)
  have hgw : w.grownBy w1 none := grown_trans (World.grownBy_alloc _ _ _) hg1
  have c0 := hC 0 _ rfl
  have c1 := hC 1 _ rfl
  have c2 := hC 2 _ rfl
  have c3 := hC 3 _ rfl
  have c4 := hC 4 _ rfl
  have c5 := hC 5 _ rfl
  have c6 := hC 6 _ rfl
  have c7 := hC 7 _ rfl
  have c8 := hC 8 _ rfl
  clear hC hg1
  go_wp2_with fail
  go_quiet (fail)
  go_wp2_with fail
  all_goals
    refine (clampW _ _ _ _).mono ?_; rintro e w2 ⟨r, rfl, hr, rfl⟩
    have hrb : 0 ≤ r ∧ r ≤ 1099511627776 := by omega
    have hw : widt of (Ask.mk true wd least most left right true true edges) = r := by simp only [widt, asks, lef, rig, Bool.false_eq_true, Bool.true_eq_false, eq_self, if_false, if_true, and_true, and_false, true_and, false_and, or_true, or_false, true_or, false_or]; omega
    have hw' := Lib.hid hw; clear hr hw
    go_wp2_with fail
    all_goals
      refine (fits3 _ _ _ _ (by unfold I64; omega) (by unfold I64; omega) (by unfold I64; omega) _ _ (by simp)).mono ?_; rintro e w3 ⟨b, rfl, hb, rfl⟩
      have hb' := Lib.hid hb; clear hb
      cases b
      all_goals
        go_wp2_with fail
        (try simp only [Exit.inBlock, Exit.then])
        refine bodyPost_ret (results_tmp4 rfl _ _ _) rfl ?_
      · exact ⟨end_ok h0'.out hb'.out (by have hw := hw'.out; simp only [lef2, rig2, free, hw, lef, rig, Bool.false_eq_true, Bool.true_eq_false, eq_self, if_false, if_true, and_true, and_false, true_and, false_and, or_true, or_false, true_or, false_or]; all_goals ((repeat' split) <;> omega)) hw'.out.symm (by have hw := hw'.out; simp only [lef2, rig2, free, hw, lef, rig, Bool.false_eq_true, Bool.true_eq_false, eq_self, if_false, if_true, and_true, and_false, true_and, false_and, or_true, or_false, true_or, false_or]; all_goals ((repeat' split) <;> omega)), grown_trans (grown_drewN hgw _) (World.grownBy_alloc _ _ _)⟩
      · exact ⟨end_far h0'.out hb'.out (by have hw := hw'.out; simp only [lef2, rig2, free, hw, lef, rig, Bool.false_eq_true, Bool.true_eq_false, eq_self, if_false, if_true, and_true, and_false, true_and, false_and, or_true, or_false, true_or, false_or]; all_goals ((repeat' split) <;> omega)) hw'.out.symm (by have hw := hw'.out; simp only [lef2, rig2, free, hw, lef, rig, Bool.false_eq_true, Bool.true_eq_false, eq_self, if_false, if_true, and_true, and_false, true_and, false_and, or_true, or_false, true_or, false_or]; all_goals ((repeat' split) <;> omega)), grown_trans (grown_drewN hgw _) (World.grownBy_alloc _ _ _)⟩

set_option maxHeartbeats 1000000 in
theorem solve_ttf (of : Int) (wd least most left right edges : Int) (w : World) (ho : I64 of) (ha : (Ask.mk true wd least most left right true false edges).ok) (h0 : askedV of (Ask.mk true wd least most left right true false edges) = 0) :
    Calls Try.prog 10 #[.int .i64 of, (Ask.mk true wd least most left right true false edges).val] w fun e w' => e = .returned (solveV of (Ask.mk true wd least most left right true false edges)).val ∧ w.grownBy w' none := by
  have hz := asked_zero h0
  simp only [true_implies] at hz
  obtain ⟨g1, g2, g3, g4, g5, g6, g7⟩ := hz
  have CA := Lib.hid (fun W => asked_any of (Ask.mk true wd least most left right true false edges) W ho ha)
  rw [h0] at CA
  have h0' := Lib.hid h0
  unfold Ask.val at *
  simp only at CA
  clear h0 ha ho
  go_enter Try.func10, Try.ntmps10
  go_wp2_with fail
  refine (CA.out _).mono ?_; rintro e w1 ⟨rfl, hg1⟩
  have hC : ∀ j v, (#[Value.bool true, .int .i64 wd, .int .i64 least, .int .i64 most, .int .i64 left, .int .i64 right, .bool true, .bool false, .int .i64 edges] : Array Value)[j]? = some v → w1.cell? ⟨w.heap.size, j, none⟩ = some v := fun j v hv =>
    hg1.cell ((cell_of_row _ w.heap.size j _ _ _ (heap_alloc_new w _)).trans hv) (by simp)
  have hgw : w.grownBy w1 none := grown_trans (World.grownBy_alloc _ _ _) hg1
  have c0 := hC 0 _ rfl
  have c1 := hC 1 _ rfl
  have c2 := hC 2 _ rfl
  have c3 := hC 3 _ rfl
  have c4 := hC 4 _ rfl
  have c5 := hC 5 _ rfl
  have c6 := hC 6 _ rfl
  have c7 := hC 7 _ rfl
  have c8 := hC 8 _ rfl
  clear hC hg1
  go_wp2_with fail
  go_quiet (fail)
  go_wp2_with fail
  all_goals
    refine (clampW _ _ _ _).mono ?_; rintro e w2 ⟨r, rfl, hr, rfl⟩
    have hrb : 0 ≤ r ∧ r ≤ 1099511627776 := by omega
    have hw : widt of (Ask.mk true wd least most left right true false edges) = r := by simp only [widt, asks, lef, rig, Bool.false_eq_true, Bool.true_eq_false, eq_self, if_false, if_true, and_true, and_false, true_and, false_and, or_true, or_false, true_or, false_or]; omega
    have hw' := Lib.hid hw; clear hr hw
    go_wp2_with fail
    all_goals
      refine (fits3 _ _ _ _ (by unfold I64; omega) (by unfold I64; omega) (by unfold I64; omega) _ _ (by simp)).mono ?_; rintro e w3 ⟨b, rfl, hb, rfl⟩
      have hb' := Lib.hid hb; clear hb
      cases b
      all_goals
        go_wp2_with fail
        (try simp only [Exit.inBlock, Exit.then])
        refine bodyPost_ret (results_tmp4 rfl _ _ _) rfl ?_
      · exact ⟨end_ok h0'.out hb'.out (by have hw := hw'.out; simp only [lef2, rig2, free, hw, lef, rig, Bool.false_eq_true, Bool.true_eq_false, eq_self, if_false, if_true, and_true, and_false, true_and, false_and, or_true, or_false, true_or, false_or]; all_goals ((repeat' split) <;> omega)) hw'.out.symm (by have hw := hw'.out; simp only [lef2, rig2, free, hw, lef, rig, Bool.false_eq_true, Bool.true_eq_false, eq_self, if_false, if_true, and_true, and_false, true_and, false_and, or_true, or_false, true_or, false_or]; all_goals ((repeat' split) <;> omega)), grown_trans (grown_drewN hgw _) (World.grownBy_alloc _ _ _)⟩
      · exact ⟨end_far h0'.out hb'.out (by have hw := hw'.out; simp only [lef2, rig2, free, hw, lef, rig, Bool.false_eq_true, Bool.true_eq_false, eq_self, if_false, if_true, and_true, and_false, true_and, false_and, or_true, or_false, true_or, false_or]; all_goals ((repeat' split) <;> omega)) hw'.out.symm (by have hw := hw'.out; simp only [lef2, rig2, free, hw, lef, rig, Bool.false_eq_true, Bool.true_eq_false, eq_self, if_false, if_true, and_true, and_false, true_and, false_and, or_true, or_false, true_or, false_or]; all_goals ((repeat' split) <;> omega)), grown_trans (grown_drewN hgw _) (World.grownBy_alloc _ _ _)⟩

set_option maxHeartbeats 1000000 in
theorem solve_tft (of : Int) (wd least most left right edges : Int) (w : World) (ho : I64 of) (ha : (Ask.mk true wd least most left right false true edges).ok) (h0 : askedV of (Ask.mk true wd least most left right false true edges) = 0) :
    Calls Try.prog 10 #[.int .i64 of, (Ask.mk true wd least most left right false true edges).val] w fun e w' => e = .returned (solveV of (Ask.mk true wd least most left right false true edges)).val ∧ w.grownBy w' none := by
  have hz := asked_zero h0
  simp only [true_implies] at hz
  obtain ⟨g1, g2, g3, g4, g5, g6, g7⟩ := hz
  have CA := Lib.hid (fun W => asked_any of (Ask.mk true wd least most left right false true edges) W ho ha)
  rw [h0] at CA
  have h0' := Lib.hid h0
  unfold Ask.val at *
  simp only at CA
  clear h0 ha ho
  go_enter Try.func10, Try.ntmps10
  go_wp2_with fail
  refine (CA.out _).mono ?_; rintro e w1 ⟨rfl, hg1⟩
  have hC : ∀ j v, (#[Value.bool true, .int .i64 wd, .int .i64 least, .int .i64 most, .int .i64 left, .int .i64 right, .bool false, .bool true, .int .i64 edges] : Array Value)[j]? = some v → w1.cell? ⟨w.heap.size, j, none⟩ = some v := fun j v hv =>
    hg1.cell ((cell_of_row _ w.heap.size j _ _ _ (heap_alloc_new w _)).trans hv) (by simp)
  have hgw : w.grownBy w1 none := grown_trans (World.grownBy_alloc _ _ _) hg1
  have c0 := hC 0 _ rfl
  have c1 := hC 1 _ rfl
  have c2 := hC 2 _ rfl
  have c3 := hC 3 _ rfl
  have c4 := hC 4 _ rfl
  have c5 := hC 5 _ rfl
  have c6 := hC 6 _ rfl
  have c7 := hC 7 _ rfl
  have c8 := hC 8 _ rfl
  clear hC hg1
  go_wp2_with fail
  go_quiet (fail)
  go_wp2_with fail
  all_goals
    refine (clampW _ _ _ _).mono ?_; rintro e w2 ⟨r, rfl, hr, rfl⟩
    have hrb : 0 ≤ r ∧ r ≤ 1099511627776 := by omega
    have hw : widt of (Ask.mk true wd least most left right false true edges) = r := by simp only [widt, asks, lef, rig, Bool.false_eq_true, Bool.true_eq_false, eq_self, if_false, if_true, and_true, and_false, true_and, false_and, or_true, or_false, true_or, false_or]; omega
    have hw' := Lib.hid hw; clear hr hw
    go_wp2_with fail
    all_goals
      refine (fits3 _ _ _ _ (by unfold I64; omega) (by unfold I64; omega) (by unfold I64; omega) _ _ (by simp)).mono ?_; rintro e w3 ⟨b, rfl, hb, rfl⟩
      have hb' := Lib.hid hb; clear hb
      cases b
      all_goals
        go_wp2_with fail
        (try simp only [Exit.inBlock, Exit.then])
        refine bodyPost_ret (results_tmp4 rfl _ _ _) rfl ?_
      · exact ⟨end_ok h0'.out hb'.out (by have hw := hw'.out; simp only [lef2, rig2, free, hw, lef, rig, Bool.false_eq_true, Bool.true_eq_false, eq_self, if_false, if_true, and_true, and_false, true_and, false_and, or_true, or_false, true_or, false_or]; all_goals ((repeat' split) <;> omega)) hw'.out.symm (by have hw := hw'.out; simp only [lef2, rig2, free, hw, lef, rig, Bool.false_eq_true, Bool.true_eq_false, eq_self, if_false, if_true, and_true, and_false, true_and, false_and, or_true, or_false, true_or, false_or]; all_goals ((repeat' split) <;> omega)), grown_trans (grown_drewN hgw _) (World.grownBy_alloc _ _ _)⟩
      · exact ⟨end_far h0'.out hb'.out (by have hw := hw'.out; simp only [lef2, rig2, free, hw, lef, rig, Bool.false_eq_true, Bool.true_eq_false, eq_self, if_false, if_true, and_true, and_false, true_and, false_and, or_true, or_false, true_or, false_or]; all_goals ((repeat' split) <;> omega)) hw'.out.symm (by have hw := hw'.out; simp only [lef2, rig2, free, hw, lef, rig, Bool.false_eq_true, Bool.true_eq_false, eq_self, if_false, if_true, and_true, and_false, true_and, false_and, or_true, or_false, true_or, false_or]; all_goals ((repeat' split) <;> omega)), grown_trans (grown_drewN hgw _) (World.grownBy_alloc _ _ _)⟩

set_option maxHeartbeats 1000000 in
theorem solve_tff (of : Int) (wd least most left right edges : Int) (w : World) (ho : I64 of) (ha : (Ask.mk true wd least most left right false false edges).ok) (h0 : askedV of (Ask.mk true wd least most left right false false edges) = 0) :
    Calls Try.prog 10 #[.int .i64 of, (Ask.mk true wd least most left right false false edges).val] w fun e w' => e = .returned (solveV of (Ask.mk true wd least most left right false false edges)).val ∧ w.grownBy w' none := by
  have hz := asked_zero h0
  simp only [true_implies] at hz
  obtain ⟨g1, g2, g3, g4, g5, g6, g7⟩ := hz
  have CA := Lib.hid (fun W => asked_any of (Ask.mk true wd least most left right false false edges) W ho ha)
  rw [h0] at CA
  have h0' := Lib.hid h0
  unfold Ask.val at *
  simp only at CA
  clear h0 ha ho
  go_enter Try.func10, Try.ntmps10
  go_wp2_with fail
  refine (CA.out _).mono ?_; rintro e w1 ⟨rfl, hg1⟩
  have hC : ∀ j v, (#[Value.bool true, .int .i64 wd, .int .i64 least, .int .i64 most, .int .i64 left, .int .i64 right, .bool false, .bool false, .int .i64 edges] : Array Value)[j]? = some v → w1.cell? ⟨w.heap.size, j, none⟩ = some v := fun j v hv =>
    hg1.cell ((cell_of_row _ w.heap.size j _ _ _ (heap_alloc_new w _)).trans hv) (by simp)
  have hgw : w.grownBy w1 none := grown_trans (World.grownBy_alloc _ _ _) hg1
  have c0 := hC 0 _ rfl
  have c1 := hC 1 _ rfl
  have c2 := hC 2 _ rfl
  have c3 := hC 3 _ rfl
  have c4 := hC 4 _ rfl
  have c5 := hC 5 _ rfl
  have c6 := hC 6 _ rfl
  have c7 := hC 7 _ rfl
  have c8 := hC 8 _ rfl
  clear hC hg1
  go_wp2_with fail
  go_quiet (fail)
  go_wp2_with fail
  all_goals
    refine (clampW _ _ _ _).mono ?_; rintro e w2 ⟨r, rfl, hr, rfl⟩
    have hrb : 0 ≤ r ∧ r ≤ 1099511627776 := by omega
    have hw : widt of (Ask.mk true wd least most left right false false edges) = r := by simp only [widt, asks, lef, rig, Bool.false_eq_true, Bool.true_eq_false, eq_self, if_false, if_true, and_true, and_false, true_and, false_and, or_true, or_false, true_or, false_or]; omega
    have hw' := Lib.hid hw; clear hr hw
    go_wp2_with fail
    all_goals
      refine (fits3 _ _ _ _ (by unfold I64; omega) (by unfold I64; omega) (by unfold I64; omega) _ _ (by simp)).mono ?_; rintro e w3 ⟨b, rfl, hb, rfl⟩
      have hb' := Lib.hid hb; clear hb
      cases b
      all_goals
        go_wp2_with fail
        (try simp only [Exit.inBlock, Exit.then])
        refine bodyPost_ret (results_tmp4 rfl _ _ _) rfl ?_
      · exact ⟨end_ok h0'.out hb'.out (by have hw := hw'.out; simp only [lef2, rig2, free, hw, lef, rig, Bool.false_eq_true, Bool.true_eq_false, eq_self, if_false, if_true, and_true, and_false, true_and, false_and, or_true, or_false, true_or, false_or]; all_goals ((repeat' split) <;> omega)) hw'.out.symm (by have hw := hw'.out; simp only [lef2, rig2, free, hw, lef, rig, Bool.false_eq_true, Bool.true_eq_false, eq_self, if_false, if_true, and_true, and_false, true_and, false_and, or_true, or_false, true_or, false_or]; all_goals ((repeat' split) <;> omega)), grown_trans (grown_drewN hgw _) (World.grownBy_alloc _ _ _)⟩
      · exact ⟨end_far h0'.out hb'.out (by have hw := hw'.out; simp only [lef2, rig2, free, hw, lef, rig, Bool.false_eq_true, Bool.true_eq_false, eq_self, if_false, if_true, and_true, and_false, true_and, false_and, or_true, or_false, true_or, false_or]; all_goals ((repeat' split) <;> omega)) hw'.out.symm (by have hw := hw'.out; simp only [lef2, rig2, free, hw, lef, rig, Bool.false_eq_true, Bool.true_eq_false, eq_self, if_false, if_true, and_true, and_false, true_and, false_and, or_true, or_false, true_or, false_or]; all_goals ((repeat' split) <;> omega)), grown_trans (grown_drewN hgw _) (World.grownBy_alloc _ _ _)⟩

set_option maxHeartbeats 1000000 in
theorem solve_ftt (of : Int) (wd least most left right edges : Int) (w : World) (ho : I64 of) (ha : (Ask.mk false wd least most left right true true edges).ok) (h0 : askedV of (Ask.mk false wd least most left right true true edges) = 0) :
    Calls Try.prog 10 #[.int .i64 of, (Ask.mk false wd least most left right true true edges).val] w fun e w' => e = .returned (solveV of (Ask.mk false wd least most left right true true edges)).val ∧ w.grownBy w' none := by
  have hz := asked_zero h0
  simp only [Bool.false_eq_true, false_implies] at hz
  obtain ⟨g1, g2, g3, g4, g5, g6, g7⟩ := hz
  have CA := Lib.hid (fun W => asked_any of (Ask.mk false wd least most left right true true edges) W ho ha)
  rw [h0] at CA
  have h0' := Lib.hid h0
  unfold Ask.val at *
  simp only at CA
  clear h0 ha ho
  go_enter Try.func10, Try.ntmps10
  go_wp2_with fail
  refine (CA.out _).mono ?_; rintro e w1 ⟨rfl, hg1⟩
  have hC : ∀ j v, (#[Value.bool false, .int .i64 wd, .int .i64 least, .int .i64 most, .int .i64 left, .int .i64 right, .bool true, .bool true, .int .i64 edges] : Array Value)[j]? = some v → w1.cell? ⟨w.heap.size, j, none⟩ = some v := fun j v hv =>
    hg1.cell ((cell_of_row _ w.heap.size j _ _ _ (heap_alloc_new w _)).trans hv) (by simp)
  have hgw : w.grownBy w1 none := grown_trans (World.grownBy_alloc _ _ _) hg1
  have c0 := hC 0 _ rfl
  have c1 := hC 1 _ rfl
  have c2 := hC 2 _ rfl
  have c3 := hC 3 _ rfl
  have c4 := hC 4 _ rfl
  have c5 := hC 5 _ rfl
  have c6 := hC 6 _ rfl
  have c7 := hC 7 _ rfl
  have c8 := hC 8 _ rfl
  clear hC hg1
  go_wp2_with fail
  go_quiet (fail)
  go_wp2_with fail
  all_goals
    refine (clampW _ _ _ _).mono ?_; rintro e w2 ⟨r, rfl, hr, rfl⟩
    have hrb : 0 ≤ r ∧ r ≤ 1099511627776 := by omega
    have hw : widt of (Ask.mk false wd least most left right true true edges) = r := by simp only [widt, asks, lef, rig, Bool.false_eq_true, Bool.true_eq_false, eq_self, if_false, if_true, and_true, and_false, true_and, false_and, or_true, or_false, true_or, false_or]; omega
    have hw' := Lib.hid hw; clear hr hw
    go_wp2_with fail
    all_goals
      refine (fits3 _ _ _ _ (by unfold I64; omega) (by unfold I64; omega) (by unfold I64; omega) _ _ (by simp)).mono ?_; rintro e w3 ⟨b, rfl, hb, rfl⟩
      have hb' := Lib.hid hb; clear hb
      cases b
      all_goals
        go_wp2_with fail
        (try simp only [Exit.inBlock, Exit.then])
        refine bodyPost_ret (results_tmp4 rfl _ _ _) rfl ?_
      · exact ⟨end_ok h0'.out hb'.out (by have hw := hw'.out; simp only [lef2, rig2, free, hw, lef, rig, Bool.false_eq_true, Bool.true_eq_false, eq_self, if_false, if_true, and_true, and_false, true_and, false_and, or_true, or_false, true_or, false_or]; all_goals ((repeat' split) <;> omega)) hw'.out.symm (by have hw := hw'.out; simp only [lef2, rig2, free, hw, lef, rig, Bool.false_eq_true, Bool.true_eq_false, eq_self, if_false, if_true, and_true, and_false, true_and, false_and, or_true, or_false, true_or, false_or]; all_goals ((repeat' split) <;> omega)), grown_trans (grown_drewN hgw _) (World.grownBy_alloc _ _ _)⟩
      · exact ⟨end_far h0'.out hb'.out (by have hw := hw'.out; simp only [lef2, rig2, free, hw, lef, rig, Bool.false_eq_true, Bool.true_eq_false, eq_self, if_false, if_true, and_true, and_false, true_and, false_and, or_true, or_false, true_or, false_or]; all_goals ((repeat' split) <;> omega)) hw'.out.symm (by have hw := hw'.out; simp only [lef2, rig2, free, hw, lef, rig, Bool.false_eq_true, Bool.true_eq_false, eq_self, if_false, if_true, and_true, and_false, true_and, false_and, or_true, or_false, true_or, false_or]; all_goals ((repeat' split) <;> omega)), grown_trans (grown_drewN hgw _) (World.grownBy_alloc _ _ _)⟩

set_option maxHeartbeats 1000000 in
theorem solve_ftf (of : Int) (wd least most left right edges : Int) (w : World) (ho : I64 of) (ha : (Ask.mk false wd least most left right true false edges).ok) (h0 : askedV of (Ask.mk false wd least most left right true false edges) = 0) :
    Calls Try.prog 10 #[.int .i64 of, (Ask.mk false wd least most left right true false edges).val] w fun e w' => e = .returned (solveV of (Ask.mk false wd least most left right true false edges)).val ∧ w.grownBy w' none := by
  have hz := asked_zero h0
  simp only [Bool.false_eq_true, false_implies] at hz
  obtain ⟨g1, g2, g3, g4, g5, g6, g7⟩ := hz
  have CA := Lib.hid (fun W => asked_any of (Ask.mk false wd least most left right true false edges) W ho ha)
  rw [h0] at CA
  have h0' := Lib.hid h0
  unfold Ask.val at *
  simp only at CA
  clear h0 ha ho
  go_enter Try.func10, Try.ntmps10
  go_wp2_with fail
  refine (CA.out _).mono ?_; rintro e w1 ⟨rfl, hg1⟩
  have hC : ∀ j v, (#[Value.bool false, .int .i64 wd, .int .i64 least, .int .i64 most, .int .i64 left, .int .i64 right, .bool true, .bool false, .int .i64 edges] : Array Value)[j]? = some v → w1.cell? ⟨w.heap.size, j, none⟩ = some v := fun j v hv =>
    hg1.cell ((cell_of_row _ w.heap.size j _ _ _ (heap_alloc_new w _)).trans hv) (by simp)
  have hgw : w.grownBy w1 none := grown_trans (World.grownBy_alloc _ _ _) hg1
  have c0 := hC 0 _ rfl
  have c1 := hC 1 _ rfl
  have c2 := hC 2 _ rfl
  have c3 := hC 3 _ rfl
  have c4 := hC 4 _ rfl
  have c5 := hC 5 _ rfl
  have c6 := hC 6 _ rfl
  have c7 := hC 7 _ rfl
  have c8 := hC 8 _ rfl
  clear hC hg1
  go_wp2_with fail
  go_quiet (fail)
  go_wp2_with fail
  all_goals
    refine (clampW _ _ _ _).mono ?_; rintro e w2 ⟨r, rfl, hr, rfl⟩
    have hrb : 0 ≤ r ∧ r ≤ 1099511627776 := by omega
    have hw : widt of (Ask.mk false wd least most left right true false edges) = r := by simp only [widt, asks, lef, rig, Bool.false_eq_true, Bool.true_eq_false, eq_self, if_false, if_true, and_true, and_false, true_and, false_and, or_true, or_false, true_or, false_or]; omega
    have hw' := Lib.hid hw; clear hr hw
    go_wp2_with fail
    all_goals
      refine (fits3 _ _ _ _ (by unfold I64; omega) (by unfold I64; omega) (by unfold I64; omega) _ _ (by simp)).mono ?_; rintro e w3 ⟨b, rfl, hb, rfl⟩
      have hb' := Lib.hid hb; clear hb
      cases b
      all_goals
        go_wp2_with fail
        (try simp only [Exit.inBlock, Exit.then])
        refine bodyPost_ret (results_tmp4 rfl _ _ _) rfl ?_
      · exact ⟨end_ok h0'.out hb'.out (by have hw := hw'.out; simp only [lef2, rig2, free, hw, lef, rig, Bool.false_eq_true, Bool.true_eq_false, eq_self, if_false, if_true, and_true, and_false, true_and, false_and, or_true, or_false, true_or, false_or]; all_goals ((repeat' split) <;> omega)) hw'.out.symm (by have hw := hw'.out; simp only [lef2, rig2, free, hw, lef, rig, Bool.false_eq_true, Bool.true_eq_false, eq_self, if_false, if_true, and_true, and_false, true_and, false_and, or_true, or_false, true_or, false_or]; all_goals ((repeat' split) <;> omega)), grown_trans (grown_drewN hgw _) (World.grownBy_alloc _ _ _)⟩
      · exact ⟨end_far h0'.out hb'.out (by have hw := hw'.out; simp only [lef2, rig2, free, hw, lef, rig, Bool.false_eq_true, Bool.true_eq_false, eq_self, if_false, if_true, and_true, and_false, true_and, false_and, or_true, or_false, true_or, false_or]; all_goals ((repeat' split) <;> omega)) hw'.out.symm (by have hw := hw'.out; simp only [lef2, rig2, free, hw, lef, rig, Bool.false_eq_true, Bool.true_eq_false, eq_self, if_false, if_true, and_true, and_false, true_and, false_and, or_true, or_false, true_or, false_or]; all_goals ((repeat' split) <;> omega)), grown_trans (grown_drewN hgw _) (World.grownBy_alloc _ _ _)⟩

set_option maxHeartbeats 1000000 in
theorem solve_fft (of : Int) (wd least most left right edges : Int) (w : World) (ho : I64 of) (ha : (Ask.mk false wd least most left right false true edges).ok) (h0 : askedV of (Ask.mk false wd least most left right false true edges) = 0) :
    Calls Try.prog 10 #[.int .i64 of, (Ask.mk false wd least most left right false true edges).val] w fun e w' => e = .returned (solveV of (Ask.mk false wd least most left right false true edges)).val ∧ w.grownBy w' none := by
  have hz := asked_zero h0
  simp only [Bool.false_eq_true, false_implies] at hz
  obtain ⟨g1, g2, g3, g4, g5, g6, g7⟩ := hz
  have CA := Lib.hid (fun W => asked_any of (Ask.mk false wd least most left right false true edges) W ho ha)
  rw [h0] at CA
  have h0' := Lib.hid h0
  unfold Ask.val at *
  simp only at CA
  clear h0 ha ho
  go_enter Try.func10, Try.ntmps10
  go_wp2_with fail
  refine (CA.out _).mono ?_; rintro e w1 ⟨rfl, hg1⟩
  have hC : ∀ j v, (#[Value.bool false, .int .i64 wd, .int .i64 least, .int .i64 most, .int .i64 left, .int .i64 right, .bool false, .bool true, .int .i64 edges] : Array Value)[j]? = some v → w1.cell? ⟨w.heap.size, j, none⟩ = some v := fun j v hv =>
    hg1.cell ((cell_of_row _ w.heap.size j _ _ _ (heap_alloc_new w _)).trans hv) (by simp)
  have hgw : w.grownBy w1 none := grown_trans (World.grownBy_alloc _ _ _) hg1
  have c0 := hC 0 _ rfl
  have c1 := hC 1 _ rfl
  have c2 := hC 2 _ rfl
  have c3 := hC 3 _ rfl
  have c4 := hC 4 _ rfl
  have c5 := hC 5 _ rfl
  have c6 := hC 6 _ rfl
  have c7 := hC 7 _ rfl
  have c8 := hC 8 _ rfl
  clear hC hg1
  go_wp2_with fail
  go_quiet (fail)
  go_wp2_with fail
  all_goals
    refine (clampW _ _ _ _).mono ?_; rintro e w2 ⟨r, rfl, hr, rfl⟩
    have hrb : 0 ≤ r ∧ r ≤ 1099511627776 := by omega
    have hw : widt of (Ask.mk false wd least most left right false true edges) = r := by simp only [widt, asks, lef, rig, Bool.false_eq_true, Bool.true_eq_false, eq_self, if_false, if_true, and_true, and_false, true_and, false_and, or_true, or_false, true_or, false_or]; omega
    have hw' := Lib.hid hw; clear hr hw
    go_wp2_with fail
    all_goals
      refine (fits3 _ _ _ _ (by unfold I64; omega) (by unfold I64; omega) (by unfold I64; omega) _ _ (by simp)).mono ?_; rintro e w3 ⟨b, rfl, hb, rfl⟩
      have hb' := Lib.hid hb; clear hb
      cases b
      all_goals
        go_wp2_with fail
        (try simp only [Exit.inBlock, Exit.then])
        refine bodyPost_ret (results_tmp4 rfl _ _ _) rfl ?_
      · exact ⟨end_ok h0'.out hb'.out (by have hw := hw'.out; simp only [lef2, rig2, free, hw, lef, rig, Bool.false_eq_true, Bool.true_eq_false, eq_self, if_false, if_true, and_true, and_false, true_and, false_and, or_true, or_false, true_or, false_or]; all_goals ((repeat' split) <;> omega)) hw'.out.symm (by have hw := hw'.out; simp only [lef2, rig2, free, hw, lef, rig, Bool.false_eq_true, Bool.true_eq_false, eq_self, if_false, if_true, and_true, and_false, true_and, false_and, or_true, or_false, true_or, false_or]; all_goals ((repeat' split) <;> omega)), grown_trans (grown_drewN hgw _) (World.grownBy_alloc _ _ _)⟩
      · exact ⟨end_far h0'.out hb'.out (by have hw := hw'.out; simp only [lef2, rig2, free, hw, lef, rig, Bool.false_eq_true, Bool.true_eq_false, eq_self, if_false, if_true, and_true, and_false, true_and, false_and, or_true, or_false, true_or, false_or]; all_goals ((repeat' split) <;> omega)) hw'.out.symm (by have hw := hw'.out; simp only [lef2, rig2, free, hw, lef, rig, Bool.false_eq_true, Bool.true_eq_false, eq_self, if_false, if_true, and_true, and_false, true_and, false_and, or_true, or_false, true_or, false_or]; all_goals ((repeat' split) <;> omega)), grown_trans (grown_drewN hgw _) (World.grownBy_alloc _ _ _)⟩

set_option maxHeartbeats 1000000 in
theorem solve_fff (of : Int) (wd least most left right edges : Int) (w : World) (ho : I64 of) (ha : (Ask.mk false wd least most left right false false edges).ok) (h0 : askedV of (Ask.mk false wd least most left right false false edges) = 0) :
    Calls Try.prog 10 #[.int .i64 of, (Ask.mk false wd least most left right false false edges).val] w fun e w' => e = .returned (solveV of (Ask.mk false wd least most left right false false edges)).val ∧ w.grownBy w' none := by
  have hz := asked_zero h0
  simp only [Bool.false_eq_true, false_implies] at hz
  obtain ⟨g1, g2, g3, g4, g5, g6, g7⟩ := hz
  have CA := Lib.hid (fun W => asked_any of (Ask.mk false wd least most left right false false edges) W ho ha)
  rw [h0] at CA
  have h0' := Lib.hid h0
  unfold Ask.val at *
  simp only at CA
  clear h0 ha ho
  go_enter Try.func10, Try.ntmps10
  go_wp2_with fail
  refine (CA.out _).mono ?_; rintro e w1 ⟨rfl, hg1⟩
  have hC : ∀ j v, (#[Value.bool false, .int .i64 wd, .int .i64 least, .int .i64 most, .int .i64 left, .int .i64 right, .bool false, .bool false, .int .i64 edges] : Array Value)[j]? = some v → w1.cell? ⟨w.heap.size, j, none⟩ = some v := fun j v hv =>
    hg1.cell ((cell_of_row _ w.heap.size j _ _ _ (heap_alloc_new w _)).trans hv) (by simp)
  have hgw : w.grownBy w1 none := grown_trans (World.grownBy_alloc _ _ _) hg1
  have c0 := hC 0 _ rfl
  have c1 := hC 1 _ rfl
  have c2 := hC 2 _ rfl
  have c3 := hC 3 _ rfl
  have c4 := hC 4 _ rfl
  have c5 := hC 5 _ rfl
  have c6 := hC 6 _ rfl
  have c7 := hC 7 _ rfl
  have c8 := hC 8 _ rfl
  clear hC hg1
  go_wp2_with fail
  go_quiet (fail)
  go_wp2_with fail
  all_goals
    refine (clampW _ _ _ _).mono ?_; rintro e w2 ⟨r, rfl, hr, rfl⟩
    have hrb : 0 ≤ r ∧ r ≤ 1099511627776 := by omega
    have hw : widt of (Ask.mk false wd least most left right false false edges) = r := by simp only [widt, asks, lef, rig, Bool.false_eq_true, Bool.true_eq_false, eq_self, if_false, if_true, and_true, and_false, true_and, false_and, or_true, or_false, true_or, false_or]; omega
    have hw' := Lib.hid hw; clear hr hw
    go_wp2_with fail
    all_goals
      refine (fits3 _ _ _ _ (by unfold I64; omega) (by unfold I64; omega) (by unfold I64; omega) _ _ (by simp)).mono ?_; rintro e w3 ⟨b, rfl, hb, rfl⟩
      have hb' := Lib.hid hb; clear hb
      cases b
      all_goals
        go_wp2_with fail
        (try simp only [Exit.inBlock, Exit.then])
        refine bodyPost_ret (results_tmp4 rfl _ _ _) rfl ?_
      · exact ⟨end_ok h0'.out hb'.out (by have hw := hw'.out; simp only [lef2, rig2, free, hw, lef, rig, Bool.false_eq_true, Bool.true_eq_false, eq_self, if_false, if_true, and_true, and_false, true_and, false_and, or_true, or_false, true_or, false_or]; all_goals ((repeat' split) <;> omega)) hw'.out.symm (by have hw := hw'.out; simp only [lef2, rig2, free, hw, lef, rig, Bool.false_eq_true, Bool.true_eq_false, eq_self, if_false, if_true, and_true, and_false, true_and, false_and, or_true, or_false, true_or, false_or]; all_goals ((repeat' split) <;> omega)), grown_trans (grown_drewN hgw _) (World.grownBy_alloc _ _ _)⟩
      · exact ⟨end_far h0'.out hb'.out (by have hw := hw'.out; simp only [lef2, rig2, free, hw, lef, rig, Bool.false_eq_true, Bool.true_eq_false, eq_self, if_false, if_true, and_true, and_false, true_and, false_and, or_true, or_false, true_or, false_or]; all_goals ((repeat' split) <;> omega)) hw'.out.symm (by have hw := hw'.out; simp only [lef2, rig2, free, hw, lef, rig, Bool.false_eq_true, Bool.true_eq_false, eq_self, if_false, if_true, and_true, and_false, true_and, false_and, or_true, or_false, true_or, false_or]; all_goals ((repeat' split) <;> omega)), grown_trans (grown_drewN hgw _) (World.grownBy_alloc _ _ _)⟩

theorem solve_any (of : Int) (a : Ask) (w : World) (ho : I64 of) (ha : a.ok) :
    Calls Try.prog 10 #[.int .i64 of, a.val] w fun e w' => e = .returned (solveV of a).val ∧ w.grownBy w' none := by
  rcases asked_cases of a with h0 | h0
  · obtain ⟨is, wd, least, most, left, right, al, ar, edges⟩ := a
    cases is <;> cases al <;> cases ar
    · exact solve_fff of wd least most left right edges w ho ha h0
    · exact solve_fft of wd least most left right edges w ho ha h0
    · exact solve_ftf of wd least most left right edges w ho ha h0
    · exact solve_ftt of wd least most left right edges w ho ha h0
    · exact solve_tff of wd least most left right edges w ho ha h0
    · exact solve_tft of wd least most left right edges w ho ha h0
    · exact solve_ttf of wd least most left right edges w ho ha h0
    · exact solve_ttt of wd least most left right edges w ho ha h0
  · have CA := Lib.hid (fun W => asked_any of a W ho ha)
    have hv := Lib.hid (solve_bad (of := of) (a := a) (by omega))
    unfold Ask.val at *
    rcases h0 with h0 | h0
    all_goals
      rw [h0] at CA hv
      clear h0 ho ha
      go_enter Try.func10, Try.ntmps10
      go_wp2_with fail
      refine (CA.out _).mono ?_; rintro e w1 ⟨rfl, hg1⟩
      go_wp2_with fail
      (try simp only [Exit.inBlock, Exit.then])
      refine bodyPost_ret (results_tmp4 rfl _ _ _) rfl ?_
      exact ⟨by rw [hv.out]; rfl, grown_trans (World.grownBy_alloc _ _ _) hg1⟩
end Go.Proofs.Ytjaeoaebkkmaaaa
