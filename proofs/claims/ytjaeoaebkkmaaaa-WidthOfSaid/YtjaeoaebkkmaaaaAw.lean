/- The walk of the examples (awake) of the width's laws. -/
import Derived.Test.YtjaeoaebkkmaaaaSol
import Derived.Test.YtjaeoaebkkmaaaaFt
import Derived.Test.YtjaeoaebkkmaaaaOpn
namespace Go.Proofs.Ytjaeoaebkkmaaaa
open Go Go.RowKit
theorem base_any (w : World) : Calls Try.prog 22 #[] w fun e w' => e = .returned (.agg #[.bool false, .int .i64 0, .int .i64 0, .int .i64 1000, .int .i64 5, .int .i64 7, .bool false, .bool false, .int .i64 10]) ∧ w.grownBy w' none := by
  go_enter Try.func22, Try.ntmps22
  go_wp2
  exact bodyPost_ret (v := .agg #[.bool false, .int .i64 0, .int .i64 0, .int .i64 1000, .int .i64 5, .int .i64 7, .bool false, .bool false, .int .i64 10]) (by simp [results, Try.results22, go_sem]) rfl ⟨rfl, World.grownBy_alloc _ _ _⟩
theorem told_true (is al ar : Bool) (wd least most left right edges x y z : Int) (w : World) (ha : (Ask.mk is wd least most left right al ar edges).ok) (h : solveV 100 (Ask.mk is wd least most left right al ar edges) = ⟨x, y, z, 0⟩) :
    Calls Try.prog 23 #[.agg #[.bool is, .int .i64 wd, .int .i64 least, .int .i64 most, .int .i64 left, .int .i64 right, .bool al, .bool ar, .int .i64 edges], .int .i64 x, .int .i64 y, .int .i64 z] w fun e w' => e = .returned (.bool true) ∧ w.grownBy w' none := by
  have C := Lib.hid (fun W => solve_any 100 (Ask.mk is wd least most left right al ar edges) W (by unfold I64; omega) ha)
  rw [h] at C
  unfold Four.val Ask.val at C
  clear h ha
  go_enter Try.func23, Try.ntmps23
  go_wp2_with fail
  refine (C.out _).mono ?_; rintro e w1 ⟨rfl, hg1⟩
  go_wp2
  go_ret
  exact ⟨by simp, grown_trans (World.grownBy_alloc _ _ _) hg1⟩
set_option maxHeartbeats 1000000 in
theorem awake_any (w : World) : Calls Try.prog 14 #[] w fun e w' => e = .returned (.bool true) ∧ w.grownBy w' none := by
  go_enter Try.func14, Try.ntmps14
  go_wp2_with fail
  refine (base_any _).mono ?_; rintro e w1 ⟨rfl, hg1⟩
  go_wp2_with fail
  refine (base_any _).mono ?_; rintro e w2 ⟨rfl, hg2⟩
  go_wp2_with fail
  refine (base_any _).mono ?_; rintro e w3 ⟨rfl, hg3⟩
  go_wp2_with fail
  refine (base_any _).mono ?_; rintro e w4 ⟨rfl, hg4⟩
  go_wp2_with fail
  refine (base_any _).mono ?_; rintro e w5 ⟨rfl, hg5⟩
  go_wp2_with fail
  refine (base_any _).mono ?_; rintro e w6 ⟨rfl, hg6⟩
  have hg := grown_trans hg1 (grown_trans hg2 (grown_trans hg3 (grown_trans hg4 (grown_trans hg5 hg6))))
  clear hg1 hg2 hg3 hg4 hg5 hg6
  go_wp2_with fail
  refine (base_any _).mono ?_; rintro e w7 ⟨rfl, hg7⟩
  have hW := Lib.hid hg7
  go_wp2_with fail
  refine (told_true _ _ _ _ _ _ _ _ _ _ _ _ _ (by unfold Ask.ok I64; simp) (by kernel_rfl)).mono ?_; rintro e w8 ⟨rfl, hg8⟩
  have hg8' := grown_trans hg7 hg8
  clear hg8
  obtain ⟨hc, hf⟩ := old_cells hg8'
  simp only [World.size_alloc] at hc hf
  go_wp2_with fail
  refine (told_true _ _ _ _ _ _ _ _ _ _ _ _ _ (by unfold Ask.ok I64; simp) (by kernel_rfl)).mono ?_; rintro e w9 ⟨rfl, hg9⟩
  have hg9' := grown_trans hg8' hg9
  clear hg9
  clear hc hf hg8'
  obtain ⟨hc, hf⟩ := old_cells hg9'
  simp only [World.size_alloc] at hc hf
  go_wp2_with fail
  refine (told_true _ _ _ _ _ _ _ _ _ _ _ _ _ (by unfold Ask.ok I64; simp) (by kernel_rfl)).mono ?_; rintro e w10 ⟨rfl, hg10⟩
  have hg10' := grown_trans hg9' hg10
  clear hg10
  clear hc hf hg9'
  obtain ⟨hc, hf⟩ := old_cells hg10'
  simp only [World.size_alloc] at hc hf
  go_wp2_with fail
  refine (told_true _ _ _ _ _ _ _ _ _ _ _ _ _ (by unfold Ask.ok I64; simp) (by kernel_rfl)).mono ?_; rintro e w11 ⟨rfl, hg11⟩
  have hg11' := grown_trans hg10' hg11
  clear hg11
  clear hc hf hg10'
  obtain ⟨hc, hf⟩ := old_cells hg11'
  simp only [World.size_alloc] at hc hf
  go_wp2_with fail
  refine (told_true _ _ _ _ _ _ _ _ _ _ _ _ _ (by unfold Ask.ok I64; simp) (by kernel_rfl)).mono ?_; rintro e w12 ⟨rfl, hg12⟩
  have hg12' := grown_trans hg11' hg12
  clear hg12
  clear hc hf hg11'
  obtain ⟨hc, hf⟩ := old_cells hg12'
  simp only [World.size_alloc] at hc hf
  go_wp2_with fail
  refine (told_true _ _ _ _ _ _ _ _ _ _ _ _ _ (by unfold Ask.ok I64; simp) (by kernel_rfl)).mono ?_; rintro e w13 ⟨rfl, hg13⟩
  have hg13' := grown_trans hg12' hg13
  clear hg13
  clear hc hf hg12'
  obtain ⟨hc, hf⟩ := old_cells hg13'
  simp only [World.size_alloc] at hc hf
  go_wp2_with fail
  refine (told_true _ _ _ _ _ _ _ _ _ _ _ _ _ (by unfold Ask.ok I64; simp) (by kernel_rfl)).mono ?_; rintro e w14 ⟨rfl, hg14⟩
  have hg14' := grown_trans hg13' hg14
  clear hg14
  clear hc hf hg13'
  go_wp2_with fail
  refine (fit_any _ _ _ _).mono ?_; rintro e wf ⟨rfl, rfl⟩
  go_wp2_with fail
  refine (fit_any _ _ _ _).mono ?_; rintro e wf ⟨rfl, rfl⟩
  go_wp2_with fail
  refine (fit_any _ _ _ _).mono ?_; rintro e wf ⟨rfl, rfl⟩
  go_wp2_with fail
  go_ret
  exact ⟨rfl, grown_trans (grown_trans hg (grown_trans (World.grownBy_alloc _ _ _) (grown_trans (World.grownBy_alloc _ _ _) (grown_trans (World.grownBy_alloc _ _ _) (grown_trans (World.grownBy_alloc _ _ _) (grown_trans (World.grownBy_alloc _ _ _) (World.grownBy_alloc _ _ _))))))) hg14'⟩
end Go.Proofs.Ytjaeoaebkkmaaaa
