/- The walk of the chapter's examples. -/
import Derived.Test.YtodpciiedebifaaT6
import Derived.Lib.SlBytesConst
namespace Go.Proofs.Ytodpciiedebifaa
open Go Go.RowKit
set_option maxHeartbeats 1000000 in
theorem awake_any (w : World) : Calls Try.prog 21 #[] w fun e w' => e = .returned (.bool true) ∧ w.grownBy w' none := by
  have s0 : sum [] = 0 := by decide +kernel
  have s1 : sum [49, 50, 51, 52, 53, 54, 55, 56, 57] = 3421780262 := by decide +kernel
  have s2 : sum [0] = 3523407757 := by decide +kernel
  have d1 : differ [1] [3] = 1 := by decide +kernel
  have d2 : differ [255, 0] [255] = 8 := by decide +kernel
  have k1 : wholeB [0, 0, 0, 0] = true := by decide +kernel
  have k2 : wholeB [0, 0, 0] = false := by decide +kernel
  have hm4 : ∀ W, (Instr.makeSlice 22 (.int .i64 4) (.int .i64 4)).run Try.prog W = .ok (.slice (some ⟨W.heap.size, 0, none⟩) 4 4) (W.alloc (.cells (([0, 0, 0, 0] : List Nat).map byte).toArray 5)) := fun _ => by kernel_rfl
  have hm3 : ∀ W, (Instr.makeSlice 22 (.int .i64 3) (.int .i64 3)).run Try.prog W = .ok (.slice (some ⟨W.heap.size, 0, none⟩) 3 3) (W.alloc (.cells (([0, 0, 0] : List Nat).map byte).toArray 5)) := fun _ => by kernel_rfl
  have kc := fun (W : World) (C : Array Value) (n c : Nat) => Lib.run_convert_bytes_const (P := Try.prog) W 22 5 C n c Try.underlying22 Try.underlying5
  have S0 := Lib.hid s0; have S1 := Lib.hid s1; have S2 := Lib.hid s2; have D1 := Lib.hid d1; have D2 := Lib.hid d2; have K1 := Lib.hid k1; have K2 := Lib.hid k2
  clear s0 s1 s2 d1 d2 k1 k2
  go_enter Try.func21, Try.ntmps21
  go_wp2_with fail
  refine (sum_any none 0 0 [] _ 0 rfl Reads.nil_ (by simp [Byt]) (by omega)).mono ?_; rintro e w1 ⟨rfl, hg1⟩
  rw [S0.out]
  go_wp2_with fail
  refine (sum_any _ 9 9 [49, 50, 51, 52, 53, 54, 55, 56, 57] _ _ rfl (Reads.mark_ _ _ [49, 50, 51, 52, 53, 54, 55, 56, 57] _) (by simp [Byt]) (by omega)).mono ?_; rintro e w2 ⟨rfl, hg2⟩
  rw [S1.out]
  have hg2' := grown_trans hg1 (grown_trans (World.grownBy_alloc _ _ _) hg2)
  clear hg1 hg2
  go_wp2_with fail
  refine (sum_any _ 1 1 [0] _ _ rfl (Reads.new_ _ _ [0] (by decide)) (by simp [Byt]) (by omega)).mono ?_; rintro e w3 ⟨rfl, hg3⟩
  rw [S2.out]
  have hg3' := grown_trans hg2' (grown_trans (World.grownBy_alloc _ _ _) hg3)
  clear hg2' hg3
  go_wp2_with fail
  refine (with_any' none 0 0 [] _ 0 rfl Reads.nil_ (by simp [Byt]) (by omega)).mono ?_; rintro e w4 ⟨A4, rfl, _, hg4⟩
  have hg4' := grown_trans hg3' hg4
  clear hg3' hg4
  go_wp2_with fail
  refine (whole_any _ 4 4 [0, 0, 0, 0] _ _ rfl (Reads.new_ _ _ [0, 0, 0, 0] (by decide)) (by simp [Byt]) (by omega) (by omega) (by omega)).mono ?_; rintro e w5 ⟨rfl, hg5⟩
  rw [K1.out]
  have hg5' := grown_trans hg4' (grown_trans (World.grownBy_alloc _ _ _) hg5)
  clear hg4' hg5
  go_wp2_with fail
  refine (whole_any _ 3 3 [0, 0, 0] _ _ rfl (Reads.new_ _ _ [0, 0, 0] (by decide)) (by simp [Byt]) (by omega) (by omega) (by omega)).mono ?_; rintro e w6 ⟨rfl, hg6⟩
  rw [K2.out]
  have hg6' := grown_trans hg5' (grown_trans (World.grownBy_alloc _ _ _) hg6)
  clear hg5' hg6
  go_wp2_with fail
  refine (differ_any _ _ 1 1 1 1 [1] [3] _ _ _ rfl rfl ((Reads.new_ _ _ [1] (by decide)).alloc _) (Reads.new2_ _ _ _ [3] (by decide)) (by simp [Byt]) (by simp [Byt]) (by omega) (by omega)).mono ?_; rintro e w7 ⟨rfl, hg7⟩
  rw [D1.out]
  have hg7' := grown_trans hg6' (grown_trans (grown_trans (World.grownBy_alloc _ _ _) (World.grownBy_alloc _ _ _)) hg7)
  clear hg6' hg7
  go_wp2_with fail
  refine (differ_any _ _ 2 2 1 1 [255, 0] [255] _ _ _ rfl rfl ((Reads.new_ _ _ [255, 0] (by decide)).alloc _) (Reads.new2_ _ _ _ [255] (by decide)) (by simp [Byt]) (by simp [Byt]) (by omega) (by omega)).mono ?_; rintro e w8 ⟨rfl, hg8⟩
  rw [D2.out]
  have hg8' := grown_trans hg7' (grown_trans (grown_trans (World.grownBy_alloc _ _ _) (World.grownBy_alloc _ _ _)) hg8)
  clear hg7' hg8
  go_wp2
  go_ret
  exact ⟨rfl, hg8'⟩
end Go.Proofs.Ytodpciiedebifaa
