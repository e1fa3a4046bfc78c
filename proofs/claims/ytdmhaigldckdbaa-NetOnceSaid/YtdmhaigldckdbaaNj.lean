/- awake. -/
import Derived.Test.YtdmhaigldckdbaaNi
import Derived.Deep.OwnRows
namespace Go.Proofs.Ytdmhaigldckdbaa
open Go Go.RowKit
/-- The flights 0, 1, ... -/
def upTo (k : Nat) : List (Int × List Nat) := (List.range k).map fun (i : Nat) => ((i : Int), [])
theorem upTo_len (k : Nat) : (upTo k).length = k := by simp [upTo]
theorem upTo_succ (k : Nat) : upTo (k + 1) = upTo k ++ [((k : Int), [])] := by simp [upTo, List.range_succ]
set_option maxRecDepth 100000 in
set_option maxHeartbeats 2000000 in
theorem awake_any (w : World) : Calls Try.prog 8 #[] w fun e w' => e = .returned (.bool true) ∧ w.grownBy w' none := by
  obtain ⟨M, hmk⟩ : ∃ M, ∀ W : World, (Instr.makeSlice 27 (.int .i64 129) (.int .i64 129)).run Try.prog W = .ok (.slice (some ⟨W.heap.size, 0, none⟩) 129 129) (W.alloc (.cells M 5)) := ⟨_, fun W => run_make_row' 27 5 _ 1 Try.underlying27 infoU8 rfl .i64 .i64 129 (by omega) (by omega) W⟩
  have C0 := Lib.hid (at_new w w (World.grownBy.refl w none))
  have C1 := Lib.hid (fun g W h => at_sarg w W g [] 6 (.slice none 0 0) h (.inr (by omega)))
  have C2 := Lib.hid (fun g W A h => at_slong w W g [] 0 A 129 129 h (by omega) (by omega) (by omega))
  have C3 := Lib.hid (fun g W h => at_send0 w W g [] (-1) h (by simp) (by omega))
  have C4 := Lib.hid (fun g W h => to_ok w W g [(-1, [])] 0 h (by simp) (-1, []) rfl)
  have C5 := Lib.hid (fun g W h => at_send0 w W g [] 0 h (by simp) (by omega))
  have C6 := Lib.hid (fun g W h => at_send0 w W g [(0, [])] 1 h (by simp) (by omega))
  have C7 := Lib.hid (fun g W h => at_send0 w W g [(0, []), (1, [])] 2 h (by simp) (by omega))
  have C8 := Lib.hid (fun g W h => to_ok w W g [(0, []), (1, []), (2, [])] 4 h (by simp) (1, []) rfl)
  have C9 := Lib.hid (fun g W h => to_ok w W g [(0, []), (2, [])] (-1) h (by simp) (0, []) rfl)
  have Ca := Lib.hid (fun g W h => to_ok w W g [(2, [])] 7 h (by simp) (2, []) rfl)
  have Cb := Lib.hid (fun g W h => to_none w W g 0 h)
  go_enter Try.func8, Try.ntmps8
  go_wp2_with fail
  refine C0.out.mono ?_; rintro e w1 ⟨g, rfl, h1⟩
  go_wp2_with fail
  refine (C1.out g _ h1).mono ?_; rintro e w2 ⟨rfl, h2⟩
  go_wp2_with fail
  refine (C2.out g _ _ (h2.grown0 (World.grownBy_alloc _ _ _))).mono ?_; rintro e w3 ⟨rfl, h3⟩
  go_wp2_with fail
  refine (C3.out g _ h3).mono ?_; rintro e w4 ⟨rfl, h4⟩
  go_wp2_with fail
  refine (C4.out g _ h4).mono ?_; rintro e w5 ⟨rfl, h5⟩
  go_wp2_with fail
  replace h5 : At w g (upTo 0) w5 := h5
  have CS := Lib.hid (fun (k : Nat) W (hk : k < 3) (h : At w g (upTo k) W) => at_send0 w W g (upTo k) (k : Int) h (by rw [upTo_len]; omega) (by omega))
  go_loopw [2] (fun v wr => ∃ k : Nat, k ≤ 3 ∧ v = .int .i64 k ∧ At w g (upTo k) wr) (fun v _ => 3 - (intOf v).toNat)
  case atStart => exact ⟨0, by omega, rfl, h5⟩
  case round =>
    obtain ⟨k, hk, rfl, h6⟩ := hrel
    clear h1 h2 h3 h4 h5
    by_cases hlt : k < 3
    · go_wp2_with fail
      refine (CS.out k _ hlt h6).mono ?_; rintro e w6 ⟨rfl, h7⟩
      rw [← upTo_succ] at h7
      go_wp2_with fail
      go_roundw
      case rel => exact ⟨k + 1, by omega, by go_num, h7⟩
      case measure => simp [intOf]; omega
    · obtain rfl : k = 3 := by omega
      go_wp2_with fail
      refine (C8.out g _ h6).mono ?_; rintro e w6 ⟨rfl, h7⟩
      go_wp2_with fail
      refine (C9.out g _ h7).mono ?_; rintro e w8 ⟨rfl, h8⟩
      go_wp2_with fail
      refine (Ca.out g _ h8).mono ?_; rintro e w9 ⟨rfl, h9⟩
      go_wp2_with fail
      refine (Cb.out g _ h9).mono ?_; rintro e wa ⟨rfl, ha⟩
      go_wp2_with fail
      go_ret
      exact ⟨rfl, ha.1⟩
end Go.Proofs.Ytdmhaigldckdbaa
