/- The walks of CrcWholes, CrcNoughts and CrcApart. -/
import Derived.Test.YtodpciiedebifaaWk2
import Derived.Test.YtodpciiedebifaaT7
import Derived.Test.YtodpciiedebifaaPl6
import Derived.Deep.RegionWith
namespace Go.Proofs.Ytodpciiedebifaa
open Go Go.RowKit

set_option maxHeartbeats 400000 in
theorem CrcWholes_walk (a0 : Option Addr) (len0 cap0 : Nat) (z0 : List Int) (w : World) (w0 : IsRow .u8 w a0 len0 cap0 z0) :
    Calls Try.prog 5 #[.slice a0 len0 cap0] w fun e w' => e = .returned (.bool true) ∧ Below w.heap.size w w' := by
  have b0 := w0.len_
  obtain ⟨l, hl, hb, hr⟩ := w0.bytes_
  by_cases h0 : 2000 < len0
  · go_enter Try.func5, Try.ntmps5
    go_wp2
    go_ret
    exact ⟨rfl, Below.refl _ _⟩
  have CA := Lib.hid (fun A c W B (hrW : Reads W B A (l.map byte)) (h1 : len0 ≤ c) h2 => without_any A len0 c l W B hl hrW hb (by omega) h1 h2)
  have CB := Lib.hid (fun A c W B (hrW : Reads W B A (l.map byte)) (h1 : len0 ≤ c) h2 => refwithout_any A len0 c l W B hl hrW hb (by omega) h1 h2)
  have CC := Lib.hid (fun A c W B (hrW : Reads W B A (l.map byte)) (h1 : len0 ≤ c) h2 => whole_any A len0 c l W B hl hrW hb (by omega) h1 h2)
  have hdb : Byt (if wholeB l = true then l.take (len0 - 4) else []) := by
    split
    · exact byt_take hb _
    · simp [Byt]
  have hdl : (if wholeB l = true then l.take (len0 - 4) else []).length ≤ 2000 := by
    split
    · rw [List.length_take]; omega
    · simp
  generalize (if wholeB l = true then l.take (len0 - 4) else []) = d at *
  generalize wholeB l = bw at *
  have hbw : (bw != bw) = false := by simp
  go_enter Try.func5, Try.ntmps5
  go_wp2_with fail
  refine (copy_any a0 len0 cap0 l _ _ hl hr (by omega)).mono ?_; rintro e w1 ⟨A1, c1, rfl, hown1, hg1⟩
  have hc1 := hown1.2.1
  have hc1' : c1 ≤ 9223372036854775807 := by have := hown1.2.2.1; unfold maxLen at this; omega
  go_wp2_with fail
  refine (CA.out A1 c1 _ _ hown1.reads hc1 hc1').mono ?_; rintro e w2 ⟨A2, m2, c2, rfl, hown2, hg2⟩
  go_wp2_with fail
  refine (CB.out a0 cap0 _ _ ((hr.grown0 hg1).grown0 hg2) (by omega) (by omega)).mono ?_; rintro e w3 ⟨A3, m3, c3, rfl, hown3, hg3⟩
  go_wp2_with fail
  refine (CC.out A1 c1 _ _ ((hown1.grown0 hg2).grown0 hg3).reads hc1 hc1').mono ?_; rintro e w4 ⟨rfl, hg4⟩
  go_wp2_with fail
  have e2 := hown2.len
  have e3 := hown3.len
  rw [List.length_map, Nat.mul_one] at e2 e3
  refine (same_true A2 A3 m2 c2 m3 c3 d _ _ _ e2 e3 ((hown2.grown0 hg3).grown0 hg4).reads (hown3.grown0 hg4).reads (by omega)).mono ?_; rintro e w5 ⟨rfl, hg5⟩
  have hm2 : m2 ≤ 2000 := by omega
  have hw2 := ((hown2.grown0 hg3).grown0 hg4).grown0 hg5
  have hgr := grown_trans hg2 (grown_trans hg3 (grown_trans hg4 hg5))
  have hl2 := Lib.hid e2
  clear hown2 hown3 hg2 hg3 hg4 hg5 e2 e3
  go_wp2_with fail
  go_loopw [8] (fun v wr => ∃ (j : Nat) (xs : List Nat), j ≤ m2 ∧ v = .int .i64 j ∧ xs.length = m2 ∧ Byt xs ∧ Own wr w1.heap.size 5 1 A2 m2 c2 (xs.map byte) ∧ w1.grownBy wr none) (fun v _ => m2 - (intOf v).toNat)
  case atStart => exact ⟨0, d, by omega, rfl, hl2.out, hdb, hw2, hgr⟩
  case round =>
    obtain ⟨j, xs, hj, rfl, hxl, hxb, hxo, hxg⟩ := hrel
    clear hw2
    have hxl' := Lib.hid hxl; clear hxl
    by_cases hlt2 : j < m2
    · obtain ⟨g, rfl, hg0, hg1', hc, hf⟩ := hxo.byte_at (k := j) (by rw [hxl'.out]; exact hlt2)
      have hx := hxb.nth j
      go_wp2
      go_roundw
      case rel => exact ⟨j + 1, xs.set j ((nth xs j + 1) % 256), by omega, by go_num, by rw [List.length_set]; exact hxl'.out, byt_set hxb (by omega), hxo.put_ _ _, grown_put hxg hg0 _ _⟩
      case measure => simp [intOf]; omega
    · have hown1' := hown1.grown0 hxg
      go_wp2_with fail
      refine (same_true A1 a0 len0 c1 len0 cap0 l _ _ _ hl hl hown1'.reads ((hr.grown0 hg1).grown0 hxg) (by omega)).mono ?_; rintro e w6 ⟨rfl, hg6⟩
      go_wp2
      go_ret
      exact ⟨rfl, grown_below (grown_trans hg1 (grown_trans hxg hg6))⟩

theorem CrcNoughts_walk (n : Int) (_hn : (Lit.int .i64 n).wf = true) (w : World) :
    Calls Try.prog 8 #[.int .i64 n] w fun e w' => e = .returned (.bool true) ∧ Below w.heap.size w w' := by
  by_cases h1 : n < 0
  · go_enter Try.func8, Try.ntmps8
    go_wp2_with fail
    refine (awake_any _).mono ?_; rintro e w1 ⟨rfl, hg1⟩
    go_wp2
    go_ret
    exact ⟨rfl, grown_below hg1⟩
  by_cases h2 : 132 < n
  · go_enter Try.func8, Try.ntmps8
    go_wp2_with fail
    refine (awake_any _).mono ?_; rintro e w1 ⟨rfl, hg1⟩
    go_wp2
    go_ret
    exact ⟨rfl, grown_below hg1⟩
  obtain ⟨m, rfl⟩ := Int.eq_ofNat_of_zero_le (by omega : 0 ≤ n)
  have hm : m ≤ 132 := by omega
  have hk := Lib.hid (noughts m hm)
  obtain ⟨i0, hi0, hz0, hz1, hz2⟩ := info_parts info8
  have hfin : (decide (m = 4) == ((m : Int) == 4)) = true := by
    rw [beq_iff_eq, Bool.eq_iff_iff, decide_eq_true_eq, beq_iff_eq]; omega
  have hfin' := Lib.hid hfin; clear hfin
  go_enter Try.func8, Try.ntmps8
  go_wp2_with fail
  refine (awake_any _).mono ?_; rintro e w1 ⟨rfl, hg1⟩
  go_wp2_with (at_make; refine wpList_make_full _ rfl (.tmp 11) (.tmp 11) _ rfl w.heap.size 5 i0 _ 1 Try.underlying22 hi0 hz0 hz1 _ _ _ _ m rfl rfl rfl rfl (by rw [hz2]; omega) (by unfold maxLen; omega) hg1.size ?_; intro w2 hown2 hg2)
  rw [made8] at hown2
  have ho := (ownsRow_Own hown2).reads
  refine (whole_any _ m m _ _ _ (by simp) ho (noughts_byt m) (by omega) (Nat.le_refl _) (by omega)).mono ?_; rintro e w3 ⟨rfl, hg3⟩
  rw [hk.out]
  go_wp2
  go_ret
  refine ⟨?_, grown_below (grown_trans hg1 (grown_trans hg2 hg3))⟩
  exact congrArg (fun b => Ending.returned (.bool b)) hfin'.out
end Go.Proofs.Ytodpciiedebifaa
