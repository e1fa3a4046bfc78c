/- The walk of PacketBack. -/
import Derived.Test.YthijicpfihpkfaaPt
import Derived.Test.YthijicpfihpkfaaPa
namespace Go.Proofs.Ythijicpfihpkfaa
open Go Go.RowKit
theorem openE_is {l : List Nat} (hb : Byt l) : (openE l = 0 ∧ sealV (openV l) = l ∧ sealE (openV l) = 0 ∧ openL l = some (openV l)) ∨ (openE l = 250 ∧ openV l = [] ∧ openL l = none) := by
  unfold openE openV
  cases h : openL l with
  | none => exact .inr ⟨rfl, rfl, rfl⟩
  | some m =>
    obtain ⟨h1, h2⟩ := openL_some hb h
    refine .inl ⟨rfl, ?_, if_pos h2, rfl⟩
    rw [Option.getD_some]
    unfold sealV
    rw [if_pos h2, ← h1]
theorem open_seal {m : List Nat} (h : m.length ≤ 123) : openV (sealV m) = m ∧ openE (sealV m) = 0 ∧ (sealV m).length = m.length + 5 ∧ sealE m = 0 := by
  have e : sealV m = sealL m := if_pos h
  rw [e]
  unfold openV openE
  rw [openL_seal h]
  exact ⟨rfl, rfl, sealL_len5 h, if_pos h⟩
set_option maxRecDepth 100000 in
set_option maxHeartbeats 4000000 in
theorem PacketBack_walk (a0 : Option Addr) (len0 cap0 : Nat) (z0 : List Int) (a1 : Option Addr) (len1 cap1 : Nat) (z1 : List Int) (w : World) (w0 : IsRow .u8 w a0 len0 cap0 z0) (w1 : IsRow .u8 w a1 len1 cap1 z1) :
    Calls Try.prog 12 #[.slice a0 len0 cap0, .slice a1 len1 cap1] w fun e w' => e = .returned (.bool true) ∧ Below w.heap.size w w' := by
  have b0 := w0.len_
  have b1 := w1.len_
  obtain ⟨l, hl, hb, hr⟩ := w0.bytes_
  obtain ⟨m, hm, hmb, hmr⟩ := w1.bytes_
  clear w0 w1
  by_cases h0 : 500 < len0
  · go_enter Try.func12, Try.ntmps12
    go_wp2_with fail
    refine (pawake_any _).mono ?_; rintro e w0 ⟨rfl, hg0⟩
    go_wp2
    go_ret
    exact ⟨rfl, grown_below hg0⟩
  by_cases h1 : 500 < len1
  · go_enter Try.func12, Try.ntmps12
    go_wp2_with fail
    refine (pawake_any _).mono ?_; rintro e w0 ⟨rfl, hg0⟩
    go_wp2
    go_ret
    exact ⟨rfl, grown_below hg0⟩
  have CS := Lib.hid (fun W (hg : w.grownBy W none) => seal_any a0 len0 cap0 l W hl ((hr.grown0 hg).more hg.size) hb (by omega))
  have CO := Lib.hid (fun W (hg : w.grownBy W none) => popen_any a1 len1 cap1 m W hm ((hmr.grown0 hg).more hg.size) hmb (by omega) b1.1 b1.2)
  have hs128 := sealV_len l
  obtain ⟨ho123, hob⟩ := openV_is hmb
  have CP := Lib.hid (fun A c W (hrr : Reads W W.heap.size A ((openV m).map byte)) => seal_any A (openV m).length c (openV m) W rfl hrr hob (by omega))
  have hmis := openE_is hmb
  have CT := Lib.hid (fun A c W (hrr : Reads W W.heap.size A (m.map byte)) (hg : w.grownBy W none) => psame_yes A a1 len1 c len1 cap1 m W W.heap.size w.heap.size hm hm hrr (hmr.grown0 hg) (by omega))
  have hm' := Lib.hid hm
  by_cases h123 : len0 ≤ 123
  · obtain ⟨e1, e2, e3, e4⟩ := open_seal (m := l) (by omega)
    have CX := Lib.hid (fun A c W (hnc : len0 + 5 ≤ c) (hc : c ≤ 9223372036854775807) (hrr : Reads W W.heap.size A ((sealV l).map byte)) => popen_any A (len0 + 5) c (sealV l) W (by rw [e3, hl]) hrr (sealV_byt hb) (by omega) hnc hc)
    have CY := Lib.hid (fun A c W B (hrr : Reads W B A (l.map byte)) (hg : w.grownBy W none) => psame_yes A a0 len0 c len0 cap0 l W B w.heap.size hl hl hrr (hr.grown0 hg) (by omega))
    rw [e1, e2, hl] at CX
    rw [e3, e4, hl] at CS
    generalize sealV l = sv at *
    clear e1 e2 e3 e4 hl hm hb hmb hr hmr hs128
    have hd : decide ((len0 : Int) ≤ 123) = true := by simp; omega
    go_enter Try.func12, Try.ntmps12
    go_wp2_with fail
    refine (pawake_any _).mono ?_; rintro e w0 ⟨rfl, hg0⟩
    go_wp2_with fail
    refine (CS.out _ hg0).mono ?_; rintro e w1 ⟨A1, c1, rfl, hown1, hg1⟩
    have k1 := hown1.2.1
    have k2 : c1 ≤ 9223372036854775807 := by have := hown1.2.2.1; unfold maxLen at this; omega
    have hgA := grown_trans hg0 hg1
    clear hg0 hg1
    go_wp2_with fail
    refine (room_any _).mono ?_; rintro e w2 ⟨rfl, hg2⟩
    have hgB := grown_trans hgA hg2
    have hown2 := hown1.grown0 hg2
    clear hgA hg2 hown1
    go_wp2_with fail
    refine (CX.out _ _ _ k1 k2 hown2.reads).mono ?_; rintro e w3 ⟨A3, c3, rfl, htl3, hg3⟩
    have hgC := grown_trans hgB hg3
    clear hgB hg3 hown2
    go_wp2_with fail
    refine (CY.out _ _ _ _ htl3.reads hgC).mono ?_; rintro e w4 ⟨rfl, hg4⟩
    have hgD := grown_trans hgC hg4
    clear hgC hg4 htl3
    go_wp2_with fail
    refine (CO.out _ hgD).mono ?_; rintro e w5 ⟨A5, c5, rfl, htl5, hg5⟩
    have hgE := grown_trans hgD hg5
    clear hgD hg5
    rcases hmis with ⟨q1, q2, q3, _⟩ | ⟨q1, q2, _⟩
    · rw [q2, q3] at CP
      rw [q1]
      have CP' := Lib.hid (CP.out _ c5 _ htl5.reads)
      rw [hm'.out] at CP'
      generalize openV m = om at *
      clear q1 q2 q3 CP
      go_wp2_with fail
      refine CP'.out.mono ?_; rintro e w6 ⟨A6, c6, rfl, hown6, hg6⟩
      have hgF := grown_trans hgE hg6
      go_wp2_with fail
      refine (CT.out _ _ _ hown6.reads hgF).mono ?_; rintro e w7 ⟨rfl, hg7⟩
      go_wp2
      go_ret
      exact ⟨rfl, grown_below (grown_trans hgF hg7)⟩
    · rw [q1, q2]
      clear q1 q2
      go_wp2
      go_ret
      exact ⟨rfl, grown_below hgE⟩
  · have e5 : sealV l = [] := if_neg (by omega)
    have e6 : sealE l = 3 := if_neg (by omega)
    rw [e5, e6] at CS
    clear e5 e6 hl hm hb hmb hr hmr hs128
    have hd : decide ((len0 : Int) ≤ 123) = false := by simp; omega
    go_enter Try.func12, Try.ntmps12
    go_wp2_with fail
    refine (pawake_any _).mono ?_; rintro e w0 ⟨rfl, hg0⟩
    go_wp2_with fail
    refine (CS.out _ hg0).mono ?_; rintro e w1 ⟨A1, c1, rfl, hown1, hg1⟩
    have k1 := hown1.2.1
    have k2 : c1 ≤ 9223372036854775807 := by have := hown1.2.2.1; unfold maxLen at this; omega
    have hgA := grown_trans hg0 hg1
    clear hg0 hg1
    go_wp2_with fail
    refine (room_any _).mono ?_; rintro e w2 ⟨rfl, hg2⟩
    have hgB := grown_trans hgA hg2
    have hown2 := hown1.grown0 hg2
    clear hgA hg2 hown1
    have hgD := hgB
    clear hgB hown2
    go_wp2_with fail
    refine (CO.out _ hgD).mono ?_; rintro e w5 ⟨A5, c5, rfl, htl5, hg5⟩
    have hgE := grown_trans hgD hg5
    clear hgD hg5
    rcases hmis with ⟨q1, q2, q3, _⟩ | ⟨q1, q2, _⟩
    · rw [q2, q3] at CP
      rw [q1]
      have CP' := Lib.hid (CP.out _ c5 _ htl5.reads)
      rw [hm'.out] at CP'
      generalize openV m = om at *
      clear q1 q2 q3 CP
      go_wp2_with fail
      refine CP'.out.mono ?_; rintro e w6 ⟨A6, c6, rfl, hown6, hg6⟩
      have hgF := grown_trans hgE hg6
      go_wp2_with fail
      refine (CT.out _ _ _ hown6.reads hgF).mono ?_; rintro e w7 ⟨rfl, hg7⟩
      go_wp2
      go_ret
      exact ⟨rfl, grown_below (grown_trans hgF hg7)⟩
    · rw [q1, q2]
      clear q1 q2
      go_wp2
      go_ret
      exact ⟨rfl, grown_below hgE⟩
end Go.Proofs.Ythijicpfihpkfaa
