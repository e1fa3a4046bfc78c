/- The walk of PacketSeals. -/
import Derived.Test.YthijicpfihpkfaaPk
import Derived.Test.YthijicpfihpkfaaRq
namespace Go.Proofs.Ythijicpfihpkfaa
open Go Go.RowKit
theorem psame_yes (A1 A2 : Option Addr) (n1 c1 n2 c2 : Nat) (l : List Nat) (w : World) (B1 B2 : Nat) (h1 : l.length = n1) (h2 : l.length = n2) (r1 : Reads w B1 A1 (l.map byte)) (r2 : Reads w B2 A2 (l.map byte)) (hn : n1 ≤ 1000000) :
    Calls Try.prog 17 #[.slice A1 n1 c1, .slice A2 n2 c2] w fun e w' => e = .returned (.bool true) ∧ w.grownBy w' none :=
  same_lit A1 A2 n1 c1 n2 c2 l l true (by simp) w B1 B2 h1 h2 r1 r2 hn (by omega)
theorem sealE_is (l : List Nat) : (sealE l = 0 ∧ l.length ≤ 123) ∨ (sealE l = 3 ∧ 123 < l.length) := by
  unfold sealE
  split
  · exact .inl ⟨rfl, by omega⟩
  · exact .inr ⟨rfl, by omega⟩
set_option maxRecDepth 100000 in
set_option maxHeartbeats 2000000 in
theorem PacketSeals_walk (a0 : Option Addr) (len0 cap0 : Nat) (z0 : List Int) (w : World) (w0 : IsRow .u8 w a0 len0 cap0 z0) :
    Calls Try.prog 8 #[.slice a0 len0 cap0] w fun e w' => e = .returned (.bool true) ∧ Below w.heap.size w w' := by
  have b0 := w0.len_
  obtain ⟨l, hl, hb, hr⟩ := w0.bytes_
  by_cases h0 : 1000 < len0
  · go_enter Try.func8, Try.ntmps8
    go_wp2
    go_ret
    exact ⟨rfl, Below.refl _ _⟩
  have hE := sealE_is l
  rw [hl] at hE
  have hsl := sealV_len l
  have hsb := Lib.hid (sealV_byt hb)
  have CC := Lib.hid (copy_any a0 len0 cap0 l w _ hl hr (by omega))
  have CR := Lib.hid (fun W (hg : w.grownBy W none) => rseal_any a0 len0 cap0 l W hl ((hr.grown0 hg).more hg.size) hb (by omega))
  have CP := Lib.hid (fun A c W (hrr : Reads W W.heap.size A (l.map byte)) => seal_any A len0 c l W hl hrr hb (by omega))
  have CS := Lib.hid (fun A c W (hrr : Reads W W.heap.size A (l.map byte)) (hg : w.grownBy W none) => psame_yes A a0 len0 c len0 cap0 l W W.heap.size w.heap.size hl hl hrr (hr.grown0 hg) (by omega))
  have CT := Lib.hid (fun A1 A2 c1 c2 W (h1 : Reads W W.heap.size A1 ((sealV l).map byte)) (h2 : Reads W W.heap.size A2 ((sealV l).map byte)) => psame_yes A1 A2 (sealV l).length c1 (sealV l).length c2 (sealV l) W _ _ rfl rfl h1 h2 (by omega))
  have hlen := Lib.hid (show (sealV l).length = (sealV l).length from rfl)
  generalize sealE l = E at *
  generalize hsv : sealV l = sv at CR CP CT hsl hsb
  have hEE : (E != E) = false := by simp
  clear hl hb hlen hsv
  go_enter Try.func8, Try.ntmps8
  go_wp2_with fail
  refine CC.out.mono ?_; rintro e w1 ⟨A1, c1, rfl, hown1, hg1⟩
  go_wp2_with fail
  refine (CR.out _ hg1).mono ?_; rintro e w2 ⟨A2, c2, rfl, hown2, hg2⟩
  have hown1' := hown1.grown0 hg2
  have hgA := grown_trans hg1 hg2
  clear hown1 hg1 hg2 CC
  go_wp2_with fail
  go_loopw [6, 7, 8, 9] (fun v _ _ _ wr => ∃ t : Nat, t ≤ 2 ∧ v = .int .i64 t ∧ w2.grownBy wr none) (fun v _ _ _ _ => 2 - (intOf v).toNat)
  case atStart => exact ⟨0, by omega, rfl, World.grownBy.refl _ _⟩
  case round =>
    obtain ⟨t, ht, rfl, hg⟩ := hrel
    have hgB := grown_trans hgA hg
    by_cases hlt : t < 2
    · go_wp2_with fail
      refine (CP.out _ _ _ (hown1'.grown0 hg).reads).mono ?_; rintro e w3 ⟨A3, c3, rfl, hown3, hg3⟩
      have hgC := grown_trans hg hg3
      go_wp2_with fail
      refine (CT.out _ _ _ _ _ hown3.reads (hown2.grown0 hgC).reads).mono ?_; rintro e w4 ⟨rfl, hg4⟩
      have hgD := grown_trans hgC hg4
      go_wp2_with fail
      refine (CS.out _ _ _ (hown1'.grown0 hgD).reads (grown_trans hgA hgD)).mono ?_; rintro e w5 ⟨rfl, hg5⟩
      have hgE := grown_trans hgD hg5
      have hown5 := ((hown3.grown0 hg4).grown0 hg5).base_ (base' := w2.heap.size) (hg.size)
      clear hgD hgC hg3 hg4 hg5 hown3 hgB CR CP CT CS
      go_wp2_with fail
      obtain ⟨wo, rfl⟩ : ∃ wo : World, wo = wr := ⟨_, rfl⟩
      go_loopw [9] (fun v wr => ∃ (j : Nat) (xs : List Nat), j ≤ sv.length ∧ v = .int .i64 j ∧ xs.length = sv.length ∧ Byt xs ∧ Own wr w2.heap.size 5 1 A3 sv.length c3 (xs.map byte) ∧ w2.grownBy wr none) (fun v _ => sv.length - (intOf v).toNat)
      case atStart => exact ⟨0, sv, by omega, rfl, rfl, hsb.out, hown5, hgE⟩
      case round =>
        obtain ⟨j, xs, hj, rfl, hxl, hxb, hxo, hxg⟩ := hrel
        clear hown5 hgE
        have hxl' := Lib.hid hxl; clear hxl
        by_cases hlt2 : j < sv.length
        · obtain ⟨g, rfl, hg0, hg1', hc, hf⟩ := hxo.byte_at (k := j) (by rw [hxl'.out]; exact hlt2)
          have hx := hxb.nth j
          go_wp2
          go_roundw
          case rel => exact ⟨j + 1, xs.set j ((nth xs j + 1) % 256), by omega, by go_num, by rw [List.length_set]; exact hxl'.out, byt_set hxb (by omega), hxo.put_ _ _, grown_put hxg hg0 _ _⟩
          case measure => simp [intOf]; omega
        · go_wp2_with fail
          go_roundw
          case rel => exact ⟨t + 1, by omega, by go_num, hxg⟩
          case measure => simp [intOf]; omega
    · go_wp2_with fail
      refine (room_any _).mono ?_; rintro e w3 ⟨rfl, hg3⟩
      rcases hE with ⟨rfl, hE⟩ | ⟨rfl, hE⟩
      · have hd : decide ((len0 : Int) ≤ 123) = true := by simp; omega
        go_wp2_with fail
        go_ret
        exact ⟨by simp, grown_below (grown_trans hgB hg3)⟩
      · have hd : decide ((len0 : Int) ≤ 123) = false := by simp; omega
        go_wp2_with fail
        go_ret
        exact ⟨by simp, grown_below (grown_trans hgB hg3)⟩
end Go.Proofs.Ythijicpfihpkfaa
