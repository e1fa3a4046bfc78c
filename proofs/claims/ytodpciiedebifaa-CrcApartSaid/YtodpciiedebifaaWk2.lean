/- The walks of CrcSums and CrcWholes. -/
import Derived.Test.YtodpciiedebifaaT5b
namespace Go.Proofs.Ytodpciiedebifaa
open Go Go.RowKit
theorem same_true (A1 A2 : Option Addr) (n1 c1 n2 c2 : Nat) (l : List Nat) (w : World) (B1 B2 : Nat) (h1 : l.length = n1) (h2 : l.length = n2) (r1 : Reads w B1 A1 (l.map byte)) (r2 : Reads w B2 A2 (l.map byte)) (hn : n1 ≤ 1000000) :
    Calls Try.prog 16 #[.slice A1 n1 c1, .slice A2 n2 c2] w fun e w' => e = .returned (.bool true) ∧ w.grownBy w' none := by
  have := same_any A1 A2 n1 c1 n2 c2 l l w B1 B2 h1 h2 r1 r2 hn (by omega)
  simpa using this

set_option maxHeartbeats 400000 in
theorem CrcSums_walk (a0 : Option Addr) (len0 cap0 : Nat) (z0 : List Int) (w : World) (w0 : IsRow .u8 w a0 len0 cap0 z0) :
    Calls Try.prog 4 #[.slice a0 len0 cap0] w fun e w' => e = .returned (.bool true) ∧ Below w.heap.size w w' := by
  have b0 := w0.len_
  obtain ⟨l, hl, hb, hr⟩ := w0.bytes_
  by_cases h0 : 2000 < len0
  · go_enter Try.func4, Try.ntmps4
    go_wp2
    go_ret
    exact ⟨rfl, Below.refl _ _⟩
  have hse := Lib.hid (sum_eq l hb)
  have hwl : (withs l).length = len0 + 4 := by rw [withs_len, hl]
  have hwb := Lib.hid (withs_byt hb)
  have hwd := Lib.hid (show l ++ tail4 (rsum l) 4 = withs l from rfl)
  have hwl' := Lib.hid hwl; clear hwl
  have hbn : ((rsum l : Int) != (rsum l : Int)) = false := by simp
  go_enter Try.func4, Try.ntmps4
  go_wp2_with fail
  refine (copy_any a0 len0 cap0 l _ _ hl hr (by omega)).mono ?_; rintro e w1 ⟨A1, c1, rfl, hown1, hg1⟩
  go_wp2_with fail
  go_loopw [4] (fun v wr => ∃ k : Nat, k ≤ 2 ∧ v = .int .i64 k ∧ Own wr w.heap.size 5 1 A1 len0 c1 (l.map byte) ∧ w.grownBy wr none) (fun v _ => 2 - (intOf v).toNat)
  case atStart => exact ⟨0, by omega, rfl, hown1, hg1⟩
  case round =>
    obtain ⟨k, hk, rfl, hown, hg⟩ := hrel
    clear hown1 hg1
    by_cases hlt : k < 2
    · go_wp2_with fail
      refine (with_any' A1 len0 c1 l _ _ hl hown.reads hb (by omega)).mono ?_; rintro e w2 ⟨A2, rfl, hown2, hg2⟩
      go_wp2_with fail
      refine (sum_any A1 len0 c1 l _ _ hl (hown.grown0 hg2).reads hb (by omega)).mono ?_; rintro e w3 ⟨rfl, hg3⟩
      rw [hse.out]
      go_wp2_with fail
      have hrr := (((hr.grown0 hg).grown0 hg2).grown0 hg3)
      refine (refsum_any a0 len0 cap0 l _ _ hl hrr hb (by omega)).mono ?_; rintro e w4 ⟨rfl, hg4⟩
      go_wp2_with fail
      refine (refwith_any a0 len0 cap0 l _ _ hl (hrr.grown0 hg4) hb (by omega)).mono ?_; rintro e w5 ⟨A5, c5, rfl, hown5, hg5⟩
      rw [hwd.out] at hown5
      have hown2' := (((hown2.grown0 hg3).grown0 hg4).grown0 hg5)
      go_wp2_with fail
      refine (same_true A2 A5 _ _ _ _ (withs l) _ _ _ hwl'.out hwl'.out hown2'.reads hown5.reads (by omega)).mono ?_; rintro e w6 ⟨rfl, hg6⟩
      have hown' := (((((hown.grown0 hg2).grown0 hg3).grown0 hg4).grown0 hg5).grown0 hg6)
      go_wp2_with fail
      refine (same_true A1 a0 _ _ _ _ l _ _ _ hl hl hown'.reads (((hrr.grown0 hg4).grown0 hg5).grown0 hg6) (by omega)).mono ?_; rintro e w7 ⟨rfl, hg7⟩
      have hw := hown2'.grown0 (grown_trans hg6 hg7)
      have hgr := grown_trans hg2 (grown_trans hg3 (grown_trans hg4 (grown_trans hg5 (grown_trans hg6 hg7))))
      clear hown2 hown5 hown2' hown' hrr hg2 hg3 hg4 hg5 hg6 hg7
      obtain ⟨wo, rfl⟩ : ∃ wo : World, wo = wr := ⟨_, rfl⟩
      go_wp2_with fail
      go_loopw [6] (fun v wr => ∃ (j : Nat) (xs : List Nat), j ≤ len0 + 4 ∧ v = .int .i64 j ∧ xs.length = len0 + 4 ∧ Byt xs ∧ Own wr wo.heap.size 5 1 A2 (len0 + 4) (len0 + 4) (xs.map byte) ∧ wo.grownBy wr none) (fun v _ => len0 + 4 - (intOf v).toNat)
      case atStart => exact ⟨0, withs l, by omega, rfl, hwl'.out, hwb.out, hw, hgr⟩
      case round =>
        obtain ⟨j, xs, hj, rfl, hxl, hxb, hxo, hxg⟩ := hrel
        clear hw hgr
        have hxl' := Lib.hid hxl; clear hxl
        by_cases hlt2 : j < len0 + 4
        · obtain ⟨g, rfl, hg0, hg1, hc, hf⟩ := hxo.byte_at (k := j) (by rw [hxl'.out]; exact hlt2)
          have hx := hxb.nth j
          go_wp2
          go_roundw
          case rel => exact ⟨j + 1, xs.set j ((nth xs j + 1) % 256), by omega, by go_num, by rw [List.length_set]; exact hxl'.out, byt_set hxb (by omega), hxo.put_ _ _, grown_put hxg hg0 _ _⟩
          case measure => simp [intOf]; omega
        · go_wp2
          go_roundw
          case rel => exact ⟨k + 1, by omega, by go_num, hown.grown0 hxg, grown_trans hg hxg⟩
          case measure => simp [intOf]; omega
    · go_wp2
      go_ret
      exact ⟨rfl, grown_below hg⟩
end Go.Proofs.Ytodpciiedebifaa
