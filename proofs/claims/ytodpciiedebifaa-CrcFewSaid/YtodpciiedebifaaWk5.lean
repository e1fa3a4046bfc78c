/- The walks of CrcRow and CrcFew. -/
import Derived.Test.YtodpciiedebifaaWk3
import Derived.Test.YtodpciiedebifaaPl7
namespace Go.Proofs.Ytodpciiedebifaa
open Go Go.RowKit

/-- The first k of the bits of 'which', turned about from a place on. -/
def rowTo (l : List Nat) (f which : Nat) : Nat → List Nat
  | 0 => l
  | k + 1 => if which / 2 ^ k % 2 = 1 then flipL (rowTo l f which k) (f + k) else rowTo l f which k
theorem rowTo_len (l : List Nat) (f which k : Nat) : (rowTo l f which k).length = l.length := by
  induction k with
  | zero => rfl
  | succ k ih => rw [rowTo]; split; · rw [flipL_len, ih]
                 · exact ih
theorem rowTo_byt (l : List Nat) (h : Byt l) (f which k : Nat) : Byt (rowTo l f which k) := by
  induction k with
  | zero => exact h
  | succ k ih => rw [rowTo]; split; · exact flipL_byt ih _
                 · exact ih
theorem rowTo_bit (l : List Nat) (f which k : Nat) (hf : f + k ≤ 8 * l.length) (i : Nat) : bitAt (rowTo l f which k) i ^^^ bitAt l i = if f ≤ i ∧ i < f + k then which / 2 ^ (i - f) % 2 else 0 := by
  induction k with
  | zero => rw [rowTo, Nat.xor_self, if_neg (by omega)]
  | succ k ih =>
    have ih' := ih (by omega)
    have hw := Nat.mod_two_eq_zero_or_one (which / 2 ^ k)
    have b1 := bitAt_lt (rowTo l f which k) i
    have b2 := bitAt_lt l i
    rw [rowTo]
    by_cases hk : which / 2 ^ k % 2 = 1
    · rw [if_pos hk]
      unfold flipL
      rw [bitAt_flip _ _ _ (by rw [rowTo_len]; omega)]
      by_cases e : i = f + k
      · rw [if_pos e]
        rw [if_neg (by omega)] at ih'
        rw [if_pos (by omega), e, Nat.add_sub_cancel_left, hk, ← e]
        have : bitAt (rowTo l f which k) i = bitAt l i := by
          have := xor_cancel ih'
          rw [Nat.zero_xor] at this
          exact this.symm
        rw [this]
        rcases (by omega : bitAt l i = 0 ∨ bitAt l i = 1) with h | h <;> rw [h] <;> rfl
      · rw [if_neg e, ih']
        by_cases h : f ≤ i ∧ i < f + k
        · rw [if_pos h, if_pos (by omega)]
        · rw [if_neg h, if_neg (by omega)]
    · rw [if_neg hk, ih']
      by_cases e : i = f + k
      · rw [if_neg (by omega), if_pos (by omega), e, Nat.add_sub_cancel_left]; omega
      · by_cases h : f ≤ i ∧ i < f + k
        · rw [if_pos h, if_pos (by omega)]
        · rw [if_neg h, if_neg (by omega)]
theorem row_whole (l : List Nat) (hb : Byt l) (hw : wholeB l = true) (f which : Nat) (hwl : which < 4294967296) (hf : f + 32 ≤ 8 * l.length) : wholeB (rowTo l f which 32) = decide (which = 0) := by
  have hl := rowTo_len l f which 32
  rw [Bool.eq_iff_iff, whole_iff _ (rowTo_byt l hb f which 32), hl, decide_eq_true_eq]
  have h1 := (whole_iff l hb).1 hw
  rw [← h1.2, row_bits _ _ f which hwl (8 * l.length) hf (fun i => rowTo_bit l f which 32 hf i)]
  exact ⟨fun h => h.2, fun h => ⟨h1.1, h⟩⟩

/-- Where the row of bits begins. -/
def rowAt (n : Nat) (first : Int) : Nat := (first % 18446744073709551616).toNat % (8 * n + 1)

theorem odd_is (z : Nat) (h : z % 2 = 1) : ((z : Int).tmod 2 == 1) = true := by
  rw [beq_iff_eq, Int.tmod_eq_emod_of_nonneg (Int.natCast_nonneg z)]; omega
theorem odd_not (z : Nat) (h : ¬ z % 2 = 1) : ((z : Int).tmod 2 == 1) = false := by
  rw [beq_eq_false_iff_ne, ne_eq, Int.tmod_eq_emod_of_nonneg (Int.natCast_nonneg z)]; omega
theorem place_eq (n : Nat) (i : Int) (k : Nat) (hi : i = k) (hk : k < 8 * n) (hb : (k : Int) < 18446744073709551616) : place n i = k := by
  unfold place
  subst hi
  rw [Int.emod_eq_of_lt (by omega) hb, Int.toNat_natCast, Nat.mod_eq_of_lt hk]
set_option maxHeartbeats 1000000 in
theorem CrcRow_walk (a0 : Option Addr) (len0 cap0 : Nat) (z0 : List Int) (first : Int) (which : Int) (w : World) (w0 : IsRow .u8 w a0 len0 cap0 z0) (w1 : (Lit.int .i64 first).wf = true) (w2 : (Lit.int .u32 which).wf = true) :
    Calls Try.prog 7 #[.slice a0 len0 cap0, .int .i64 first, .int .u32 which] w fun e w' => e = .returned (.bool true) ∧ Below w.heap.size w w' := by
  have b0 := w0.len_
  have hfr : -9223372036854775808 ≤ first ∧ first ≤ 9223372036854775807 := by simpa [Lit.wf, IntKind.min, IntKind.max, IntKind.signed, IntKind.bits] using w1
  have hwh : 0 ≤ which ∧ which ≤ 4294967295 := by simpa [Lit.wf, IntKind.min, IntKind.max, IntKind.signed, IntKind.bits] using w2
  obtain ⟨hwh0, hwh1⟩ := hwh
  obtain ⟨hfr0, hfr1⟩ := hfr
  obtain ⟨v, rfl⟩ := Int.eq_ofNat_of_zero_le hwh0
  obtain ⟨l, hl, hb, hr⟩ := w0.bytes_
  by_cases h0 : 2000 < len0
  · go_enter Try.func7, Try.ntmps7
    go_wp2_with fail
    refine (awake_any _).mono ?_; rintro e w1 ⟨rfl, hg1⟩
    go_wp2
    go_ret
    exact ⟨rfl, grown_below hg1⟩
  have hv : v < 4294967296 := by omega
  have hf : rowAt len0 first ≤ 8 * len0 := by have := Nat.mod_lt (first % 18446744073709551616).toNat (show 0 < 8 * len0 + 1 by omega); unfold rowAt; omega
  have hfe : (IntKind.u64.wrap first).tmod (8 * ((len0 : Int) + 4) - 31) = ((rowAt len0 first : Nat) : Int) := by
    rw [show 8 * ((len0 : Int) + 4) - 31 = 8 * len0 + 1 by omega, IntKind.wrap_u64, Int.tmod_eq_emod_of_nonneg (by omega)]
    unfold rowAt
    rw [Int.natCast_emod, Int.toNat_of_nonneg (by omega)]
    simp
  have hwl : (withs l).length = len0 + 4 := by rw [withs_len, hl]
  have hrw := Lib.hid (row_whole (withs l) (withs_byt hb) (whole_withs l) (rowAt len0 first) v hv (by rw [hwl]; omega))
  have CW := Lib.hid (fun W B (hr : Reads W B a0 (l.map byte)) => with_any' a0 len0 cap0 l W B hl hr hb (by omega))
  have hwb := Lib.hid (withs_byt hb)
  generalize withs l = q at *
  generalize rowAt len0 first = f at *
  have hwl' := Lib.hid hwl; clear hwl
  go_enter Try.func7, Try.ntmps7
  go_wp2_with fail
  refine (awake_any _).mono ?_; rintro e w1 ⟨rfl, hg1⟩
  go_wp2_with fail
  refine (CW.out _ _ (hr.grown0 hg1)).mono ?_; rintro e w2 ⟨A2, rfl, hown2, hg2⟩
  go_wp2_with fail
  have hfin : (decide (v = 0) == ((v : Int) == 0)) = true := by
    rw [beq_iff_eq, Bool.eq_iff_iff, decide_eq_true_eq, beq_iff_eq]; omega
  have hfin' := Lib.hid hfin; clear hfin
  go_loopw [9] (fun i wr => ∃ k : Nat, k ≤ 32 ∧ i = .int .i64 k ∧ Own wr w1.heap.size 5 1 A2 (len0 + 4) (len0 + 4) ((rowTo q f v k).map byte) ∧ w1.grownBy wr none) (fun i _ => 32 - (intOf i).toNat)
  case atStart => exact ⟨0, by omega, rfl, hown2, hg2⟩
  case round =>
    obtain ⟨k, hk, rfl, hown, hg⟩ := hrel
    have hrl := rowTo_len q f v k
    rw [hwl'.out] at hrl
    have hrb := rowTo_byt q hwb.out f v k
    by_cases hlt : k < 32
    · have hs := Lib.hid (show rowTo q f v (k + 1) = if v / 2 ^ k % 2 = 1 then flipL (rowTo q f v k) (f + k) else rowTo q f v k from rfl)
      by_cases hbit : v / 2 ^ k % 2 = 1
      · have hbt : (((v : Int) / 2 ^ k).tmod 2 == 1) = true := by
          rw [show (v : Int) / 2 ^ k = ((v / 2 ^ k : Nat) : Int) by simp]
          exact odd_is _ hbit
        have hbit' := Lib.hid hbit; clear hbit
        have hpl := place_eq (len0 + 4) ((f : Int) + k) (f + k) (by omega) (by omega) (by omega)
        have CF := Lib.hid (flip_any A2 (len0 + 4) (len0 + 4) ((f : Int) + k) _ wr _ hrl hown hrb (by omega) (by omega) (by omega) (by omega))
        rw [hpl] at CF
        have hro := hown.row_ge
        clear hpl hrl
        go_wp2_with fail
        refine CF.out.mono ?_; rintro e w3 ⟨rfl, hown3, hg3⟩
        have hgn := grown_new hg hg3 (fun g h => (hro g h).1)
        go_wp2
        go_roundw
        case rel => exact ⟨k + 1, by omega, by go_num, by rw [hs.out, if_pos hbit'.out]; exact hown3, hgn⟩
        case measure => simp [intOf]; omega
      · have hbt : (((v : Int) / 2 ^ k).tmod 2 == 1) = false := by
          rw [show (v : Int) / 2 ^ k = ((v / 2 ^ k : Nat) : Int) by simp]
          exact odd_not _ hbit
        have hbit' := Lib.hid hbit; clear hbit
        clear hrl
        go_wp2
        go_roundw
        case rel => exact ⟨k + 1, by omega, by go_num, by rw [hs.out, if_neg hbit'.out]; exact hown, hg⟩
        case measure => simp [intOf]; omega
    · obtain rfl : k = 32 := by omega
      go_wp2_with fail
      refine (whole_any A2 (len0 + 4) (len0 + 4) _ _ _ hrl hown.reads hrb (by omega) (Nat.le_refl _) (by omega)).mono ?_; rintro e w3 ⟨rfl, hg3⟩
      rw [hrw.out]
      go_wp2
      go_ret
      exact ⟨congrArg (fun b => Ending.returned (.bool b)) hfin'.out, grown_below (grown_trans hg1 (grown_trans hg hg3))⟩
end Go.Proofs.Ytodpciiedebifaa
