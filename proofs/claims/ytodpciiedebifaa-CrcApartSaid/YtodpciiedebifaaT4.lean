/- The walks of a datagram with its sum. -/
import Derived.Test.YtodpciiedebifaaT3
namespace Go.Proofs.Ytodpciiedebifaa
open Go Go.RowKit

theorem with_any (A : Option Addr) (n c : Nat) (l : List Nat) (w : World) (B : Nat) (hl : l.length = n) (hr : Reads w B A (l.map byte)) (hb : Byt l) (hn : n ≤ 1000000) :
    Calls Try.prog 13 #[.slice A n c] w fun e w' => ∃ A', e = .returned (.slice A' (n + 4) (n + 4)) ∧ Own w' w.heap.size 5 1 A' (n + 4) (n + 4) ((l ++ tail4 (sum l) 4).map byte) ∧ w.grownBy w' none := by
  obtain ⟨i0, hi0, hz0, hz1, hz2⟩ := info_parts info8
  have hsl := sum_lt l hb
  have CS := Lib.hid (fun W hrW => sum_any A n c l W B hl hrW hb hn)
  generalize sum l = s at *
  go_enter Try.func13, Try.ntmps13
  go_wp2_with fail
  refine (clone_any A n c l _ B hl hr hn).mono ?_; rintro e w1 ⟨A1, c1, rfl, hown1, hg1⟩
  go_wp2_with fail
  refine (grow4_any A1 n c1 _ _ _ hown1 hg1.size hn).mono ?_; rintro e w2 ⟨A2, c2, rfl, hc2, hown2, hg2⟩
  go_wp2_with fail
  refine (CS.out _ ((hr.grown0 hg1).grown0 hg2)).mono ?_; rintro e w3 ⟨rfl, hg3⟩
  go_wp2_with fail
  have hown3 := hown2.grown0 hg3
  have hg := grown_trans (grown_trans hg1 hg2) hg3
  clear hown1 hown2 hg1 hg2 hg3
  go_loopw [3, 5] (fun o i wr => ∃ (k : Nat) (A' : Option Addr) (c' : Nat), k ≤ 4 ∧ i = .int .i64 k ∧ o = .slice A' (n + k) c' ∧ Own wr w.heap.size 5 1 A' (n + k) c' ((l ++ tail4 s k).map byte) ∧ w.grownBy wr none) (fun _ i _ => 4 - (intOf i).toNat)
  case atStart => exact ⟨0, A2, c2, by omega, rfl, rfl, by simpa [tail4] using hown3, hg⟩
  case round =>
    obtain ⟨k, A', c', hk, rfl, rfl, hown, hgr⟩ := hrel
    by_cases hlt : k < 4
    · have e1 : (s : Int) / 2 ^ (8 * k) % 256 = ((s / 256 ^ k % 256 : Nat) : Int) := by
        rw [show (2 : Int) ^ (8 * k) = ((256 ^ k : Nat) : Int) by rw [Int.pow_mul]; simp]
        simp
      have hgz := hgr.size
      go_wp2_with (at_builtin; refine wpList_append_Own rfl (.tmp 15) (.tmp 21) _ rfl w.heap.size 5 i0 _ 1 1 Try.underlying22 hi0 hz0 hz1 hz2 rfl (by omega) A' (n + k) c' _ rfl (hown.alloc _) (some ⟨wr.heap.size, 0, none⟩) 1 1 _ ([s / 256 ^ k % 256].map byte) rfl rfl (Reads.one_ _ _ _) (byte_one _) (by simp only [maxLen]; omega) (by omega) (by simp; omega) ?_; intro A3 c3 w1 hown1 hg1 _)
      have hrow := (hown.alloc (.cells #[byte (s / 256 ^ k % 256)] 5)).row_ge
      have hgn := grown_new (grown_trans hgr (World.grownBy_alloc wr _ none)) hg1 (fun g h => (hrow g h).1)
      go_roundw
      case rel => exact ⟨k + 1, A3, c3, by omega, by go_num, rfl, by rw [← Nat.add_assoc]; simpa [tail4] using hown1, hgn⟩
      case measure => simp [intOf]; omega
    · obtain rfl : k = 4 := by omega
      go_wp2_with fail
      refine (clip_any A' (n + 4) c' _ hown.2.1 (by have := hown.2.2.1; unfold maxLen at this; omega)).mono ?_; rintro e w1 ⟨rfl, rfl⟩
      go_wp2
      go_ret
      exact ⟨A', rfl, hown.room_ (Nat.le_refl _) hown.2.1, hgr⟩

theorem refwith_any (A : Option Addr) (n c : Nat) (l : List Nat) (w : World) (B : Nat) (hl : l.length = n) (hr : Reads w B A (l.map byte)) (hb : Byt l) (hn : n ≤ 1000000) :
    Calls Try.prog 17 #[.slice A n c] w fun e w' => ∃ A' c', e = .returned (.slice A' (n + 4) c') ∧ Own w' w.heap.size 5 1 A' (n + 4) c' ((l ++ tail4 (rsum l) 4).map byte) ∧ w.grownBy w' none := by
  obtain ⟨i0, hi0, hz0, hz1, hz2⟩ := info_parts info8
  have hsl := rsum_lt l
  have CS := Lib.hid (refsum_any A n c l w B hl hr hb hn)
  generalize rsum l = s at *
  go_enter Try.func17, Try.ntmps17
  go_wp2_with fail
  refine CS.out.mono ?_; rintro e w1 ⟨rfl, hg1⟩
  go_wp2_with fail
  refine (copy_any A n c l _ B hl (hr.grown0 hg1) hn).mono ?_; rintro e w2 ⟨A2, c2, rfl, hown2, hg2⟩
  go_wp2_with fail
  have hg := grown_trans hg1 hg2
  have hown3 := hown2.base_ hg1.size
  clear hown2 hg1 hg2
  go_loopw [3, 4, 5] (fun r o i wr => ∃ (k : Nat) (A' : Option Addr) (c' : Nat), k ≤ 4 ∧ i = .int .i64 k ∧ r = .int .u32 ((s / 256 ^ k : Nat) : Int) ∧ o = .slice A' (n + k) c' ∧ Own wr w.heap.size 5 1 A' (n + k) c' ((l ++ tail4 s k).map byte) ∧ w.grownBy wr none) (fun _ _ i _ => 4 - (intOf i).toNat)
  case atStart => exact ⟨0, A2, c2, by omega, rfl, by simp, rfl, by simpa [tail4] using hown3, hg⟩
  case round =>
    obtain ⟨k, A', c', hk, rfl, rfl, rfl, hown, hgr⟩ := hrel
    by_cases hlt : k < 4
    · have hy : Hid (s / 256 ^ (k + 1) = s / 256 ^ k / 256) := by rw [Hid, Nat.pow_succ, Nat.div_div_eq_div_mul]
      have hyl : s / 256 ^ k < 4294967296 := Nat.lt_of_le_of_lt (Nat.div_le_self _ _) hsl
      have ht : Hid (tail4 s (k + 1) = tail4 s k ++ [s / 256 ^ k % 256]) := rfl
      generalize s / 256 ^ k = y at *
      have hgz := hgr.size
      go_wp2_with (at_builtin; refine wpList_append_Own rfl (.tmp 14) (.tmp 18) _ rfl w.heap.size 5 i0 _ 1 1 Try.underlying22 hi0 hz0 hz1 hz2 rfl (by omega) A' (n + k) c' _ rfl (hown.alloc _) (some ⟨wr.heap.size, 0, none⟩) 1 1 _ ([y % 256].map byte) rfl rfl (Reads.one_ _ _ _) (byte_one _) (by simp only [maxLen]; omega) (by omega) (by simp; omega) ?_; intro A3 c3 w1 hown1 hg1 _)
      have hrow := (hown.alloc (.cells #[byte (y % 256)] 5)).row_ge
      have hgn := grown_new (grown_trans hgr (World.grownBy_alloc wr _ none)) hg1 (fun g h => (hrow g h).1)
      go_roundw
      case rel => exact ⟨k + 1, A3, c3, by omega, by go_num, by rw [hy.out]; simp, rfl, by rw [ht.out, ← Nat.add_assoc]; simpa using hown1, hgn⟩
      case measure => simp [intOf]; omega
    · obtain rfl : k = 4 := by omega
      go_wp2
      go_ret
      exact ⟨A', c', rfl, hown, hgr⟩
end Go.Proofs.Ytodpciiedebifaa
