/- The walks of the division's steps and of math/bits. -/
import Derived.Test.YtodpciiedebifaaRows
import Derived.Test.YtodpciiedebifaaMem
import Derived.Test.YtodpciiedebifaaPl
import Derived.Lib.BitFns
namespace Go.Proofs.Ytodpciiedebifaa
open Go Go.RowKit
theorem rev8_int (x : Int) (w : World) (h0 : 0 ≤ x) (h1 : x ≤ 255) :
    Calls Try.prog 31 #[.int .u8 x] w fun e w' => e = .returned (.int .u8 (Lib.rev8 x)) ∧ w = w' := by
  go_enter Try.func31, Try.ntmps31
  go_wp2
  go_ret
  exact ⟨rfl, rfl⟩
theorem rev8_any (x : Nat) (w : World) (h1 : x < 256) :
    Calls Try.prog 31 #[.int .u8 x] w fun e w' => e = .returned (.int .u8 (rev8 x : Nat)) ∧ w = w' := by
  rw [← rev8_eq x h1]
  exact rev8_int x w (by omega) (by omega)
theorem div_any (l x : Nat) (w : World) (h1 : x < 256) (h2 : l < 4294967296) :
    Calls Try.prog 30 #[.int .u32 l, .int .u8 x] w fun e w' => e = .returned (.int .u32 (dvd l x : Nat)) ∧ w = w' := by
  have e1 : bits .xor .u32 (l : Int) ((x : Int) * 16777216) = ((l ^^^ (x * 16777216) : Nat) : Int) := by
    rw [← u32_xor_nat l (x * 16777216) h2 (by omega), Int.natCast_mul]; rfl
  have hl := dvd_start l x h2 h1
  have hd : dvd l x = iter stp 8 (l ^^^ (x * 16777216)) := rfl
  rw [hd]; clear hd
  generalize l ^^^ (x * 16777216) = y at *
  go_enter Try.func30, Try.ntmps30
  go_wp2
  clear e1
  go_loop [0, 11] (fun v i => ∃ k : Nat, k ≤ 8 ∧ i = .int .i64 k ∧ v = .int .u32 (iter stp k y : Nat)) (fun _ i => 8 - (intOf i).toNat)
  case atStart => exact ⟨0, by omega, rfl, rfl⟩
  case round =>
    obtain ⟨k, hk, rfl, rfl⟩ := hrel
    have hz := iter_lt stp stp_lt k y hl
    by_cases hlt : k < 8
    · have hs : Hid (iter stp (k + 1) y = stp (iter stp k y)) := rfl
      generalize iter stp k y = z at *
      have e2 : bits .xor .u32 ((z : Int) * 2 % 4294967296) (79764919 * ((z : Int) / 2147483648)) = ((stp z : Nat) : Int) := by
        unfold stp
        rw [← u32_xor_nat (z * 2 % 4294967296) (79764919 * (z / 2147483648)) (by omega) (by omega), Int.natCast_emod, Int.natCast_mul, Int.natCast_mul, Int.natCast_ediv]; rfl
      go_wp2
      go_round
      case rel => exact ⟨k + 1, by omega, by go_num, by rw [hs.out]⟩
      case measure => simp [intOf]; omega
    · go_wp2
      go_ret
      obtain rfl : k = 8 := by omega
      exact ⟨rfl, rfl⟩
theorem revb_any (x : Nat) (w : World) (h1 : x < 4294967296) :
    Calls Try.prog 35 #[.int .u32 x] w fun e w' => e = .returned (.int .u32 ((half 16711935 256 x / 65536 ||| half 16711935 256 x * 65536 % 4294967296 : Nat) : Int)) ∧ w = w' := by
  have e1 : bits .or .u32 (bits .and .u32 ((x : Int) / 256) 16711935) (bits .and .u32 (x : Int) 16711935 * 256 % 4294967296) = _ := half_int 16711935 256 x h1 (by omega)
  have hb := half_lt 16711935 256 x (by omega)
  generalize half 16711935 256 x = y at *
  have e2 : bits .or .u32 ((y : Int) / 65536) ((y : Int) * 65536 % 4294967296) = ((y / 65536 ||| y * 65536 % 4294967296 : Nat) : Int) := by
    rw [← u32_or_nat (y / 65536) (y * 65536 % 4294967296) (by omega) (by omega), Int.natCast_emod, Int.natCast_mul, Int.natCast_ediv]; rfl
  go_enter Try.func35, Try.ntmps35
  go_wp2
  go_ret
  exact ⟨rfl, rfl⟩
theorem rev32_any (x : Nat) (w : World) (h1 : x < 4294967296) :
    Calls Try.prog 32 #[.int .u32 x] w fun e w' => e = .returned (.int .u32 (rev32 x : Nat)) ∧ w = w' := by
  unfold rev32 swap16
  have e1 : bits .or .u32 (bits .and .u32 ((x : Int) / 2) 1431655765) (bits .and .u32 (x : Int) 1431655765 * 2 % 4294967296) = _ := half_int 1431655765 2 x h1 (by omega)
  have hb1 := half_lt 1431655765 2 x (by omega)
  generalize half 1431655765 2 x = a at *
  have e2 : bits .or .u32 (bits .and .u32 ((a : Int) / 4) 858993459) (bits .and .u32 (a : Int) 858993459 * 4 % 4294967296) = _ := half_int 858993459 4 a hb1 (by omega)
  have hb2 := half_lt 858993459 4 a (by omega)
  generalize half 858993459 4 a = b at *
  have e3 : bits .or .u32 (bits .and .u32 ((b : Int) / 16) 252645135) (bits .and .u32 (b : Int) 252645135 * 16 % 4294967296) = _ := half_int 252645135 16 b hb2 (by omega)
  have hb3 := half_lt 252645135 16 b (by omega)
  generalize half 252645135 16 b = c at *
  go_enter Try.func32, Try.ntmps32
  go_wp2_with (go_at_call 35; refine (revb_any _ _ hb3).mono ?_; rintro e w' ⟨rfl, rfl⟩)
  go_ret
  exact ⟨rfl, rfl⟩
end Go.Proofs.Ytodpciiedebifaa
