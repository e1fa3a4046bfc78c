/- A net that was made: of, pick, full. -/
import Derived.Test.YtdmhaigldckdbaaNn
namespace Go.Proofs.Ytdmhaigldckdbaa
open Go Go.RowKit
theorem many_any (w : World) (A : Option Addr) (n c : Nat) :
    Calls Try.prog 54 #[.slice A n c] w fun e w' => e = .returned (.int .i64 (n : Int)) ∧ w = w' := by
  go_enter Try.func54, Try.ntmps54
  go_wp2
  go_ret
  exact ⟨rfl, rfl⟩
theorem method_many (A : Option Addr) (n c : Nat) (w : World) : (method 196 43 (.slice A n c) "windowpane/net.many").run Try.prog w = .ok (54, .slice A n c) w := by kernel_rfl
/-- The place of the flight of a number, of n flights. -/
def place (k : Int) (n : Nat) : Nat := k.toNat % n
theorem place_lt (k : Int) {n : Nat} (hn : 0 < n) : place k n < n := Nat.mod_lt _ hn
theorem of_some (w : World) (A : Option Addr) (n c : Nat) (k : Int) (hn : 0 < n) (hb : n ≤ 1000000) :
    Calls Try.prog 37 #[.iface 43 (.slice A n c), .int .i64 k] w fun e w' => e = .returned (.tuple #[.int .i64 ((place k n : Nat) : Int), .bool true]) ∧ w = w' := by
  have hm := method_many A n c
  have h0 : ((n : Int) == 0) = false := by simp; omega
  have hp := place_lt k hn
  rcases Int.lt_or_le k 0 with hk | hk
  · have hq : place k n = 0 := by unfold place; rw [show k.toNat = 0 by omega, Nat.zero_mod]
    rw [hq]
    go_enter Try.func37, Try.ntmps37
    go_wp2_with fail
    refine (many_any _ A n c).mono ?_; rintro e w1 ⟨rfl, rfl⟩
    go_wp2_with fail
    refine (many_any _ A n c).mono ?_; rintro e w1 ⟨rfl, rfl⟩
    go_wp2
    go_ret2
    exact ⟨rfl, rfl⟩
  · have hq : k.tmod (n : Int) = ((place k n : Nat) : Int) := by
      rw [Int.tmod_eq_emod_of_nonneg hk]
      unfold place
      rw [Int.natCast_emod, Int.toNat_of_nonneg hk]
    have hq2 : k % (n : Int) = ((place k n : Nat) : Int) := by rw [← Int.tmod_eq_emod_of_nonneg hk]; exact hq
    go_enter Try.func37, Try.ntmps37
    go_wp2_with fail
    refine (many_any _ A n c).mono ?_; rintro e w1 ⟨rfl, rfl⟩
    go_wp2_with fail
    refine (many_any _ A n c).mono ?_; rintro e w1 ⟨rfl, rfl⟩
    go_wp2
    go_ret2
    exact ⟨rfl, rfl⟩
theorem of_none (w : World) (A : Option Addr) (c : Nat) (k : Int) :
    Calls Try.prog 37 #[.iface 43 (.slice A 0 c), .int .i64 k] w fun e w' => e = .returned (.tuple #[.int .i64 0, .bool false]) ∧ w = w' := by
  have hm := method_many A 0 c
  go_enter Try.func37, Try.ntmps37
  go_wp2_with fail
  refine (many_any _ A 0 c).mono ?_; rintro e w1 ⟨rfl, rfl⟩
  go_wp2
  go_ret2
  exact ⟨rfl, rfl⟩
end Go.Proofs.Ytdmhaigldckdbaa
