/- Plain mathematics of the checksum: no program in sight. -/
import Derived.Test.YtodpciiedebifaaBy
import Derived.Lib.BitFns
import Derived.Laws.BitsAllLaws
namespace Go.Proofs.Ytodpciiedebifaa
open Go

def iter (f : Nat → Nat) : Nat → Nat → Nat
  | 0, x => x
  | k + 1, x => f (iter f k x)

/-- One bit of the division, the uppermost one first. -/
def stp (l : Nat) : Nat := (l * 2 % 4294967296) ^^^ (79764919 * (l / 2147483648))
def dvd (l x : Nat) : Nat := iter stp 8 (l ^^^ (x * 16777216))
theorem stp_lt (l : Nat) (h : l < 4294967296) : stp l < 4294967296 := Nat.xor_lt_two_pow (n := 32) (by omega) (by omega)
theorem iter_lt (f : Nat → Nat) (hf : ∀ x, x < 4294967296 → f x < 4294967296) (k x : Nat) (h : x < 4294967296) : iter f k x < 4294967296 := by
  induction k with
  | zero => exact h
  | succ k ih => exact hf _ ih
theorem dvd_start (l x : Nat) (h : l < 4294967296) (hx : x < 256) : l ^^^ (x * 16777216) < 4294967296 := Nat.xor_lt_two_pow (n := 32) (by omega) (by omega)
theorem dvd_lt (l x : Nat) (h : l < 4294967296) (hx : x < 256) : dvd l x < 4294967296 := iter_lt _ stp_lt _ _ (dvd_start l x h hx)

def rev8 (x : Nat) : Nat := (Lib.rev8 (x : Int)).toNat
theorem rev8_all : ∀ x : Fin 256, rev8 x.val < 256 ∧ Lib.rev8 ((x.val : Nat) : Int) = (rev8 x.val : Nat) := by decide +kernel
theorem rev8_lt (x : Nat) (h : x < 256) : rev8 x < 256 := (rev8_all ⟨x, h⟩).1
theorem rev8_eq (x : Nat) (h : x < 256) : Lib.rev8 (x : Int) = (rev8 x : Nat) := (rev8_all ⟨x, h⟩).2
def popc (x : Nat) : Nat := Lib.onesCount x

theorem popc_all : ∀ x : Fin 256, popc x.val ≤ 8 ∧ popc x.val = x.val % 2 + x.val / 2 % 2 + x.val / 4 % 2 + x.val / 8 % 2 + x.val / 16 % 2 + x.val / 32 % 2 + x.val / 64 % 2 + x.val / 128 % 2 := by decide +kernel
theorem popc_le (x : Nat) (h : x < 256) : popc x ≤ 8 := (popc_all ⟨x, h⟩).1
theorem popc_eq (x : Nat) (h : x < 256) : popc x = x % 2 + x / 2 % 2 + x / 4 % 2 + x / 8 % 2 + x / 16 % 2 + x / 32 % 2 + x / 64 % 2 + x / 128 % 2 := (popc_all ⟨x, h⟩).2
/-- The two halvings of bits.Reverse32 and bits.ReverseBytes32. -/
def half (m s x : Nat) : Nat := ((x / s) &&& m) ||| ((x &&& m) * s % 4294967296)
def swap16 (c : Nat) : Nat := (half 16711935 256 c / 65536) ||| (half 16711935 256 c * 65536 % 4294967296)
def rev32 (x : Nat) : Nat := swap16 (half 252645135 16 (half 858993459 4 (half 1431655765 2 x)))
theorem half_lt (m s x : Nat) (hm : m < 4294967296) : half m s x < 4294967296 :=
  Nat.or_lt_two_pow (n := 32) (Nat.lt_of_le_of_lt Nat.and_le_right hm) (Nat.mod_lt _ (by omega))
theorem half_int (m s x : Nat) (hx : x < 4294967296) (hm : m < 4294967296) :
    bits .or .u32 (bits .and .u32 ((x : Int) / s) m) (bits .and .u32 (x : Int) m * s % 4294967296) = (half m s x : Nat) := by
  have h1 : bits .and .u32 ((x : Int) / s) m = ((x / s &&& m : Nat) : Int) := by
    have := u32_and_nat (x / s) m (Nat.lt_of_le_of_lt (Nat.div_le_self _ _) hx) hm
    rw [← this, Int.natCast_ediv]
  have h2 := u32_and_nat x m hx hm
  rw [h1, h2]
  have h3 := u32_or_nat (x / s &&& m) ((x &&& m) * s % 4294967296) (Nat.lt_of_le_of_lt Nat.and_le_right hm) (Nat.mod_lt _ (by omega))
  unfold half
  rw [← h3, Int.natCast_emod, Int.natCast_mul]
  rfl

/-- The register behind the first k bytes. -/
def reg (l : List Nat) : Nat → Nat
  | 0 => 4294967295
  | k + 1 => dvd (reg l k) (rev8 (nth l k))
def sum (l : List Nat) : Nat := 4294967295 - rev32 (reg l l.length)
/-- A bit, counted from the lowest one of the first byte on. -/
def bitAt (l : List Nat) (i : Nat) : Nat := nth l (i / 8) / 2 ^ (i % 8) % 2
/-- The document's register, the other way round, behind the first k bits. -/
def rstp (r b : Nat) : Nat := if r % 2 = b then r / 2 else (r / 2) ^^^ 3988292384
def rreg (l : List Nat) : Nat → Nat
  | 0 => 4294967295
  | k + 1 => rstp (rreg l k) (bitAt l k)
def rsum (l : List Nat) : Nat := rreg l (8 * l.length) ^^^ 4294967295
theorem rstp_lt (r b : Nat) (h : r < 4294967296) : rstp r b < 4294967296 := by
  unfold rstp
  split
  · omega
  · exact Nat.xor_lt_two_pow (n := 32) (by omega) (by omega)
theorem rreg_lt (l : List Nat) (k : Nat) : rreg l k < 4294967296 := by
  induction k with
  | zero => simp [rreg]
  | succ k ih => exact rstp_lt _ _ ih
theorem rsum_lt (l : List Nat) : rsum l < 4294967296 := Nat.xor_lt_two_pow (n := 32) (rreg_lt l _) (by omega)
theorem sum_lt (l : List Nat) (_hb : Byt l) : sum l < 4294967296 := by unfold sum; omega
def tail4 (s : Nat) : Nat → List Nat
  | 0 => []
  | k + 1 => tail4 s k ++ [s / 256 ^ k % 256]
def dsum (l m : List Nat) : Nat → Nat
  | 0 => 0
  | k + 1 => dsum l m k + popc (nth l k ^^^ nth m k)
theorem dsum_le (l m : List Nat) (hl : Byt l) (hm : Byt m) (k : Nat) : dsum l m k ≤ 8 * k := by
  induction k with
  | zero => simp [dsum]
  | succ k ih =>
    have := popc_le (nth l k ^^^ nth m k) (Nat.xor_lt_two_pow (n := 8) (hl.nth k) (hm.nth k))
    simp only [dsum]; omega
def differ (l m : List Nat) : Nat := 8 * (max l.length m.length - min l.length m.length) + dsum l m (min l.length m.length)
def rdsum (l m : List Nat) : Nat → Nat
  | 0 => 0
  | k + 1 => rdsum l m k + if bitAt l k = bitAt m k then 0 else 1
theorem rdsum_le (l m : List Nat) (k : Nat) : rdsum l m k ≤ k := by
  induction k with
  | zero => simp [rdsum]
  | succ k ih => simp only [rdsum]; split <;> omega
theorem rdsum_comm (l m : List Nat) (k : Nat) : rdsum l m k = rdsum m l k := by
  induction k with
  | zero => rfl
  | succ k ih => simp only [rdsum, ih, eq_comm]
def rdiffer (l m : List Nat) : Nat := 8 * (max l.length m.length - min l.length m.length) + rdsum l m (8 * min l.length m.length)
theorem rdiffer_comm (l m : List Nat) : rdiffer l m = rdiffer m l := by
  unfold rdiffer
  rw [Nat.max_comm, Nat.min_comm, rdsum_comm]
end Go.Proofs.Ytodpciiedebifaa
