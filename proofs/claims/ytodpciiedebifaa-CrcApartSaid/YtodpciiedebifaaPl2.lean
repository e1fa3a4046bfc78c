/- Plain laws: the program's Differ is the document's. -/
import Derived.Test.YtodpciiedebifaaPl
namespace Go.Proofs.Ytodpciiedebifaa
open Go
theorem bit_xor (x y t : Nat) : (x ^^^ y) / 2 ^ t % 2 = if x / 2 ^ t % 2 = y / 2 ^ t % 2 then 0 else 1 := by
  have h := Nat.testBit_xor x y t
  simp only [Nat.testBit_eq_decide_div_mod_eq] at h
  have a := Nat.mod_two_eq_zero_or_one ((x ^^^ y) / 2 ^ t)
  have b := Nat.mod_two_eq_zero_or_one (x / 2 ^ t)
  have c := Nat.mod_two_eq_zero_or_one (y / 2 ^ t)
  rcases a with a | a <;> rcases b with b | b <;> rcases c with c | c <;> simp [a, b, c] at h ⊢
theorem popc_xor (x y : Nat) (hx : x < 256) (hy : y < 256) : popc (x ^^^ y) = (if x % 2 = y % 2 then 0 else 1) + (if x / 2 % 2 = y / 2 % 2 then 0 else 1) + (if x / 4 % 2 = y / 4 % 2 then 0 else 1) + (if x / 8 % 2 = y / 8 % 2 then 0 else 1)
    + (if x / 16 % 2 = y / 16 % 2 then 0 else 1) + (if x / 32 % 2 = y / 32 % 2 then 0 else 1) + (if x / 64 % 2 = y / 64 % 2 then 0 else 1) + (if x / 128 % 2 = y / 128 % 2 then 0 else 1) := by
  rw [popc_eq _ (Nat.xor_lt_two_pow (n := 8) hx hy)]
  have h0 := bit_xor x y 0
  have h1 := bit_xor x y 1
  have h2 := bit_xor x y 2
  have h3 := bit_xor x y 3
  have h4 := bit_xor x y 4
  have h5 := bit_xor x y 5
  have h6 := bit_xor x y 6
  have h7 := bit_xor x y 7
  simp only [Nat.pow_zero, Nat.div_one, Nat.pow_one, Nat.reducePow] at h0 h1 h2 h3 h4 h5 h6 h7
  rw [h0, h1, h2, h3, h4, h5, h6, h7]
theorem bitAt_at (l : List Nat) (k t : Nat) (ht : t < 8) : bitAt l (8 * k + t) = nth l k / 2 ^ t % 2 := by
  unfold bitAt
  rw [show (8 * k + t) / 8 = k by omega, show (8 * k + t) % 8 = t by omega]
theorem rdsum_eq (l m : List Nat) (hl : Byt l) (hm : Byt m) (k : Nat) : rdsum l m (8 * k) = dsum l m k := by
  induction k with
  | zero => rfl
  | succ k ih =>
    have e : 8 * (k + 1) = 8 * k + 7 + 1 := by omega
    rw [e]
    simp only [rdsum, dsum, ih]
    rw [popc_xor _ _ (hl.nth k) (hm.nth k)]
    have b0 := bitAt_at l k 0 (by omega)
    have c0 := bitAt_at m k 0 (by omega)
    simp only [Nat.add_zero, Nat.pow_zero, Nat.div_one] at b0 c0
    rw [b0, c0, bitAt_at l k 1 (by omega), bitAt_at m k 1 (by omega), bitAt_at l k 2 (by omega), bitAt_at m k 2 (by omega), bitAt_at l k 3 (by omega), bitAt_at m k 3 (by omega), bitAt_at l k 4 (by omega), bitAt_at m k 4 (by omega),
      bitAt_at l k 5 (by omega), bitAt_at m k 5 (by omega), bitAt_at l k 6 (by omega), bitAt_at m k 6 (by omega), bitAt_at l k 7 (by omega), bitAt_at m k 7 (by omega)]
    simp only [Nat.pow_one, Nat.reducePow]
    omega
theorem differ_eq (l m : List Nat) (hl : Byt l) (hm : Byt m) : rdiffer l m = differ l m := by
  unfold rdiffer differ
  rw [rdsum_eq l m hl hm]
end Go.Proofs.Ytodpciiedebifaa
