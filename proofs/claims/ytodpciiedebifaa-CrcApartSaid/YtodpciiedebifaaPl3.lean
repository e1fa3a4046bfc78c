/- Plain laws: the program's sum is the document's. -/
import Derived.Test.YtodpciiedebifaaPl2
namespace Go.Proofs.Ytodpciiedebifaa
open Go
theorem half_bit (m k x i : Nat) (hi : i < 32) : (half m (2 ^ k) x).testBit i = ((x.testBit (i + k) && m.testBit i) || (decide (k ≤ i) && (x.testBit (i - k) && m.testBit (i - k)))) := by
  unfold half
  rw [Nat.testBit_or, Nat.testBit_and, Nat.testBit_div_two_pow]
  rw [show (4294967296 : Nat) = 2 ^ 32 from rfl, Nat.testBit_mod_two_pow, Nat.testBit_mul_two_pow, Nat.testBit_and]
  simp [hi]
def flp (k i : Nat) : Nat := if i % (2 * k) < k then i + k else i - k
theorem mask1 : ∀ i : Fin 32, (1431655765 : Nat).testBit i.val = decide (i.val % 2 < 1) := by decide +kernel
theorem half1_bit (x i : Nat) (hi : i < 32) : (half 1431655765 2 x).testBit i = x.testBit (flp 1 i) := by
  have h := half_bit 1431655765 1 x i hi
  rw [show (2 : Nat) ^ 1 = 2 from rfl] at h
  rw [h, mask1 ⟨i, hi⟩]
  unfold flp
  by_cases hc : i % 2 < 1
  · rw [if_pos hc]
    by_cases hk : 1 ≤ i
    · have := mask1 ⟨i - 1, by omega⟩
      have hn : ¬ (i - 1) % 2 < 1 := by omega
      simp only at this
      rw [this]
      simp [hc, hn]
    · simp [hc, hk]
  · rw [if_neg hc]
    have hk : 1 ≤ i := by omega
    have := mask1 ⟨i - 1, by omega⟩
    have hn : (i - 1) % 2 < 1 := by omega
    simp only at this
    rw [this]
    simp [hc, hn, hk]
theorem mask2 : ∀ i : Fin 32, (858993459 : Nat).testBit i.val = decide (i.val % 4 < 2) := by decide +kernel
theorem half2_bit (x i : Nat) (hi : i < 32) : (half 858993459 4 x).testBit i = x.testBit (flp 2 i) := by
  have h := half_bit 858993459 2 x i hi
  rw [show (2 : Nat) ^ 2 = 4 from rfl] at h
  rw [h, mask2 ⟨i, hi⟩]
  unfold flp
  by_cases hc : i % 4 < 2
  · rw [if_pos hc]
    by_cases hk : 2 ≤ i
    · have := mask2 ⟨i - 2, by omega⟩
      have hn : ¬ (i - 2) % 4 < 2 := by omega
      simp only at this
      rw [this]
      simp [hc, hn]
    · simp [hc, hk]
  · rw [if_neg hc]
    have hk : 2 ≤ i := by omega
    have := mask2 ⟨i - 2, by omega⟩
    have hn : (i - 2) % 4 < 2 := by omega
    simp only at this
    rw [this]
    simp [hc, hn, hk]
theorem mask4 : ∀ i : Fin 32, (252645135 : Nat).testBit i.val = decide (i.val % 8 < 4) := by decide +kernel
theorem half4_bit (x i : Nat) (hi : i < 32) : (half 252645135 16 x).testBit i = x.testBit (flp 4 i) := by
  have h := half_bit 252645135 4 x i hi
  rw [show (2 : Nat) ^ 4 = 16 from rfl] at h
  rw [h, mask4 ⟨i, hi⟩]
  unfold flp
  by_cases hc : i % 8 < 4
  · rw [if_pos hc]
    by_cases hk : 4 ≤ i
    · have := mask4 ⟨i - 4, by omega⟩
      have hn : ¬ (i - 4) % 8 < 4 := by omega
      simp only at this
      rw [this]
      simp [hc, hn]
    · simp [hc, hk]
  · rw [if_neg hc]
    have hk : 4 ≤ i := by omega
    have := mask4 ⟨i - 4, by omega⟩
    have hn : (i - 4) % 8 < 4 := by omega
    simp only at this
    rw [this]
    simp [hc, hn, hk]
theorem mask8 : ∀ i : Fin 32, (16711935 : Nat).testBit i.val = decide (i.val % 16 < 8) := by decide +kernel
theorem half8_bit (x i : Nat) (hi : i < 32) : (half 16711935 256 x).testBit i = x.testBit (flp 8 i) := by
  have h := half_bit 16711935 8 x i hi
  rw [show (2 : Nat) ^ 8 = 256 from rfl] at h
  rw [h, mask8 ⟨i, hi⟩]
  unfold flp
  by_cases hc : i % 16 < 8
  · rw [if_pos hc]
    by_cases hk : 8 ≤ i
    · have := mask8 ⟨i - 8, by omega⟩
      have hn : ¬ (i - 8) % 16 < 8 := by omega
      simp only at this
      rw [this]
      simp [hc, hn]
    · simp [hc, hk]
  · rw [if_neg hc]
    have hk : 8 ≤ i := by omega
    have := mask8 ⟨i - 8, by omega⟩
    have hn : (i - 8) % 16 < 8 := by omega
    simp only at this
    rw [this]
    simp [hc, hn, hk]

theorem swap16_bit (c i : Nat) (hi : i < 32) : (swap16 c).testBit i = (half 16711935 256 c).testBit (flp 16 i) := by
  have hl := half_lt 16711935 256 c (by omega)
  unfold swap16 flp
  generalize half 16711935 256 c = h at *
  rw [show (65536 : Nat) = 2 ^ 16 from rfl, show (4294967296 : Nat) = 2 ^ 32 from rfl, Nat.testBit_or, Nat.testBit_div_two_pow, Nat.testBit_mod_two_pow, Nat.testBit_mul_two_pow]
  by_cases hc : i < 16
  · rw [if_pos (by omega)]
    have : ¬ 16 ≤ i := by omega
    simp [this]
  · rw [if_neg (by omega)]
    have h16 : 16 ≤ i := by omega
    have : h.testBit (i + 16) = false := Nat.testBit_lt_two_pow (Nat.lt_of_lt_of_le hl (Nat.pow_le_pow_right (n := 2) (by omega) (by omega : 32 ≤ i + 16)))
    simp [this, h16, hi]
theorem flp_all : ∀ i : Fin 32, flp 16 i.val < 32 ∧ flp 8 (flp 16 i.val) < 32 ∧ flp 4 (flp 8 (flp 16 i.val)) < 32 ∧ flp 2 (flp 4 (flp 8 (flp 16 i.val))) < 32 ∧ flp 1 (flp 2 (flp 4 (flp 8 (flp 16 i.val)))) = 31 - i.val := by decide +kernel
theorem rev32_bit (x i : Nat) (hi : i < 32) : (rev32 x).testBit i = x.testBit (31 - i) := by
  obtain ⟨h1, h2, h3, h4, h5⟩ := flp_all ⟨i, hi⟩
  simp only at h1 h2 h3 h4 h5
  unfold rev32
  rw [swap16_bit _ _ hi, half8_bit _ _ h1, half4_bit _ _ h2, half2_bit _ _ h3, half1_bit _ _ h4, h5]
theorem rev32_lt (x : Nat) : rev32 x < 4294967296 := by
  have hl := half_lt 16711935 256 (half 252645135 16 (half 858993459 4 (half 1431655765 2 x))) (by omega)
  unfold rev32 swap16
  exact Nat.or_lt_two_pow (n := 32) (by omega) (by omega)
theorem ext32 {a b : Nat} (ha : a < 4294967296) (hb : b < 4294967296) (h : ∀ i, i < 32 → a.testBit i = b.testBit i) : a = b := by
  refine Nat.eq_of_testBit_eq fun i => ?_
  by_cases hi : i < 32
  · exact h i hi
  · have hp : 2 ^ 32 ≤ 2 ^ i := Nat.pow_le_pow_right (by omega) (by omega)
    rw [Nat.testBit_lt_two_pow (Nat.lt_of_lt_of_le ha hp), Nat.testBit_lt_two_pow (Nat.lt_of_lt_of_le hb hp)]
theorem xor_lt32 {a b : Nat} (ha : a < 4294967296) (hb : b < 4294967296) : a ^^^ b < 4294967296 := Nat.xor_lt_two_pow (n := 32) ha hb
theorem rev32_xor (a b : Nat) : rev32 (a ^^^ b) = rev32 a ^^^ rev32 b :=
  ext32 (rev32_lt _) (xor_lt32 (rev32_lt _) (rev32_lt _)) fun i hi => by rw [rev32_bit _ _ hi, Nat.testBit_xor, Nat.testBit_xor, rev32_bit _ _ hi, rev32_bit _ _ hi]
/-- The document's register moved down by one, nothing handed in. -/
def sh (r : Nat) : Nat := if r % 2 = 0 then r / 2 else (r / 2) ^^^ 3988292384
theorem sh_lt (r : Nat) (h : r < 4294967296) : sh r < 4294967296 := by
  unfold sh
  split
  · omega
  · exact xor_lt32 (by omega) (by omega)
theorem rev32_dbl (l : Nat) : rev32 (l * 2 % 4294967296) = rev32 l / 2 :=
  ext32 (rev32_lt _) (by have := rev32_lt l; omega) fun i hi => by
    rw [rev32_bit _ _ hi, show l * 2 % 4294967296 = l * 2 ^ 1 % 2 ^ 32 from rfl, Nat.testBit_mod_two_pow, Nat.testBit_mul_two_pow, show rev32 l / 2 = rev32 l / 2 ^ 1 from rfl, Nat.testBit_div_two_pow]
    by_cases h31 : i = 31
    · subst h31
      have : (rev32 l).testBit (31 + 1) = false := Nat.testBit_lt_two_pow (rev32_lt l)
      simp [this]
    · rw [rev32_bit _ _ (by omega : i + 1 < 32)]
      have h1 : 31 - i < 32 := by omega
      have h2 : 1 ≤ 31 - i := by omega
      have h3 : 31 - i - 1 = 31 - (i + 1) := by omega
      simp [h1, h2, h3]
theorem rev32_poly : rev32 79764919 = 3988292384 := by decide +kernel
theorem rev32_zero : rev32 0 = 0 := by decide +kernel
theorem rev32_ones : rev32 4294967295 = 4294967295 := by decide +kernel
theorem rev32_par (l : Nat) (h : l < 4294967296) : rev32 l % 2 = l / 2147483648 := by
  have h0 := rev32_bit l 0 (by omega)
  rw [Nat.testBit_eq_decide_div_mod_eq, Nat.testBit_eq_decide_div_mod_eq] at h0
  simp only [Nat.pow_zero, Nat.div_one, Nat.sub_zero, Nat.reducePow] at h0
  have := decide_eq_decide.1 h0
  omega
theorem rev32_stp (l : Nat) (h : l < 4294967296) : rev32 (stp l) = sh (rev32 l) := by
  unfold stp sh
  rw [rev32_xor, rev32_dbl, rev32_par l h]
  rcases (by omega : l / 2147483648 = 0 ∨ l / 2147483648 = 1) with e | e
  · rw [e, if_pos rfl, Nat.mul_zero, rev32_zero, Nat.xor_zero]
  · rw [e, if_neg (by omega), Nat.mul_one, rev32_poly]
theorem rev32_iter (k l : Nat) (h : l < 4294967296) : rev32 (iter stp k l) = iter sh k (rev32 l) := by
  induction k with
  | zero => rfl
  | succ k ih => rw [iter, iter, rev32_stp _ (iter_lt _ stp_lt _ _ h), ih]
theorem rev32_byte : ∀ x : Fin 256, rev32 (rev8 x.val * 16777216) = x.val := by decide +kernel
theorem xor_half (a b : Nat) : (a ^^^ b) / 2 = a / 2 ^^^ b / 2 := by
  have h := @Nat.xor_div_two_pow a b 1
  simpa using h
theorem xor_par (a b : Nat) : (a ^^^ b) % 2 = if a % 2 = b % 2 then 0 else 1 := by
  have := bit_xor a b 0
  simpa using this
theorem sh_rstp (A y : Nat) : sh (A ^^^ y) = rstp A (y % 2) ^^^ (y / 2) := by
  unfold sh rstp
  rw [xor_par, xor_half]
  by_cases h : A % 2 = y % 2
  · simp [h]
  · simp only [h, if_false]
    rw [if_neg (by omega), Nat.xor_assoc, Nat.xor_assoc, Nat.xor_comm (y / 2)]
/-- A number's bits, handed in one by one. -/
theorem feed (l : List Nat) (j v m : Nat) (hv : ∀ t, t < m → v / 2 ^ t % 2 = bitAt l (j + t)) (t : Nat) (ht : t ≤ m) : iter sh t (rreg l j ^^^ v) = rreg l (j + t) ^^^ (v / 2 ^ t) := by
  induction t with
  | zero => simp [iter]
  | succ t ih =>
    rw [iter, ih (by omega), sh_rstp, hv t (by omega), Nat.div_div_eq_div_mul, ← Nat.pow_succ]
    rfl
theorem reg_rreg (l : List Nat) (hb : Byt l) (k : Nat) : reg l k < 4294967296 ∧ rev32 (reg l k) = rreg l (8 * k) := by
  induction k with
  | zero => exact ⟨by simp [reg], rev32_ones⟩
  | succ k ih =>
    have hx := hb.nth k
    refine ⟨dvd_lt _ _ ih.1 (rev8_lt _ hx), ?_⟩
    rw [reg, dvd, rev32_iter _ _ (dvd_start _ _ ih.1 (rev8_lt _ hx)), rev32_xor, ih.2]
    have h8 := rev32_byte ⟨nth l k, hx⟩
    simp only at h8
    rw [h8, feed l (8 * k) (nth l k) 8 (fun t ht => (bitAt_at l k t ht).symm) 8 (Nat.le_refl _), show nth l k / 2 ^ 8 = 0 by omega, Nat.xor_zero]
    rfl
theorem xor_ones (x : Nat) (h : x < 4294967296) : x ^^^ 4294967295 = 4294967295 - x :=
  ext32 (xor_lt32 h (by omega)) (by omega) fun i hi => by
    have h1 := @Nat.testBit_two_pow_sub_succ x 32 h i
    rw [show 4294967295 - x = 2 ^ 32 - (x + 1) by omega, h1, Nat.testBit_xor, show (4294967295 : Nat) = 2 ^ 32 - 1 from rfl, Nat.testBit_two_pow_sub_one]
    simp [hi]
theorem sum_eq (l : List Nat) (hb : Byt l) : sum l = rsum l := by
  unfold sum rsum
  rw [(reg_rreg l hb _).2, xor_ones _ (rreg_lt l _)]
end Go.Proofs.Ytodpciiedebifaa
