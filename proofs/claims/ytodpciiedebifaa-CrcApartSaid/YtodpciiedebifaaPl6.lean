/- Plain laws of the code: noughts, a row of bits, flipped bits. -/
import Derived.Test.YtodpciiedebifaaPl5
namespace Go.Proofs.Ytodpciiedebifaa
open Go
@[irreducible] def sh8 (r : Nat) : Nat := iter sh 8 r
theorem sh8_eq (r : Nat) : sh8 r = iter sh 8 r := by unfold sh8; rfl
def runs (z : Nat) : (k r : Nat) → Bool
  | 0, _ => true
  | k + 1, r => match sh8 r with
    | 0 => false
    | q + 1 => !(q + 1 == z) && runs z k (q + 1)
theorem runs_step (z k r q : Nat) (h : sh8 r = q + 1) (hr : runs z (k + 1) r = true) : q + 1 ≠ z ∧ runs z k (q + 1) = true := by
  rw [runs, h] at hr
  simpa using hr
theorem runs_zero (z k r : Nat) (h : sh8 r = 0) (hr : runs z (k + 1) r = true) : False := by
  rw [runs, h] at hr
  cases hr
theorem runs_spec (z : Nat) : ∀ (k r : Nat), runs z k r = true → ∀ m, 0 < m → m ≤ k → iter sh (8 * m) r ≠ z
  | 0, _, _, _, h1, h2 => absurd h1 (by omega)
  | k + 1, r, h, m, h1, h2 => by
    rcases Nat.eq_zero_or_pos (sh8 r) with e | e
    · exact (runs_zero z k r e h).elim
    · obtain ⟨q, hq⟩ : ∃ q, sh8 r = q + 1 := ⟨sh8 r - 1, by omega⟩
      obtain ⟨hne, h'⟩ := runs_step z k r q hq h
      by_cases e : m = 1
      · rw [e, Nat.mul_one, ← sh8_eq, hq]; exact hne
      · have := runs_spec z k (q + 1) h' (m - 1) (by omega) (by omega)
        rw [← hq, sh8_eq, ← iter_add, show 8 * (m - 1) + 8 = 8 * m by omega] at this
        exact this
theorem runs_128 : runs 4294967295 128 4294967295 = true := by decide +kernel
theorem noughts_bit (n k : Nat) : bitAt (List.replicate n 0) k = 0 := by
  have : nth (List.replicate n 0) (k / 8) = 0 := by
    unfold nth
    rw [List.getD_eq_getElem?_getD, List.getElem?_replicate]
    split <;> rfl
  unfold bitAt
  rw [this]; simp
theorem noughts_reg (n k : Nat) : rreg (List.replicate n 0) k = iter sh k 4294967295 := by
  induction k with
  | zero => rfl
  | succ k ih => rw [rreg, noughts_bit, ih, iter, rstp_sh _ _ (by omega), Nat.xor_zero]
theorem noughts_byt (n : Nat) : Byt (List.replicate n 0) := fun x hx => by
  rw [List.eq_of_mem_replicate hx]; omega
/-- Of at most 132 noughts just four are a datagram with its sum. -/
theorem noughts (n : Nat) (hn : n ≤ 132) : wholeB (List.replicate n 0) = decide (n = 4) := by
  rw [Bool.eq_iff_iff, whole_iff _ (noughts_byt n), decide_eq_true_eq, List.length_replicate, noughts_reg]
  constructor
  · rintro ⟨h4, h⟩
    rcases (by omega : n = 4 ∨ 4 < n) with e | e
    · exact e
    · exfalso
      rw [show 8 * n = 32 + 8 * (n - 4) by omega, iter_add] at h
      exact runs_spec _ 128 _ runs_128 (n - 4) (by omega) (by omega) (iter_zero_inv 32 _ _ (iter_lt _ sh_lt _ _ (by omega)) (by omega) h)
  · rintro rfl
    exact ⟨by omega, rfl⟩
/-- A byte with one bit turned about: how its bits differ. -/
theorem bitAt_flip (l : List Nat) (k i : Nat) (hk : k / 8 < l.length) : bitAt (l.set (k / 8) (nth l (k / 8) ^^^ 2 ^ (k % 8))) i = if i = k then 1 - bitAt l i else bitAt l i := by
  unfold bitAt
  have hset : ∀ j, nth (l.set (k / 8) (nth l (k / 8) ^^^ 2 ^ (k % 8))) j = if j = k / 8 then nth l (k / 8) ^^^ 2 ^ (k % 8) else nth l j := fun j => by
    unfold nth
    rw [List.getD_eq_getElem?_getD, List.getD_eq_getElem?_getD, List.getElem?_set]
    by_cases h : k / 8 = j
    · subst h; simp [hk]
    · rw [if_neg h, if_neg (fun e => h e.symm), List.getD_eq_getElem?_getD]
  rw [hset]
  by_cases hj : i / 8 = k / 8
  · rw [if_pos hj, bit_xor, hj]
    have hp : 2 ^ (k % 8) / 2 ^ (i % 8) % 2 = if i % 8 = k % 8 then 1 else 0 := by
      have := Nat.testBit_two_pow (n := k % 8) (m := i % 8)
      rw [Nat.testBit_eq_decide_div_mod_eq] at this
      have h2 := Nat.mod_two_eq_zero_or_one (2 ^ (k % 8) / 2 ^ (i % 8))
      by_cases e : i % 8 = k % 8
      · rw [if_pos e]
        have h3 := decide_eq_decide.1 this
        exact h3.2 e.symm
      · rw [if_neg e]
        have h3 := decide_eq_decide.1 this
        rcases h2 with h2 | h2
        · exact h2
        · exact absurd (h3.1 h2).symm e
    rw [hp]
    have h2 := Nat.mod_two_eq_zero_or_one (nth l (k / 8) / 2 ^ (i % 8))
    by_cases e : i % 8 = k % 8
    · have : i = k := by omega
      rw [if_pos e, if_pos this]
      rcases h2 with h2 | h2 <;> rw [h2] <;> simp
    · have : ¬ i = k := fun h => e (by rw [h])
      rw [if_neg e, if_neg this]
      rcases h2 with h2 | h2 <;> rw [h2] <;> simp
  · have : ¬ i = k := fun h => hj (by rw [h])
    rw [if_neg hj, if_neg this]
end Go.Proofs.Ytodpciiedebifaa
