/- Plain laws of the code: bits turned about one by one; a row of bits. -/
import Derived.Test.YthijicpfihpkfaaPl6
namespace Go.Proofs.Ythijicpfihpkfaa
open Go
/-- One bit turned about changes at most one of what is counted. -/
theorem rdsum_flip (a b : List Nat) (k : Nat) (hk : k / 8 < a.length) (m : Nat) : rdsum (a.set (k / 8) (nth a (k / 8) ^^^ 2 ^ (k % 8))) b m ≤ rdsum a b m + (if k < m then 1 else 0) := by
  induction m with
  | zero => simp [rdsum]
  | succ m ih =>
    rw [rdsum, rdsum, bitAt_flip a k m hk]
    have hx : ∀ x y : Nat, (if x = y then 0 else 1) ≤ 1 := fun x y => by split <;> omega
    by_cases e : m = k
    · subst e
      have e1 : (if m < m then 1 else 0) = 0 := if_neg (by omega)
      have e2 : (if m < m + 1 then 1 else 0) = 1 := if_pos (by omega)
      rw [e1] at ih
      rw [e2, if_pos rfl]
      have := hx (1 - bitAt a m) (bitAt b m)
      omega
    · rw [if_neg e]
      have e3 : (if k < m + 1 then 1 else 0) = (if k < m then 1 else 0) := by
        by_cases h : k < m
        · rw [if_pos h, if_pos (by omega)]
        · rw [if_neg h, if_neg (by omega)]
      rw [e3]
      omega
theorem differ_flip (a b : List Nat) (ha : Byt a) (hb : Byt b) (hl : a.length = b.length) (k : Nat) (hk : k / 8 < a.length) : differ (a.set (k / 8) (nth a (k / 8) ^^^ 2 ^ (k % 8))) b ≤ differ a b + 1 := by
  have hs : Byt (a.set (k / 8) (nth a (k / 8) ^^^ 2 ^ (k % 8))) := fun x hx => by
    rcases List.mem_or_eq_of_mem_set hx with h1 | h1
    · exact ha x h1
    · rw [h1]; exact Nat.xor_lt_two_pow (n := 8) (ha.nth _) (Nat.pow_lt_pow_right (by omega) (by omega))
  rw [← differ_eq _ _ hs hb, ← differ_eq _ _ ha hb]
  unfold rdiffer
  rw [List.length_set, ← hl, Nat.max_self, Nat.min_self, Nat.sub_self, Nat.mul_zero, Nat.zero_add, Nat.zero_add]
  have := rdsum_flip a b k hk (8 * a.length)
  split at this <;> omega
theorem differ_self (a : List Nat) (ha : Byt a) : differ a a = 0 := (differ_zero a a ha ha rfl).2 rfl

/-- Bits of a row, those of a number of 32 bits turned about from a place on: the register is what it was just if none was. -/
theorem row_bits (a b : List Nat) (f which : Nat) (hw : which < 4294967296) (M : Nat) (hM : f + 32 ≤ M)
    (h : ∀ i, bitAt a i ^^^ bitAt b i = if f ≤ i ∧ i < f + 32 then which / 2 ^ (i - f) % 2 else 0) :
    (rreg a M = rreg b M ↔ which = 0) := by
  have hsyn := syn_eq a b M
  generalize hd : (fun i => bitAt a i ^^^ bitAt b i) = d at hsyn
  have hdi : ∀ i, d i = if f ≤ i ∧ i < f + 32 then which / 2 ^ (i - f) % 2 else 0 := fun i => by rw [← hd]; exact h i
  have h0 : syn d f = 0 := by
    have := syn_go d 0 f
    rw [Nat.zero_add] at this
    rw [this, show syn d 0 = 0 from rfl, go_zero d 0 0 f (fun i hi => by rw [hdi, if_neg (by omega)]), iter_nil]
  have h1 : ∀ t, t ≤ 32 → go d f 0 t = iter sh t which ^^^ (which / 2 ^ t) := by
    intro t
    induction t with
    | zero => intro _; simp [go, iter]
    | succ t ih =>
      intro ht
      rw [go.eq_2, ih (by omega), hdi, if_pos (by omega), Nat.add_sub_cancel_left, iter.eq_2, Nat.pow_succ, ← Nat.div_div_eq_div_mul]
      generalize which / 2 ^ t = v
      rw [Nat.xor_assoc, sh_xor]
      congr 1
      have e : v ^^^ v % 2 = 2 * (v / 2) := by
        refine Nat.eq_of_testBit_eq fun i => ?_
        rw [Nat.testBit_xor]
        cases i with
        | zero => simp [Nat.testBit_zero]
        | succ i =>
          rw [Nat.testBit_succ, Nat.testBit_succ, Nat.testBit_succ, show v % 2 / 2 = 0 by omega, show 2 * (v / 2) / 2 = v / 2 by omega]
          simp
      rw [e]
      unfold sh
      rw [if_pos (by omega)]
      omega
  have h2 : syn d (f + 32) = iter sh 32 which := by
    rw [syn_go, h0, h1 32 (Nat.le_refl _), show which / 2 ^ 32 = 0 by omega, Nat.xor_zero]
  have h3 : syn d M = iter sh (M - (f + 32)) (iter sh 32 which) := by
    have := syn_go d (f + 32) (M - (f + 32))
    rw [show f + 32 + (M - (f + 32)) = M by omega, h2] at this
    rw [this]
    exact go_zero _ _ _ _ (fun i hi => by rw [hdi, if_neg (by omega)])
  rw [h3, ← iter_add] at hsyn
  constructor
  · intro e
    rw [e, Nat.xor_self] at hsyn
    exact iter_eq_zero _ _ hw hsyn.symm
  · intro e
    subst e
    rw [iter_nil] at hsyn
    have := xor_cancel hsyn
    rw [Nat.zero_xor] at this
    exact this.symm
end Go.Proofs.Ythijicpfihpkfaa
