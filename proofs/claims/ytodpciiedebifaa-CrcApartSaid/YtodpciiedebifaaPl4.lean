/- Plain laws of the code: a datagram with its sum; two of one length that are not the same differ in at least four bits; a row of bits. -/
import Derived.Test.YtodpciiedebifaaPl3
namespace Go.Proofs.Ytodpciiedebifaa
open Go
def withs (l : List Nat) : List Nat := l ++ tail4 (rsum l) 4
def wholeB (l : List Nat) : Bool := decide (4 ≤ l.length) && withs (l.take (l.length - 4)) == l
theorem tail4_four (s : Nat) : tail4 s 4 = [s % 256, s / 256 % 256, s / 65536 % 256, s / 16777216 % 256] := by simp [tail4]
theorem tail4_len (s k : Nat) : (tail4 s k).length = k := by
  induction k with
  | zero => rfl
  | succ k ih => simp [tail4, ih]
theorem tail4_byt (s k : Nat) : Byt (tail4 s k) := by
  induction k with
  | zero => simp [tail4, Byt]
  | succ k ih =>
    intro x hx
    simp only [tail4, List.mem_append, List.mem_singleton] at hx
    rcases hx with hx | rfl
    · exact ih x hx
    · omega
theorem byt_append {a b : List Nat} (ha : Byt a) (hb : Byt b) : Byt (a ++ b) := fun x hx => (List.mem_append.1 hx).elim (ha x) (hb x)
theorem byt_take {a : List Nat} (ha : Byt a) (k : Nat) : Byt (a.take k) := fun x hx => ha x (List.mem_of_mem_take hx)
theorem withs_len (l : List Nat) : (withs l).length = l.length + 4 := by simp [withs, tail4_len]
theorem withs_byt {l : List Nat} (h : Byt l) : Byt (withs l) := byt_append h (tail4_byt _ _)
theorem nth_append_left (a b : List Nat) (j : Nat) (h : j < a.length) : nth (a ++ b) j = nth a j := by
  unfold nth
  rw [List.getD_eq_getElem?_getD, List.getD_eq_getElem?_getD, List.getElem?_append_left h]
theorem nth_append_right (a b : List Nat) (j : Nat) : nth (a ++ b) (a.length + j) = nth b j := by
  unfold nth
  rw [List.getD_eq_getElem?_getD, List.getD_eq_getElem?_getD, List.getElem?_append_right (by omega), Nat.add_sub_cancel_left]
theorem nth_take (a : List Nat) (n j : Nat) (h : j < n) : nth (a.take n) j = nth a j := by
  unfold nth
  rw [List.getD_eq_getElem?_getD, List.getD_eq_getElem?_getD, List.getElem?_take, if_pos h]
theorem rreg_congr (a b : List Nat) (n : Nat) (h : ∀ j, j < n → nth a j = nth b j) (k : Nat) (hk : k ≤ 8 * n) : rreg a k = rreg b k := by
  induction k with
  | zero => rfl
  | succ k ih =>
    rw [rreg, rreg, ih (by omega)]
    unfold bitAt
    rw [h (k / 8) (by omega)]
/-- Four bytes as one number. -/
def num4 (l : List Nat) (n : Nat) : Nat := nth l n + 256 * nth l (n + 1) + 65536 * nth l (n + 2) + 16777216 * nth l (n + 3)
theorem num4_lt (l : List Nat) (hb : Byt l) (n : Nat) : num4 l n < 4294967296 := by
  unfold num4
  have := hb.nth n; have := hb.nth (n + 1); have := hb.nth (n + 2); have := hb.nth (n + 3)
  omega
theorem num4_bit (l : List Nat) (hb : Byt l) (n t : Nat) (ht : t < 32) : num4 l n / 2 ^ t % 2 = bitAt l (8 * n + t) := by
  have h0 := hb.nth n; have h1 := hb.nth (n + 1); have h2 := hb.nth (n + 2); have h3 := hb.nth (n + 3)
  have key : ∀ q s : Nat, q < 4 → s < 8 → t = 8 * q + s → bitAt l (8 * n + t) = nth l (n + q) / 2 ^ s % 2 := fun q s hq hs e => by
    rw [show 8 * n + t = 8 * (n + q) + s by omega, bitAt_at _ _ _ hs]
  unfold num4
  rcases (by omega : t < 8 ∨ 8 ≤ t ∧ t < 16 ∨ 16 ≤ t ∧ t < 24 ∨ 24 ≤ t) with h | h | h | h
  · rw [key 0 t (by omega) h (by omega)]
    rcases (by omega : t = 0 ∨ t = 1 ∨ t = 2 ∨ t = 3 ∨ t = 4 ∨ t = 5 ∨ t = 6 ∨ t = 7) with e | e | e | e | e | e | e | e <;> subst e <;> simp only [Nat.add_zero, Nat.reducePow] <;> omega
  · rw [key 1 (t - 8) (by omega) (by omega) (by omega)]
    rcases (by omega : t = 8 ∨ t = 9 ∨ t = 10 ∨ t = 11 ∨ t = 12 ∨ t = 13 ∨ t = 14 ∨ t = 15) with e | e | e | e | e | e | e | e <;> subst e <;> simp only [Nat.reduceSub, Nat.reducePow] <;> omega
  · rw [key 2 (t - 16) (by omega) (by omega) (by omega)]
    rcases (by omega : t = 16 ∨ t = 17 ∨ t = 18 ∨ t = 19 ∨ t = 20 ∨ t = 21 ∨ t = 22 ∨ t = 23) with e | e | e | e | e | e | e | e <;> subst e <;> simp only [Nat.reduceSub, Nat.reducePow] <;> omega
  · rw [key 3 (t - 24) (by omega) (by omega) (by omega)]
    rcases (by omega : t = 24 ∨ t = 25 ∨ t = 26 ∨ t = 27 ∨ t = 28 ∨ t = 29 ∨ t = 30 ∨ t = 31) with e | e | e | e | e | e | e | e <;> subst e <;> simp only [Nat.reduceSub, Nat.reducePow] <;> omega
theorem iter_zero_inv (k : Nat) : ∀ a b : Nat, a < 4294967296 → b < 4294967296 → iter sh k a = iter sh k b → a = b := by
  have inj : ∀ a b : Nat, a < 4294967296 → b < 4294967296 → sh a = sh b → a = b := fun a b ha hb h => by
    have key : ∀ r : Nat, r < 4294967296 → (sh r / 2147483648 = r % 2) := fun r hr => by
      unfold sh
      split
      · rename_i h0; omega
      · rename_i h0
        have e : ((r / 2) ^^^ 3988292384) / 2147483648 = (r / 2) / 2147483648 ^^^ 3988292384 / 2147483648 := by
          have := @Nat.xor_div_two_pow (r / 2) 3988292384 31
          simpa using this
        rw [e, show r / 2 / 2147483648 = 0 by omega, Nat.zero_xor]
        omega
    have p : a % 2 = b % 2 := by rw [← key a ha, ← key b hb, h]
    unfold sh at h
    rcases Nat.mod_two_eq_zero_or_one a with e | e
    · rw [if_pos e, if_pos (by omega)] at h; omega
    · rw [if_neg (by omega), if_neg (by omega)] at h
      have h2 := congrArg (· ^^^ 3988292384) h
      simp only [Nat.xor_assoc, Nat.xor_self, Nat.xor_zero] at h2
      omega
  induction k with
  | zero => intro a b _ _ h; exact h
  | succ k ih =>
    intro a b ha hb h
    rw [iter, iter] at h
    exact ih a b ha hb (inj _ _ (iter_lt _ sh_lt _ _ ha) (iter_lt _ sh_lt _ _ hb) h)
theorem xor_cancel {a b c : Nat} (h : a ^^^ b = c) : b = c ^^^ a := by
  rw [← h, Nat.xor_comm a b, Nat.xor_assoc, Nat.xor_self, Nat.xor_zero]
/-- A row of bytes is a datagram with its sum just if the register behind it all is one fixed number. -/
theorem whole_iff (l : List Nat) (hb : Byt l) : wholeB l = true ↔ 4 ≤ l.length ∧ rreg l (8 * l.length) = iter sh 32 4294967295 := by
  unfold wholeB
  rw [Bool.and_eq_true, decide_eq_true_eq, beq_iff_eq]
  constructor
  · rintro ⟨h4, he⟩
    refine ⟨h4, ?_⟩
    generalize hd : l.take (l.length - 4) = d at he
    have hdl : d.length = l.length - 4 := by rw [← hd, List.length_take]; omega
    have hr : rreg l (8 * d.length) = rreg d (8 * d.length) := rreg_congr _ _ d.length (fun j hj => by rw [← he, withs, nth_append_left _ _ _ hj]) _ (Nat.le_refl _)
    have hn : num4 l d.length = rsum d := by
      have q0 := nth_append_right d (tail4 (rsum d) 4) 0
      have q1 := nth_append_right d (tail4 (rsum d) 4) 1
      have q2 := nth_append_right d (tail4 (rsum d) 4) 2
      have q3 := nth_append_right d (tail4 (rsum d) 4) 3
      rw [← withs, he, tail4_four] at q0 q1 q2 q3
      have hs := rsum_lt d
      unfold num4
      rw [Nat.add_zero] at q0
      rw [q0, q1, q2, q3]
      simp only [nth, List.getD_cons_zero, List.getD_cons_succ]
      omega
    have hf := feed l (8 * d.length) (num4 l d.length) 32 (fun t ht => num4_bit l hb _ t ht) 32 (Nat.le_refl _)
    rw [show num4 l d.length / 2 ^ 32 = 0 by have := num4_lt l hb d.length; omega, Nat.xor_zero, show 8 * d.length + 32 = 8 * l.length by omega, hr, hn, rsum, ← Nat.xor_assoc, Nat.xor_self, Nat.zero_xor] at hf
    exact hf.symm
  · rintro ⟨h4, he⟩
    refine ⟨h4, ?_⟩
    obtain ⟨n, hn⟩ : ∃ n, l.length = n + 4 := ⟨l.length - 4, by omega⟩
    have hn' : l.length - 4 = n := by omega
    rw [hn']
    have hf := feed l (8 * n) (num4 l n) 32 (fun t ht => num4_bit l hb _ t ht) 32 (Nat.le_refl _)
    rw [show num4 l n / 2 ^ 32 = 0 by have := num4_lt l hb n; omega, Nat.xor_zero, show 8 * n + 32 = 8 * l.length by omega, he] at hf
    have hx := iter_zero_inv 32 _ _ (xor_lt32 (rreg_lt l _) (num4_lt l hb n)) (by omega) hf
    have hv := xor_cancel hx
    have hr : rreg (l.take n) (8 * n) = rreg l (8 * n) := rreg_congr _ _ n (fun j hj => nth_take _ _ _ hj) _ (Nat.le_refl _)
    have hs : rsum (l.take n) = num4 l n := by
      unfold rsum
      rw [show (l.take n).length = n by rw [List.length_take]; omega, hr, hv, Nat.xor_comm]
    have b0 := hb.nth n; have b1 := hb.nth (n + 1); have b2 := hb.nth (n + 2); have b3 := hb.nth (n + 3)
    refine ext_nth (by rw [withs_len, List.length_take]; omega) fun j hj => ?_
    have htl : (l.take n).length = n := by rw [List.length_take]; omega
    rw [withs_len, htl] at hj
    unfold withs
    rcases Nat.lt_or_ge j n with hjn | hjn
    · rw [nth_append_left _ _ _ (by omega), nth_take _ _ _ hjn]
    · obtain ⟨q, rfl⟩ : ∃ q, j = n + q := ⟨j - n, by omega⟩
      have := nth_append_right (l.take n) (tail4 (rsum (l.take n)) 4) q
      rw [htl] at this
      rw [this, hs, tail4_four]
      unfold num4
      rcases (by omega : q = 0 ∨ q = 1 ∨ q = 2 ∨ q = 3) with e | e | e | e <;> subst e <;> simp only [nth, List.getD_cons_zero, List.getD_cons_succ, Nat.add_zero] at b0 b1 b2 b3 ⊢ <;> omega
end Go.Proofs.Ytodpciiedebifaa
