/- Plain laws of the code: at most three bits, a row of bits, noughts. -/
import Derived.Test.YtodpciiedebifaaPl4
namespace Go.Proofs.Ytodpciiedebifaa
open Go
theorem sh_xor (a b : Nat) : sh (a ^^^ b) = sh a ^^^ sh b := by
  unfold sh
  rw [xor_par, xor_half]
  rcases Nat.mod_two_eq_zero_or_one a with ha | ha <;> rcases Nat.mod_two_eq_zero_or_one b with hb | hb <;> simp only [ha, hb]
  · simp
  · simp [Nat.xor_assoc]
  · simp only [Nat.one_ne_zero, if_false, if_true]
    rw [Nat.xor_assoc, Nat.xor_assoc, Nat.xor_comm (b / 2)]
  · simp only [Nat.one_ne_zero, if_false, if_true]
    rw [Nat.xor_assoc, Nat.xor_comm 3988292384, Nat.xor_assoc (b / 2), Nat.xor_self, Nat.xor_zero]
theorem iter_xor (k a b : Nat) : iter sh k (a ^^^ b) = iter sh k a ^^^ iter sh k b := by
  induction k with
  | zero => rfl
  | succ k ih => rw [iter, iter, iter, ih, sh_xor]
theorem iter_add (j k a : Nat) : iter sh (j + k) a = iter sh j (iter sh k a) := by
  induction j with
  | zero => simp [iter]
  | succ j ih => rw [Nat.add_right_comm, iter, ih, iter]
theorem iter_nil (k : Nat) : iter sh k 0 = 0 := by
  induction k with
  | zero => rfl
  | succ k ih => rw [iter, ih]; rfl
theorem iter_eq_zero (k a : Nat) (ha : a < 4294967296) (h : iter sh k a = 0) : a = 0 := iter_zero_inv k a 0 ha (by omega) (by rw [h, iter_nil])

/-- The register's difference. -/
def syn (d : Nat → Nat) : Nat → Nat
  | 0 => 0
  | k + 1 => sh (syn d k ^^^ d k)
theorem rstp_sh (A b : Nat) (hb : b < 2) : rstp A b = sh (A ^^^ b) := by
  rw [sh_rstp, Nat.mod_eq_of_lt hb, show b / 2 = 0 by omega, Nat.xor_zero]
theorem bitAt_lt (l : List Nat) (k : Nat) : bitAt l k < 2 := Nat.mod_lt _ (by omega)
theorem syn_eq (a b : List Nat) (k : Nat) : rreg a k ^^^ rreg b k = syn (fun i => bitAt a i ^^^ bitAt b i) k := by
  induction k with
  | zero => simp [rreg, syn]
  | succ k ih =>
    rw [rreg, rreg, syn, rstp_sh _ _ (bitAt_lt _ _), rstp_sh _ _ (bitAt_lt _ _), ← sh_xor, ← ih]
    congr 1
    rw [Nat.xor_assoc, Nat.xor_assoc, ← Nat.xor_assoc (bitAt a k), Nat.xor_comm (bitAt a k) (rreg b k), Nat.xor_assoc]
/-- From a place on, from a state on. -/
def go (d : Nat → Nat) (a : Nat) (r : Nat) : Nat → Nat
  | 0 => r
  | k + 1 => sh (go d a r k ^^^ d (a + k))
theorem syn_go (d : Nat → Nat) (a k : Nat) : syn d (a + k) = go d a (syn d a) k := by
  induction k with
  | zero => rfl
  | succ k ih => rw [← Nat.add_assoc, syn, ih, go]
theorem go_zero (d : Nat → Nat) (a r k : Nat) (h : ∀ i, i < k → d (a + i) = 0) : go d a r k = iter sh k r := by
  induction k with
  | zero => rfl
  | succ k ih => rw [go, ih (fun i hi => h i (by omega)), h k (by omega), Nat.xor_zero, iter]
/-- How many are 1 from a place on. -/
def cnt (d : Nat → Nat) (a : Nat) : Nat → Nat
  | 0 => 0
  | k + 1 => cnt d a k + d (a + k)
theorem cnt_zero (d : Nat → Nat) (a k : Nat) (h : cnt d a k = 0) : ∀ i, i < k → d (a + i) = 0 := by
  induction k with
  | zero => intro i hi; omega
  | succ k ih =>
    rw [cnt] at h
    intro i hi
    by_cases e : i = k
    · subst e; omega
    · exact ih (by omega) i (by omega)
theorem cnt_first (d : Nat → Nat) (hd : ∀ i, d i < 2) (a k c : Nat) (h : cnt d a k = c + 1) : ∃ i, i < k ∧ (∀ j, j < i → d (a + j) = 0) ∧ d (a + i) = 1 ∧ cnt d (a + i + 1) (k - (i + 1)) = c := by
  induction k generalizing c with
  | zero => simp [cnt] at h
  | succ k ih =>
    rw [cnt] at h
    by_cases h0 : cnt d a k = 0
    · have hz := cnt_zero d a k h0
      have := hd (a + k)
      refine ⟨k, by omega, hz, by omega, ?_⟩
      rw [show k + 1 - (k + 1) = 0 by omega, cnt]; omega
    · obtain ⟨c', hc'⟩ : ∃ c', cnt d a k = c' + 1 := ⟨cnt d a k - 1, by omega⟩
      obtain ⟨i, hi, h1, h2, h3⟩ := ih c' hc'
      refine ⟨i, by omega, h1, h2, ?_⟩
      rw [show k + 1 - (i + 1) = (k - (i + 1)) + 1 by omega, cnt, h3, show a + i + 1 + (k - (i + 1)) = a + k by omega]
      omega
/-- The powers of the polynomial are told apart by all their bits but the lowest. -/
def tell (m : Nat) : (k r mask : Nat) → Bool
  | 0, _, _ => true
  | k + 1, r, mask =>
    match mask ||| (1 <<< (r / 2 % m)) with
    | 0 => false
    | p + 1 => if mask = p + 1 then false else (match sh r with
      | 0 => false
      | q + 1 => tell m k (q + 1) (p + 1))
theorem tell_spec (m : Nat) : ∀ (k r mask : Nat), tell m k r mask = true → (∀ i, i < k → mask.testBit (iter sh i r / 2 % m) = false) ∧ (∀ i j, i < j → j < k → iter sh i r / 2 ≠ iter sh j r / 2) := by
  intro k
  induction k with
  | zero => intro r mask _; exact ⟨fun i hi => absurd hi (by omega), fun i j _ hj => absurd hj (by omega)⟩
  | succ k ih =>
    intro r mask h
    rw [tell] at h
    have key : ∀ p, mask ||| (1 <<< (r / 2 % m)) = p + 1 → mask ≠ p + 1 → tell m k (sh r) (p + 1) = true → (∀ i, i < k + 1 → mask.testBit (iter sh i r / 2 % m) = false) ∧ (∀ i j, i < j → j < k + 1 → iter sh i r / 2 ≠ iter sh j r / 2) := by
      intro p hp hne ht
      obtain ⟨i1, i2⟩ := ih (sh r) (p + 1) ht
      have hs : ∀ i, iter sh i (sh r) = iter sh (i + 1) r := fun i => by rw [iter_add]; rfl
      have hb : ∀ q, (p + 1).testBit q = (mask.testBit q || decide (r / 2 % m = q)) := fun q => by
        rw [← hp, Nat.testBit_or, Nat.one_shiftLeft, Nat.testBit_two_pow]
      have h0 : mask.testBit (r / 2 % m) = false := by
        rcases Bool.eq_false_or_eq_true (mask.testBit (r / 2 % m)) with e | e
        · exfalso
          apply hne
          refine Nat.eq_of_testBit_eq fun q => ?_
          rw [hb]
          by_cases hq : r / 2 % m = q
          · subst hq; simp [e]
          · simp [hq]
        · exact e
      have h1 : ∀ i, i < k → mask.testBit (iter sh (i + 1) r / 2 % m) = false ∧ r / 2 % m ≠ iter sh (i + 1) r / 2 % m := fun i hi => by
        have := i1 i hi
        rw [hs, hb, Bool.or_eq_false_iff, decide_eq_false_iff_not] at this
        exact this
      refine ⟨fun i hi => ?_, fun i j hij hj => ?_⟩
      · cases i with
        | zero => exact h0
        | succ i => exact (h1 i (by omega)).1
      · obtain ⟨j, rfl⟩ : ∃ j', j = j' + 1 := ⟨j - 1, by omega⟩
        cases i with
        | zero => intro e; exact (h1 j (by omega)).2 (by rw [← e]; rfl)
        | succ i => rw [← hs, ← hs]; exact i2 i j (by omega) (by omega)
    split at h
    · cases h
    · rename_i p hp
      split at h
      · cases h
      · rename_i hne
        split at h
        · cases h
        · rename_i q hq
          exact key p hp hne (by rw [hq]; exact h)
theorem told_1056 : tell 53231 1056 1 0 = true := by decide +kernel
theorem apart_1056 (i j : Nat) (hij : i < j) (hj : j < 1056) : iter sh i 1 / 2 ≠ iter sh j 1 / 2 := (tell_spec 53231 1056 1 0 told_1056).2 i j hij hj

/-- At most three 1 among at most 1056 lead to no register 0, but none at all. -/
theorem few (d : Nat → Nat) (hd : ∀ i, d i < 2) (M : Nat) (hM : M ≤ 1056) (hc : cnt d 0 M ≤ 3) (h : syn d M = 0) : cnt d 0 M = 0 := by
  rcases Nat.eq_zero_or_pos (cnt d 0 M) with h0 | hpos
  · exact h0
  exfalso
  have e0 := syn_go d 0 M
  rw [Nat.zero_add] at e0
  -- what comes behind the first one
  have step : ∀ a k c r, cnt d a k = c + 1 → ∃ i, i < k ∧ cnt d (a + i + 1) (k - (i + 1)) = c ∧ go d a r k = go d (a + i + 1) (sh (iter sh i r ^^^ 1)) (k - (i + 1)) := by
    intro a k c r hk
    obtain ⟨i, hi, h1, h2, h3⟩ := cnt_first d hd a k c hk
    refine ⟨i, hi, h3, ?_⟩
    have split : ∀ n, go d a r (i + 1 + n) = go d (a + i + 1) (sh (iter sh i r ^^^ 1)) n := by
      intro n
      induction n with
      | zero => rw [Nat.add_zero, go.eq_2, go_zero d a r i h1, h2, go.eq_1]
      | succ n ihn => rw [← Nat.add_assoc, go.eq_2, ihn, go.eq_2, show a + (i + 1 + n) = a + i + 1 + n by omega]
    have := split (k - (i + 1))
    rwa [show i + 1 + (k - (i + 1)) = k by omega] at this
  have fin : ∀ a k r, r < 4294967296 → cnt d a k = 0 → go d a r k = 0 → r = 0 := by
    intro a k r hr hk hg
    rw [go_zero d a r k (cnt_zero d a k hk)] at hg
    exact iter_eq_zero k r hr hg
  have shz : ∀ r, r < 4294967296 → sh r = 0 → r = 0 := fun r hr hz => iter_eq_zero 1 r hr hz
  have one : (1 : Nat) < 4294967296 := by omega
  have ap : ∀ i, 0 < i → i < 1056 → iter sh i 1 / 2 ≠ 0 := fun i hi hi2 => by
    have := apart_1056 0 i hi hi2
    simpa [iter] using this.symm
  obtain ⟨c, hcc⟩ : ∃ c, cnt d 0 M = c + 1 := ⟨cnt d 0 M - 1, by omega⟩
  obtain ⟨i, hi, hc1, g1⟩ := step 0 M c (syn d 0) hcc
  rw [← e0, h, show syn d 0 = 0 from rfl, iter_nil, Nat.zero_xor] at g1
  have s1 : sh 1 < 4294967296 := sh_lt 1 one
  rcases Nat.eq_zero_or_pos c with hc0 | hcp
  · subst hc0
    have := shz 1 one (fin _ _ _ s1 hc1 g1.symm)
    omega
  obtain ⟨c2, hcc2⟩ : ∃ c2, c = c2 + 1 := ⟨c - 1, by omega⟩
  rw [hcc2] at hc1
  obtain ⟨j, hj, hc2, g2⟩ := step _ _ c2 (sh 1) hc1
  rw [← g1] at g2
  have t1 : iter sh j (sh 1) = iter sh (j + 1) 1 := by rw [iter_add]; rfl
  rw [t1] at g2
  have l1 : iter sh (j + 1) 1 < 4294967296 := iter_lt _ sh_lt _ _ one
  have s2 : iter sh (j + 1) 1 ^^^ 1 < 4294967296 := xor_lt32 l1 one
  have x1 : ∀ y, y ^^^ 1 = 0 → y / 2 = 0 := fun y hy => by
    have := congrArg (· ^^^ 1) hy
    simp only [Nat.xor_assoc, Nat.xor_self, Nat.xor_zero, Nat.zero_xor] at this
    omega
  rcases Nat.eq_zero_or_pos c2 with hc0 | hcp2
  · subst hc0
    have := shz _ s2 (fin _ _ _ (sh_lt _ s2) hc2 g2.symm)
    exact ap (j + 1) (by omega) (by omega) (x1 _ this)
  obtain ⟨c3, hcc3⟩ : ∃ c3, c2 = c3 + 1 := ⟨c2 - 1, by omega⟩
  rw [hcc3] at hc2
  obtain ⟨m, hm, hc3, g3⟩ := step _ _ c3 (sh (iter sh (j + 1) 1 ^^^ 1)) hc2
  rw [← g2] at g3
  have t2 : iter sh m (sh (iter sh (j + 1) 1 ^^^ 1)) = iter sh (m + 1 + (j + 1)) 1 ^^^ iter sh (m + 1) 1 := by
    have : iter sh m (sh (iter sh (j + 1) 1 ^^^ 1)) = iter sh (m + 1) (iter sh (j + 1) 1 ^^^ 1) := by rw [iter_add m 1]; rfl
    rw [this, iter_xor, iter_add (m + 1)]
  rw [t2] at g3
  have hc30 : c3 = 0 := by omega
  subst hc30
  have l2 : iter sh (m + 1 + (j + 1)) 1 ^^^ iter sh (m + 1) 1 ^^^ 1 < 4294967296 := xor_lt32 (xor_lt32 (iter_lt _ sh_lt _ _ one) (iter_lt _ sh_lt _ _ one)) one
  have z := shz _ l2 (fin _ _ _ (sh_lt _ l2) hc3 g3.symm)
  have z2 := x1 _ z
  rw [xor_half] at z2
  have z3 := xor_cancel z2
  rw [Nat.zero_xor] at z3
  exact apart_1056 (m + 1) (m + 1 + (j + 1)) (by omega) (by omega) z3
theorem bitxor_eq (a b : List Nat) (i : Nat) : bitAt a i ^^^ bitAt b i = if bitAt a i = bitAt b i then 0 else 1 := by
  have h1 := bitAt_lt a i
  have h2 := bitAt_lt b i
  rcases (by omega : bitAt a i = 0 ∨ bitAt a i = 1) with e | e <;> rcases (by omega : bitAt b i = 0 ∨ bitAt b i = 1) with f | f <;> simp [e, f]
theorem cnt_rdsum (a b : List Nat) (k : Nat) : cnt (fun i => bitAt a i ^^^ bitAt b i) 0 k = rdsum a b k := by
  induction k with
  | zero => rfl
  | succ k ih => rw [cnt, ih, rdsum, Nat.zero_add, bitxor_eq]
theorem bits_ext (a b : List Nat) (ha : Byt a) (hb : Byt b) (hl : a.length = b.length) (h : ∀ i, i < 8 * a.length → bitAt a i = bitAt b i) : a = b := by
  refine ext_nth hl fun j hj => ?_
  have hx := ha.nth j
  have hy := hb.nth j
  have key : ∀ t, t < 8 → nth a j / 2 ^ t % 2 = nth b j / 2 ^ t % 2 := fun t ht => by
    have := h (8 * j + t) (by omega)
    rwa [bitAt_at _ _ _ ht, bitAt_at _ _ _ ht] at this
  have k0 := key 0 (by omega); have k1 := key 1 (by omega); have k2 := key 2 (by omega); have k3 := key 3 (by omega)
  have k4 := key 4 (by omega); have k5 := key 5 (by omega); have k6 := key 6 (by omega); have k7 := key 7 (by omega)
  simp only [Nat.pow_zero, Nat.div_one, Nat.reducePow] at k0 k1 k2 k3 k4 k5 k6 k7
  omega
theorem rdsum_zero (a b : List Nat) (k : Nat) (h : rdsum a b k = 0) : ∀ i, i < k → bitAt a i = bitAt b i := by
  intro i hi
  have := cnt_zero (fun i => bitAt a i ^^^ bitAt b i) 0 k (by rw [cnt_rdsum, h]) i hi
  simp only [Nat.zero_add, bitxor_eq] at this
  split at this
  · assumption
  · omega
theorem differ_zero (a b : List Nat) (ha : Byt a) (hb : Byt b) (hl : a.length = b.length) : differ a b = 0 ↔ a = b := by
  rw [← differ_eq a b ha hb, rdiffer, ← hl, Nat.max_self, Nat.min_self, Nat.sub_self, Nat.mul_zero, Nat.zero_add]
  constructor
  · intro h
    exact bits_ext a b ha hb hl (rdsum_zero a b _ h)
  · rintro rfl
    have : ∀ k, rdsum a a k = 0 := fun k => by
      induction k with
      | zero => rfl
      | succ k ih => simp [rdsum, ih]
    exact this _
/-- Two datagrams with their sums, of one length of at most 132 bytes, are the same or differ in at least four bits. -/
theorem apart4 (a b : List Nat) (ha : Byt a) (hb : Byt b) (hl : a.length = b.length) (hn : a.length ≤ 132) (wa : wholeB a = true) (wb : wholeB b = true) (h : differ a b ≤ 3) : a = b := by
  have h0 := h
  rw [← differ_eq a b ha hb, rdiffer, ← hl, Nat.max_self, Nat.min_self, Nat.sub_self, Nat.mul_zero, Nat.zero_add, ← cnt_rdsum] at h0
  have ea := ((whole_iff a ha).1 wa).2
  have eb := ((whole_iff b hb).1 wb).2
  have hs : syn (fun i => bitAt a i ^^^ bitAt b i) (8 * a.length) = 0 := by
    rw [← syn_eq, ea, hl, eb, Nat.xor_self]
  have := few _ (fun i => by rw [bitxor_eq]; split <;> omega) (8 * a.length) (by omega) h0 hs
  rw [cnt_rdsum] at this
  exact bits_ext a b ha hb hl (rdsum_zero a b _ this)
theorem whole_withs (l : List Nat) : wholeB (withs l) = true := by
  unfold wholeB
  rw [withs_len, Nat.add_sub_cancel, Bool.and_eq_true, decide_eq_true_eq, beq_iff_eq]
  refine ⟨by omega, ?_⟩
  have : (withs l).take l.length = l := by unfold withs; exact List.take_left
  rw [this]
end Go.Proofs.Ytodpciiedebifaa
