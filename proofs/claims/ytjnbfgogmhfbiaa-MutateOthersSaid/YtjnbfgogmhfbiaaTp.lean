/- Trees as lists of depths: where a tree ends, whose kid a place is. No program. -/
namespace Go.Proofs.Ytjnbfgogmhfbiaa
/-- The first place from 's' on, 'f' places at most, that is not deeper than 'a'. -/
def endFrom (d : Nat → Int) (a : Int) : Nat → Nat → Nat
  | 0, s => s
  | f + 1, s => if a < d s then endFrom d a f (s + 1) else s
/-- The place behind a node's tree. -/
def endN (d : Nat → Int) (n at_ : Nat) : Nat := endFrom d (d at_) (n - (at_ + 1)) (at_ + 1)
theorem endFrom_spec (d : Nat → Int) (a : Int) : ∀ (f s : Nat), s ≤ endFrom d a f s ∧ endFrom d a f s ≤ s + f ∧ (∀ j, s ≤ j → j < endFrom d a f s → a < d j) ∧ (endFrom d a f s = s + f ∨ d (endFrom d a f s) ≤ a)
  | 0, s => ⟨Nat.le_refl _, Nat.le_refl _, fun j h1 h2 => absurd h2 (by simp [endFrom]; omega), .inl rfl⟩
  | f + 1, s => by
    unfold endFrom
    split
    · rename_i h
      obtain ⟨h1, h2, h3, h4⟩ := endFrom_spec d a f (s + 1)
      refine ⟨by omega, by omega, fun j hj hk => ?_, by omega⟩
      rcases Nat.lt_or_ge s j with h' | h'
      · exact h3 j h' hk
      · obtain rfl : j = s := by omega
        exact h
    · rename_i h
      exact ⟨Nat.le_refl _, by omega, fun j h1 h2 => by omega, .inr (by omega)⟩
section
variable {d : Nat → Int} {n i j : Nat}
theorem endN_gt (h : i < n) : i < endN d n i := by
  have := (endFrom_spec d (d i) (n - (i + 1)) (i + 1)).1
  unfold endN; omega
theorem endN_le (h : i < n) : endN d n i ≤ n := by
  have := (endFrom_spec d (d i) (n - (i + 1)) (i + 1)).2.1
  unfold endN; omega
theorem endN_in (h1 : i < j) (h2 : j < endN d n i) : d i < d j := (endFrom_spec d (d i) (n - (i + 1)) (i + 1)).2.2.1 j h1 h2
theorem endN_out (h : i < n) : endN d n i = n ∨ d (endN d n i) ≤ d i := by
  rcases (endFrom_spec d (d i) (n - (i + 1)) (i + 1)).2.2.2 with h1 | h1
  · left; unfold endN; omega
  · exact .inr h1
theorem endN_uniq {e : Nat} (h : i < n) (h1 : i < e) (h2 : e ≤ n) (h3 : ∀ j, i < j → j < e → d i < d j) (h4 : e = n ∨ d e ≤ d i) : endN d n i = e := by
  rcases Nat.lt_trichotomy (endN d n i) e with hl | hl | hl
  · have g1 := h3 _ (endN_gt (d := d) h) hl
    rcases endN_out (d := d) h with h' | h' <;> omega
  · exact hl
  · have g1 := endN_in h1 hl
    have := endN_le (d := d) h
    rcases h4 with h' | h' <;> omega
/-- The last place ahead of 'k' of depth 'a'. -/
def upFrom (d : Nat → Int) (a : Int) : Nat → Int
  | 0 => -1
  | k + 1 => if d k = a then (k : Int) else upFrom d a k
def parentN (d : Nat → Int) (i : Nat) : Int := upFrom d (d i - 1) i
theorem upFrom_spec (d : Nat → Int) (a : Int) : ∀ k : Nat, (upFrom d a k = -1 ∧ ∀ j, j < k → d j ≠ a) ∨ ∃ p : Nat, upFrom d a k = p ∧ p < k ∧ d p = a ∧ ∀ j, p < j → j < k → d j ≠ a
  | 0 => .inl ⟨rfl, fun j h => absurd h (by omega)⟩
  | k + 1 => by
    unfold upFrom
    split
    · rename_i h
      exact .inr ⟨k, rfl, by omega, h, fun j h1 h2 => by omega⟩
    · rename_i h
      rcases upFrom_spec d a k with ⟨h1, h2⟩ | ⟨p, h1, h2, h3, h4⟩
      · refine .inl ⟨h1, fun j hj => ?_⟩
        rcases Nat.lt_or_ge j k with h' | h'
        · exact h2 j h'
        · obtain rfl : j = k := by omega
          exact h
      · refine .inr ⟨p, h1, by omega, h3, fun j g1 g2 => ?_⟩
        rcases Nat.lt_or_ge j k with h' | h'
        · exact h4 j g1 h'
        · obtain rfl : j = k := by omega
          exact h
theorem upFrom_uniq {a : Int} {k p : Nat} (h1 : p < k) (h2 : d p = a) (h3 : ∀ j, p < j → j < k → d j ≠ a) : upFrom d a k = p := by
  rcases upFrom_spec d a k with ⟨_, h⟩ | ⟨q, h4, h5, h6, h7⟩
  · exact absurd h2 (h p h1)
  · rcases Nat.lt_trichotomy q p with hl | hl | hl
    · exact absurd h2 (h7 p hl h1)
    · rw [h4, hl]
    · exact absurd h6 (h3 q hl h5)
/-- A node's kids, rising. -/
def kidsN (d : Nat → Int) (n i : Nat) : List Nat := (List.range' (i + 1) (endN d n i - (i + 1))).filter (fun j => decide (d j = d i + 1))
theorem mem_kids (h : i < n) : j ∈ kidsN d n i ↔ i < j ∧ j < endN d n i ∧ d j = d i + 1 := by
  have := endN_gt (d := d) h
  unfold kidsN
  rw [List.mem_filter, List.mem_range'_1]
  simp only [decide_eq_true_eq]
  omega
theorem kids_sorted : (kidsN d n i).Pairwise (· < ·) := by
  unfold kidsN
  exact (List.pairwise_lt_range').filter _
/-- Depths rise by one at most. -/
def Steps (d : Nat → Int) (n : Nat) : Prop := d 0 = 0 ∧ ∀ i, 0 < i → i < n → 1 ≤ d i ∧ d i ≤ d (i - 1) + 1
theorem steps_pass (h : Steps d n) {a : Int} : ∀ (k i : Nat), i + k < n → d i ≤ a → a < d (i + k) → ∃ m, i ≤ m ∧ m < i + k ∧ d m = a
  | 0, i, _, h1, h2 => absurd h2 (by rw [Nat.add_zero]; omega)
  | k + 1, i, hn, h1, h2 => by
    rcases Int.lt_or_le a (d (i + k)) with h3 | h3
    · obtain ⟨m, g1, g2, g3⟩ := steps_pass h k i (by omega) h1 h3
      exact ⟨m, g1, by omega, g3⟩
    · have := (h.2 (i + (k + 1)) (by omega) hn).2
      rw [show i + (k + 1) - 1 = i + k by omega] at this
      exact ⟨i + k, by omega, by omega, by omega⟩
theorem kid_parent (hs : Steps d n) (hj : j < n) (h : i < n) : j ∈ kidsN d n i ↔ parentN d j = i := by
  rw [mem_kids h]
  constructor
  · rintro ⟨h1, h2, h3⟩
    refine upFrom_uniq h1 (by omega) fun m g1 g2 => ?_
    have := endN_in (d := d) (n := n) g1 (by omega)
    omega
  · intro hp
    rcases upFrom_spec d (d j - 1) j with ⟨g1, _⟩ | ⟨p, g1, g2, g3, g4⟩
    · unfold parentN at hp; omega
    · obtain rfl : p = i := by unfold parentN at hp; omega
      refine ⟨g2, ?_, by omega⟩
      rcases Nat.lt_or_ge j (endN d n p) with hl | hl
      · exact hl
      · exfalso
        have e1 := endN_gt (d := d) h
        have e2 := endN_le (d := d) h
        have e3 : d (endN d n p) ≤ d p := by
          rcases endN_out (d := d) h with e | e <;> omega
        have e4 : endN d n p ≠ j := fun e => by rw [e] at e3; omega
        obtain ⟨m, m1, m2, m3⟩ := steps_pass hs (a := d j - 1) (j - endN d n p) (endN d n p) (by omega) (by omega) (by rw [show endN d n p + (j - endN d n p) = j by omega]; omega)
        exact g4 m (by omega) (by omega) m3
theorem parent_none (hs : Steps d n) (hj : j < n) : parentN d j = -1 ↔ j = 0 := by
  constructor
  · intro h
    rcases Nat.eq_zero_or_pos j with h0 | h0
    · exact h0
    · exfalso
      have h1 := (hs.2 j h0 hj).1
      obtain ⟨m, _, m2, m3⟩ := steps_pass hs (a := d j - 1) j 0 (by omega) (by rw [hs.1]; omega) (by rw [Nat.zero_add]; omega)
      rcases upFrom_spec d (d j - 1) j with ⟨_, g⟩ | ⟨p, g1, _⟩
      · exact g m (by omega) m3
      · unfold parentN at h; omega
  · rintro rfl; rfl
theorem parent_lt : parentN d j < j := by
  rcases upFrom_spec d (d j - 1) j with ⟨g, _⟩ | ⟨p, g1, g2, _⟩ <;> unfold parentN <;> omega
theorem parent_ge : -1 ≤ parentN d j := by
  rcases upFrom_spec d (d j - 1) j with ⟨g, _⟩ | ⟨p, g1, g2, _⟩ <;> unfold parentN <;> omega
theorem end_root (hs : Steps d n) (h : 0 < n) : endN d n 0 = n :=
  endN_uniq h h (Nat.le_refl _) (fun j h1 h2 => by have := (hs.2 j h1 h2).1; have := hs.1; omega) (.inl rfl)
theorem nested {a b : Nat} (h : a ≤ b) (hb : b < n) : endN d n a ≤ b ∨ endN d n b ≤ endN d n a := by
  rcases Nat.lt_or_ge b (endN d n a) with h1 | h1
  · right
    rcases Nat.lt_or_ge (endN d n a) (endN d n b) with h2 | h2
    · exfalso
      rcases Nat.eq_or_lt_of_le h with rfl | h3
      · omega
      · have e1 := endN_in h3 h1
        have e2 := endN_in h1 h2
        have e3 := endN_le (d := d) hb
        rcases endN_out (d := d) (show a < n by omega) with e | e <;> omega
    · exact h2
  · exact .inl h1
end
end Go.Proofs.Ytjnbfgogmhfbiaa
