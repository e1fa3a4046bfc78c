/- A node's kids' trees side by side. No program. -/
import Derived.Test.YtjnbfgogmhfbiaaTp
namespace Go.Proofs.Ytjnbfgogmhfbiaa
/-- The first 'i' kids' trees end at 'p'. -/
def Beside (d : Nat → Int) (n t i p : Nat) : Prop :=
  i ≤ (kidsN d n t).length ∧ t < p ∧ p ≤ endN d n t ∧ (∀ j ∈ (kidsN d n t).take i, j < p) ∧ (∀ j ∈ (kidsN d n t).drop i, p ≤ j) ∧ (p = endN d n t ∨ d p = d t + 1)
section
variable {d : Nat → Int} {n t i p : Nat}
theorem beside_start (hs : Steps d n) (h : t < n) : Beside d n t 0 (t + 1) := by
  have e1 := endN_gt (d := d) h
  have e2 := endN_le (d := d) h
  refine ⟨by omega, by omega, by omega, by simp, fun j hj => ?_, ?_⟩
  · have := (mem_kids h).1 (List.mem_of_mem_drop hj); omega
  · rcases Nat.lt_or_ge (t + 1) (endN d n t) with h1 | h1
    · right
      have g1 := endN_in (d := d) (n := n) (show t < t + 1 by omega) h1
      have g2 := (hs.2 (t + 1) (by omega) (by omega)).2
      rw [show t + 1 - 1 = t by omega] at g2
      omega
    · left; omega
theorem beside_kid (h : t < n) (hb : Beside d n t i p) (hi : i < (kidsN d n t).length) : (kidsN d n t)[i]? = some p ∧ p < n ∧ d p = d t + 1 ∧ p < endN d n t := by
  obtain ⟨b1, b2, b3, b4, b5, b6⟩ := hb
  have e2 := endN_le (d := d) h
  have hx : (kidsN d n t)[i] ∈ kidsN d n t := List.getElem_mem hi
  have hm := (mem_kids h).1 hx
  have hp : p ≤ (kidsN d n t)[i] := b5 _ (List.mem_drop_iff_getElem.2 ⟨0, by omega, rfl⟩)
  have hd : d p = d t + 1 := by
    rcases b6 with e | e
    · omega
    · exact e
  have hpm : p ∈ kidsN d n t := (mem_kids h).2 ⟨b2, by omega, hd⟩
  have hpd : p ∈ (kidsN d n t).drop i := by
    rw [← List.take_append_drop i (kidsN d n t)] at hpm
    rcases List.mem_append.1 hpm with h' | h'
    · exact absurd (b4 p h') (by omega)
    · exact h'
  obtain ⟨q, hq, hq2⟩ := List.mem_drop_iff_getElem.1 hpd
  have hle : (kidsN d n t)[i] ≤ p := by
    rcases Nat.eq_zero_or_pos q with h0 | h0
    · subst h0; simp only [Nat.add_zero] at hq2; omega
    · have := List.pairwise_iff_getElem.1 (kids_sorted (d := d) (n := n) (i := t)) i (i + q) hi (by omega) (by omega)
      omega
  have : (kidsN d n t)[i] = p := by omega
  exact ⟨by rw [List.getElem?_eq_getElem hi, this], by omega, hd, by omega⟩
theorem beside_step (hs : Steps d n) (h : t < n) (hb : Beside d n t i p) (hi : i < (kidsN d n t).length) : Beside d n t (i + 1) (endN d n p) := by
  obtain ⟨hk, hpn, hd, hpe⟩ := beside_kid h hb hi
  obtain ⟨b1, b2, b3, b4, b5, b6⟩ := hb
  have e1 := endN_gt (d := d) hpn
  have e2 := endN_le (d := d) hpn
  have e3 := endN_le (d := d) h
  have hpt : endN d n p ≤ endN d n t := by
    rcases nested (d := d) (a := t) (b := p) (n := n) (by omega) hpn with h' | h' <;> omega
  refine ⟨hi, by omega, hpt, fun j hj => ?_, fun j hj => ?_, ?_⟩
  · rw [List.take_add_one, hk] at hj
    rcases List.mem_append.1 hj with h' | h'
    · have := b4 j h'; omega
    · simp at h'; omega
  · have hjm := (mem_kids h).1 (List.mem_of_mem_drop hj)
    obtain ⟨q, hq, hq2⟩ := List.mem_drop_iff_getElem.1 hj
    have hlt := List.pairwise_iff_getElem.1 (kids_sorted (d := d) (n := n) (i := t)) i (i + 1 + q) hi (by omega) (by omega)
    have hki : (kidsN d n t)[i] = p := by
      rw [List.getElem?_eq_getElem hi] at hk; exact Option.some.inj hk
    rcases Nat.lt_or_ge j (endN d n p) with h' | h'
    · have := endN_in (d := d) (n := n) (i := p) (j := j) (by omega) h'
      omega
    · exact h'
  · rcases Nat.lt_or_ge (endN d n p) (endN d n t) with h' | h'
    · right
      have g1 := endN_in (d := d) (n := n) (i := t) (j := endN d n p) (by omega) h'
      rcases endN_out (d := d) hpn with g | g <;> omega
    · left; omega
theorem beside_end (h : t < n) (hb : Beside d n t (kidsN d n t).length p) : p = endN d n t := by
  obtain ⟨b1, b2, b3, b4, b5, b6⟩ := hb
  rcases b6 with e | e
  · exact e
  · rcases Nat.lt_or_ge p (endN d n t) with h' | h'
    · have := b4 p (by rw [List.take_length]; exact (mem_kids h).2 ⟨b2, h', e⟩)
      omega
    · omega
end
end Go.Proofs.Ytjnbfgogmhfbiaa
