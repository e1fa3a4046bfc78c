/- The word that stands at the beginning of bytes, in plain words. -/
import Derived.Test.YthijicpfihpkfaaWpl
namespace Go.Proofs.Ythijicpfihpkfaa
open Go
def low (d : Nat) : Bool := decide (d < 128)
def getL (l : List Nat) : Option (Nat × Nat) :=
  match l.findIdx? low with
  | none => none
  | some j => if 9 < j then none else if valL (l.take (j + 1)) < 18446744073709551616 ∧ (putL (valL (l.take (j + 1)))).length = j + 1 then some (valL (l.take (j + 1)), j + 1) else none
def getV (l : List Nat) (at' : Int) : Option (Nat × Nat) := if at' < 0 ∨ (l.length : Int) ≤ at' then none else getL (l.drop at'.toNat)
theorem findIdx_isWord : ∀ {l : List Nat} {j : Nat}, l.findIdx? low = some j → isWord (l.take (j + 1)) = true ∧ j < l.length
  | [], _, h => by simp at h
  | d :: r, j, h => by
    rw [List.findIdx?_cons] at h
    by_cases hd : low d = true
    · rw [if_pos hd] at h
      cases h
      simp only [low, decide_eq_true_eq] at hd
      simp [isWord, hd]
    · rw [if_neg hd] at h
      obtain ⟨k, hk, rfl⟩ := Option.map_eq_some_iff.1 h
      obtain ⟨h1, h2⟩ := findIdx_isWord hk
      refine ⟨?_, by simp; omega⟩
      simp only [low, decide_eq_true_eq] at hd
      rw [List.take_succ_cons]
      cases hr : r.take (k + 1) with
      | nil => rw [hr] at h1; simp [isWord] at h1
      | cons e t =>
        rw [hr] at h1
        simp only [isWord, h1, Bool.and_true, decide_eq_true_eq]
        omega
theorem word_findIdx : ∀ {l : List Nat}, isWord l = true → l.findIdx? low = some (l.length - 1)
  | [], h => by simp [isWord] at h
  | [d], h => by
    simp only [isWord, decide_eq_true_eq] at h
    simp [List.findIdx?_cons, low, h]
  | d :: e :: r, h => by
    simp only [isWord, Bool.and_eq_true, decide_eq_true_eq] at h
    have := word_findIdx h.2
    rw [List.findIdx?_cons, if_neg (by simp [low]; omega), this]
    simp
theorem findIdx_append {l m : List Nat} {j : Nat} (h : l.findIdx? low = some j) : (l ++ m).findIdx? low = some j := by
  rw [List.findIdx?_append, h]; rfl
/-- A number's word is told, whatever stands behind. -/
theorem getL_putL (n : Nat) (hn : n < 18446744073709551616) (r : List Nat) : getL (putL n ++ r) = some (n, (putL n).length) := by
  have hw := word_findIdx (isWord_putL n)
  have hp := putL_pos n
  have hl := putL_len10 n hn
  unfold getL
  rw [findIdx_append hw]
  have ht : (putL n ++ r).take ((putL n).length - 1 + 1) = putL n := by
    rw [Nat.sub_add_cancel hp]
    exact List.take_left
  simp only [ht, valL_putL]
  rw [if_neg (by omega), if_pos ⟨hn, by omega⟩]
  congr 2
  omega
/-- Cut off within it there is none. -/
theorem isWord_take : ∀ {l : List Nat} {k : Nat}, isWord l = true → k < l.length → (l.take k).findIdx? low = none
  | [], _, h, _ => by simp [isWord] at h
  | [d], k, h, hk => by
    obtain rfl : k = 0 := by simp at hk; omega
    simp
  | d :: e :: r, k, h, hk => by
    simp only [isWord, Bool.and_eq_true, decide_eq_true_eq] at h
    cases k with
    | zero => simp
    | succ k =>
      rw [List.take_succ_cons, List.findIdx?_cons, if_neg (by simp [low]; omega), isWord_take h.2 (by simpa using hk)]
      rfl
theorem getL_torn (n k : Nat) (hk : k < (putL n).length) : getL ((putL n).take k) = none := by
  unfold getL
  rw [isWord_take (isWord_putL n) hk]
/-- What is told is put as those bytes. -/
theorem getL_put {l : List Nat} (hb : Byt l) {n k : Nat} (h : getL l = some (n, k)) : putL n = l.take k ∧ (putL n).length = k ∧ k ≤ l.length ∧ n < 18446744073709551616 ∧ 1 ≤ k ∧ k ≤ 10 := by
  unfold getL at h
  split at h
  · cases h
  · rename_i j hj
    obtain ⟨h1, h2⟩ := findIdx_isWord hj
    split at h
    · cases h
    · split at h
      · rename_i h3
        simp only [Option.some.injEq, Prod.mk.injEq] at h
        obtain ⟨rfl, rfl⟩ := h
        have hbt : Byt (l.take (j + 1)) := fun x hx => hb x (List.mem_of_mem_take hx)
        refine ⟨putL_val h1 hbt (by rw [h3.2, List.length_take]; omega), h3.2, by omega, h3.1, by omega, by omega⟩
      · cases h
/-- The document's way: of which number are the bytes the word? -/
theorem ref_iff {s : List Nat} (hw : isWord s = true) (hb : Byt s) : (putL (valL s % 18446744073709551616) = s) ↔ (valL s < 18446744073709551616 ∧ (putL (valL s)).length = s.length) := by
  constructor
  · intro h
    have h1 : valL s = valL s % 18446744073709551616 := by
      have := valL_putL (valL s % 18446744073709551616)
      rw [h] at this
      exact this
    have h2 : valL s < 18446744073709551616 := by omega
    rw [Nat.mod_eq_of_lt h2] at h
    exact ⟨h2, by rw [h]⟩
  · rintro ⟨h1, h2⟩
    rw [Nat.mod_eq_of_lt h1]
    exact putL_val hw hb h2
theorem valL_cons (d : Nat) (r : List Nat) : valL (d :: r) = d % 128 + 128 * valL r := rfl
/-- A rest's digits: as many times less. -/
theorem valL_drop_le : ∀ (s : List Nat) (i : Nat), 128 ^ i * valL (s.drop i) ≤ valL s
  | s, 0 => by simp
  | [], i + 1 => by simp [valL]
  | d :: r, i + 1 => by
    have := valL_drop_le r i
    rw [List.drop_succ_cons, valL_cons, Nat.pow_succ]
    have h2 : 128 ^ i * 128 * valL (List.drop i r) = 128 * (128 ^ i * valL (List.drop i r)) := by
      rw [Nat.mul_comm (128 ^ i) 128, Nat.mul_assoc]
    omega
end Go.Proofs.Ythijicpfihpkfaa
