/- A number's word, an integer folded, in plain words. -/
import Derived.Test.YthijicpfihpkfaaBy
import Derived.Lib.BitFns
namespace Go.Proofs.Ythijicpfihpkfaa
open Go
def putL (n : Nat) : List Nat := if n < 128 then [n] else (n % 128 + 128) :: putL (n / 128)
termination_by n
decreasing_by omega
theorem putL_lo {n : Nat} (h : n < 128) : putL n = [n] := by rw [putL, if_pos h]
theorem putL_hi {n : Nat} (h : ¬ n < 128) : putL n = (n % 128 + 128) :: putL (n / 128) := by rw [putL, if_neg h]
theorem putL_byt (n : Nat) : Byt (putL n) := by
  induction n using Nat.strongRecOn with
  | _ n ih =>
    by_cases h : n < 128
    · rw [putL_lo h]
      intro x hx
      simp at hx
      omega
    · rw [putL_hi h]
      intro x hx
      rcases List.mem_cons.1 hx with rfl | hx
      · omega
      · exact ih (n / 128) (by omega) x hx
theorem putL_pos (n : Nat) : 0 < (putL n).length := by
  by_cases h : n < 128
  · rw [putL_lo h]; simp
  · rw [putL_hi h]; simp
theorem putL_len_le (k : Nat) : ∀ n : Nat, n < 128 ^ (k + 1) → (putL n).length ≤ k + 1 := by
  induction k with
  | zero => intro n h; rw [putL_lo (by simpa using h)]; simp
  | succ k ih =>
    intro n h
    by_cases hn : n < 128
    · rw [putL_lo hn]; simp
    · rw [putL_hi hn]
      have := ih (n / 128) (by rw [Nat.pow_succ] at h; omega)
      simp; omega
theorem putL_len10 (n : Nat) (h : n < 18446744073709551616) : (putL n).length ≤ 10 := putL_len_le 9 n (by
  have : (128 : Nat) ^ (9 + 1) = 1180591620717411303424 := by decide
  omega)
theorem putL_size (n : Nat) (h : n < 18446744073709551616) : max 1 ((Lib.bitLen n + 6) / 7) = (putL n).length := by
  induction n using Nat.strongRecOn with
  | _ n ih =>
    by_cases hn : n < 128
    · have := Lib.bitLen_le n 7 (by omega) (by simpa using hn)
      rw [putL_lo hn]
      simp; omega
    · have h1 := Lib.bitLen_shift 7 n (by simpa using hn) (by simpa using h)
      have h2 := ih (n / 128) (by omega) (by omega)
      have h3 : n / 2 ^ 7 = n / 128 := by simp
      rw [h3] at h1
      have h4 : 1 ≤ Lib.bitLen (n / 128) := by
        rw [Lib.bitLen_half (n / 128) (by omega) (by have : n / 128 < 18446744073709551616 := by omega
                                                     simpa using this)]
        omega
      rw [putL_hi hn, List.length_cons, ← h2, h1]
      omega
/-- What the digits come to. -/
def valL : List Nat → Nat
  | [] => 0
  | d :: r => d % 128 + 128 * valL r
theorem valL_putL (n : Nat) : valL (putL n) = n := by
  induction n using Nat.strongRecOn with
  | _ n ih =>
    by_cases h : n < 128
    · rw [putL_lo h]; simp [valL]; omega
    · rw [putL_hi h, valL, ih (n / 128) (by omega)]; omega
theorem putL_inj {n m : Nat} (h : putL n = putL m) : n = m := by rw [← valL_putL n, h, valL_putL]
theorem valL_append (l m : List Nat) : valL (l ++ m) = valL l + 128 ^ l.length * valL m := by
  induction l with
  | nil => simp [valL]
  | cons d r ih =>
    simp only [List.cons_append, valL, ih, List.length_cons, Nat.pow_succ]
    rw [Nat.mul_add, Nat.add_assoc, ← Nat.mul_assoc, Nat.mul_comm 128 (128 ^ r.length)]
theorem valL_lt (l : List Nat) : valL l < 128 ^ l.length := by
  induction l with
  | nil => simp [valL]
  | cons d r ih =>
    simp only [valL, List.length_cons, Nat.pow_succ]
    omega
/-- All bytes but the last are from 128 on, the last is below. -/
def isWord : List Nat → Bool
  | [] => false
  | [d] => decide (d < 128)
  | d :: r => decide (128 ≤ d) && isWord r
theorem isWord_putL (n : Nat) : isWord (putL n) = true := by
  induction n using Nat.strongRecOn with
  | _ n ih =>
    by_cases h : n < 128
    · rw [putL_lo h]; simp [isWord, h]
    · have h2 := ih (n / 128) (by omega)
      rw [putL_hi h]
      have hp := putL_pos (n / 128)
      generalize putL (n / 128) = r at *
      cases r with
      | nil => simp at hp
      | cons e r => simp only [isWord, h2, Bool.and_true, decide_eq_true_eq]; omega
/-- A word's digits, put: they are it, if there are as many. -/
theorem putL_val {l : List Nat} (hw : isWord l = true) (hb : Byt l) (hlen : (putL (valL l)).length = l.length) : putL (valL l) = l := by
  induction l with
  | nil => simp [isWord] at hw
  | cons d r ih =>
    cases r with
    | nil =>
      simp [isWord] at hw
      have : valL [d] = d := by simp [valL]; omega
      rw [this, putL_lo hw]
    | cons e r =>
      simp only [isWord, Bool.and_eq_true, decide_eq_true_eq] at hw
      have hd := hb d (by simp)
      have hv : valL (d :: e :: r) = d % 128 + 128 * valL (e :: r) := rfl
      by_cases hz : valL (d :: e :: r) < 128
      · rw [putL_lo hz] at hlen
        simp at hlen
      · rw [putL_hi hz] at hlen ⊢
        have h1 : valL (d :: e :: r) / 128 = valL (e :: r) := by rw [hv]; omega
        have h2 : valL (d :: e :: r) % 128 = d % 128 := by rw [hv]; omega
        rw [h1] at hlen ⊢
        rw [h2, ih hw.2 (fun x hx => hb x (List.mem_cons_of_mem _ hx)) (by simpa using hlen)]
        congr 1
        omega
def foldV (i : Int) : Int := if i < 0 then 2 * (-(i + 1)) + 1 else 2 * i
def unfoldV (n : Int) : Int := if n % 2 = 1 then -(n / 2) - 1 else n / 2
theorem unfold_fold (i : Int) : unfoldV (foldV i) = i := by
  unfold unfoldV foldV
  (repeat' split) <;> omega
theorem fold_unfold (n : Int) (h : 0 ≤ n) : foldV (unfoldV n) = n := by
  unfold unfoldV foldV
  (repeat' split) <;> omega
end Go.Proofs.Ythijicpfihpkfaa
