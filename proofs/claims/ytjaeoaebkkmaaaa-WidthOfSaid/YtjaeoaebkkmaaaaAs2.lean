/- The walk of width.asked. -/
import Derived.Test.YtjaeoaebkkmaaaaAs
namespace Go.Proofs.Ytjaeoaebkkmaaaa
open Go Go.RowKit
def Ask.ok (a : Ask) : Prop := I64 a.wd ∧ I64 a.least ∧ I64 a.most ∧ I64 a.left ∧ I64 a.right ∧ I64 a.edges
def Ask.val (a : Ask) : Value := .agg #[.bool a.is, .int .i64 a.wd, .int .i64 a.least, .int .i64 a.most, .int .i64 a.left, .int .i64 a.right, .bool a.al, .bool a.ar, .int .i64 a.edges]
def six (of : Int) (a : Ask) : List Int := [of, a.least, a.most, a.left, a.right, a.edges]
def askedV (of : Int) (a : Ask) : Int :=
  if of < 0 ∨ a.least < 0 ∨ a.most < 0 ∨ a.edges < 0 ∨ (a.is = true ∧ a.wd < 0) then 2 else if (six of a).any far = true ∨ (a.is = true ∧ far a.wd = true) then 10 else 0

/-- fixed.Fits of some numbers, in a block of their own. -/
theorem fitsN (xs : List Int) (n : Nat) (hn : n = xs.length) (hs : n ≤ 1000000) (hb : ∀ x ∈ xs, I64 x) (w : World) (e : TypeId) (B : Nat) (hB : B = w.heap.size) (cs : Array Value) (hc : cs = (xs.map num).toArray) :
    Calls Try.prog 19 #[.slice (some ⟨B, 0, none⟩) n n] (w.alloc (.cells cs e)) fun e' w' => e' = .returned (.bool !(xs.any far)) ∧ w.alloc (.cells cs e) = w' := by
  subst hB hc hn
  exact fits_any _ _ _ xs _ _ rfl (Reads.fresh_ w e (xs.map num)) hb hs

set_option maxHeartbeats 400000 in
theorem asked_any (of : Int) (a : Ask) (w : World) (ho : I64 of) (ha : a.ok) :
    Calls Try.prog 17 #[.int .i64 of, a.val] w fun e w' => e = .returned (.int .i64 (askedV of a)) ∧ w.grownBy w' none := by
  obtain ⟨is, wd, least, most, left, right, al, ar, edges⟩ := a
  unfold Ask.val
  have hv : askedV of ⟨is, wd, least, most, left, right, al, ar, edges⟩ = if of < 0 ∨ least < 0 ∨ most < 0 ∨ edges < 0 ∨ (is = true ∧ wd < 0) then 2 else if [of, least, most, left, right, edges].any far = true ∨ (is = true ∧ far wd = true) then 10 else 0 := rfl
  generalize askedV of ⟨is, wd, least, most, left, right, al, ar, edges⟩ = r at *
  obtain ⟨h1, h2, h3, h4, h5, h6⟩ := ha
  simp only at h1 h2 h3 h4 h5 h6
  have C6 := Lib.hid (fun W e B hB cs hc => fitsN [of, least, most, left, right, edges] 6 rfl (by omega) (by simp; exact ⟨ho, h2, h3, h4, h5, h6⟩) W e B hB cs hc)
  have C1 := Lib.hid (fun W e B hB => fits1 wd W h1.1 h1.2 e B hB)
  unfold I64 at *
  by_cases c1 : of < 0
  · rw [if_pos (.inl c1)] at hv
    subst hv
    clear C6 C1
    cases is
    all_goals
      go_enter Try.func17, Try.ntmps17
      go_wp2
      go_ret
      exact ⟨rfl, World.grownBy_alloc _ _ _⟩
  by_cases c2 : least < 0
  · rw [if_pos (.inr (.inl c2))] at hv
    subst hv
    clear C6 C1
    cases is
    all_goals
      go_enter Try.func17, Try.ntmps17
      go_wp2
      go_ret
      exact ⟨rfl, World.grownBy_alloc _ _ _⟩
  by_cases c3 : most < 0
  · rw [if_pos (.inr (.inr (.inl c3)))] at hv
    subst hv
    clear C6 C1
    cases is
    all_goals
      go_enter Try.func17, Try.ntmps17
      go_wp2
      go_ret
      exact ⟨rfl, World.grownBy_alloc _ _ _⟩
  by_cases c4 : edges < 0
  · rw [if_pos (.inr (.inr (.inr (.inl c4))))] at hv
    subst hv
    clear C6 C1
    cases is
    all_goals
      go_enter Try.func17, Try.ntmps17
      go_wp2
      go_ret
      exact ⟨rfl, World.grownBy_alloc _ _ _⟩
  cases is with
  | false =>
    rw [if_neg (by simp; omega)] at hv
    cases hf : [of, least, most, left, right, edges].any far with
    | true =>
      rw [hf] at C6
      rw [if_pos (.inl hf)] at hv
      subst hv
      clear C1 hf
      go_enter Try.func17, Try.ntmps17
      go_wp2_with fail
      refine (C6.out _ _ _ (by simp) _ rfl).mono ?_; rintro e w1 ⟨rfl, rfl⟩
      go_wp2
      go_ret
      exact ⟨rfl, grown_trans (World.grownBy_alloc _ _ _) (World.grownBy_alloc _ _ _)⟩
    | false =>
      rw [hf] at C6
      rw [if_neg (by rw [hf]; simp)] at hv
      subst hv
      clear C1 hf
      go_enter Try.func17, Try.ntmps17
      go_wp2_with fail
      refine (C6.out _ _ _ (by simp) _ rfl).mono ?_; rintro e w1 ⟨rfl, rfl⟩
      go_wp2
      go_ret
      exact ⟨rfl, grown_trans (World.grownBy_alloc _ _ _) (World.grownBy_alloc _ _ _)⟩
  | true =>
    by_cases c5 : wd < 0
    · rw [if_pos (.inr (.inr (.inr (.inr ⟨rfl, c5⟩))))] at hv
      subst hv
      clear C6 C1
      go_enter Try.func17, Try.ntmps17
      go_wp2
      go_ret
      exact ⟨rfl, World.grownBy_alloc _ _ _⟩
    rw [if_neg (by simp; omega)] at hv
    cases hf : [of, least, most, left, right, edges].any far with
    | true =>
      rw [hf] at C6
      rw [if_pos (.inl hf)] at hv
      subst hv
      clear C1 hf
      go_enter Try.func17, Try.ntmps17
      go_wp2_with fail
      refine (C6.out _ _ _ (by simp) _ rfl).mono ?_; rintro e w1 ⟨rfl, rfl⟩
      go_wp2
      go_ret
      exact ⟨rfl, grown_trans (World.grownBy_alloc _ _ _) (World.grownBy_alloc _ _ _)⟩
    | false =>
      rw [hf] at C6
      cases hf2 : far wd with
      | true =>
        rw [hf2] at C1
        rw [if_pos (.inr ⟨rfl, hf2⟩)] at hv
        subst hv
        clear hf hf2
        go_enter Try.func17, Try.ntmps17
        go_wp2_with fail
        refine (C6.out _ _ _ (by simp) _ rfl).mono ?_; rintro e w1 ⟨rfl, rfl⟩
        go_wp2_with fail
        refine (C1.out _ _ _ (by simp)).mono ?_; rintro e w1 ⟨rfl, rfl⟩
        go_wp2
        go_ret
        exact ⟨rfl, grown_trans (World.grownBy_alloc _ _ _) (grown_trans (World.grownBy_alloc _ _ _) (World.grownBy_alloc _ _ _))⟩
      | false =>
        rw [hf2] at C1
        rw [if_neg (by rw [hf, hf2]; simp)] at hv
        subst hv
        clear hf hf2
        go_enter Try.func17, Try.ntmps17
        go_wp2_with fail
        refine (C6.out _ _ _ (by simp) _ rfl).mono ?_; rintro e w1 ⟨rfl, rfl⟩
        go_wp2_with fail
        refine (C1.out _ _ _ (by simp)).mono ?_; rintro e w1 ⟨rfl, rfl⟩
        go_wp2
        go_ret
        exact ⟨rfl, grown_trans (World.grownBy_alloc _ _ _) (grown_trans (World.grownBy_alloc _ _ _) (World.grownBy_alloc _ _ _))⟩
end Go.Proofs.Ytjaeoaebkkmaaaa
