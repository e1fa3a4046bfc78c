/- What is known of the equation's answer, in plain words. -/
import Derived.Test.YtjaeoaebkkmaaaaSv
namespace Go.Proofs.Ytjaeoaebkkmaaaa
open Go Go.RowKit
def B40 (n : Int) : Prop := -1099511627776 ≤ n ∧ n ≤ 1099511627776
structure SolOk (of : Int) (a : Ask) (x y z : Int) : Prop where
  o : 0 ≤ of ∧ of ≤ 1099511627776
  l : 0 ≤ a.least ∧ a.least ≤ 1099511627776
  m : 0 ≤ a.most ∧ a.most ≤ 1099511627776
  lf : -1099511627776 ≤ a.left ∧ a.left ≤ 1099511627776
  rt : -1099511627776 ≤ a.right ∧ a.right ≤ 1099511627776
  ed : 0 ≤ a.edges ∧ a.edges ≤ 1099511627776
  wd : a.is = true → 0 ≤ a.wd ∧ a.wd ≤ 1099511627776
  bx : -1099511627776 ≤ x ∧ x ≤ 1099511627776
  by' : -1099511627776 ≤ y ∧ y ≤ 1099511627776
  bz : -1099511627776 ≤ z ∧ z ≤ 1099511627776
  hx : x = lef2 of a
  hy : y = widt of a
  hz : z = rig2 of a
theorem any3 {x y z : Int} (h : [x, y, z].any far = false) : (-1099511627776 ≤ x ∧ x ≤ 1099511627776) ∧ (-1099511627776 ≤ y ∧ y ≤ 1099511627776) ∧ (-1099511627776 ≤ z ∧ z ≤ 1099511627776) := by
  simp only [List.any_cons, List.any_nil, Bool.or_false, Bool.or_eq_false_iff, far_false] at h
  exact h
theorem sol_cases (of : Int) (a : Ask) : (∃ e, (e = 2 ∨ e = 10) ∧ solveV of a = ⟨0, 0, 0, e⟩) ∨ ∃ x y z, solveV of a = ⟨x, y, z, 0⟩ ∧ SolOk of a x y z := by
  rcases asked_cases of a with h0 | h0 | h0
  · cases hf : [lef2 of a, widt of a, rig2 of a].any far with
    | true => exact .inl ⟨10, .inr rfl, by unfold solveV; rw [if_pos h0, if_pos hf]⟩
    | false =>
      obtain ⟨h1, h2, h3, h4, h5, h6, h7⟩ := asked_zero h0
      obtain ⟨k1, k2, k3⟩ := any3 hf
      exact .inr ⟨_, _, _, by unfold solveV; rw [if_pos h0, if_neg (by rw [hf]; simp)], ⟨h1, h2, h3, h4, h5, h6, h7, k1, k2, k3, rfl, rfl, rfl⟩⟩
  · exact .inl ⟨2, .inl rfl, by rw [solve_bad (by omega), h0]⟩
  · exact .inl ⟨10, .inr rfl, by rw [solve_bad (by omega), h0]⟩
theorem sol_sum (of : Int) (a : Ask) : lef2 of a + a.edges + widt of a + rig2 of a = of := by
  unfold lef2 rig2
  have hf : free of a = of - lef a - a.edges - widt of a - rig a := rfl
  generalize free of a = f at *
  by_cases c1 : 0 ≤ f ∧ a.al = true ∧ a.ar = true
  · have h1 : lef a = 0 := if_pos c1.2.1
    have h2 : rig a = 0 := if_pos c1.2.2
    rw [if_pos c1, if_pos c1]
    omega
  · rw [if_neg c1, if_neg c1]
    by_cases c2 : f < 0 ∨ a.al = false
    · rw [if_pos c2, if_pos c2]
      omega
    · have h1 : lef a = 0 := if_pos (by cases h : a.al <;> simp_all)
      rw [if_neg c2, if_neg c2]
      omega
theorem SolOk.sum {of : Int} {a : Ask} {x y z : Int} (h : SolOk of a x y z) : x + a.edges + y + z = of := by
  rw [h.hx, h.hy, h.hz]; exact sol_sum of a
theorem widt_cases (of : Int) (a : Ask) : (a.most < a.least ∧ widt of a = a.least) ∨ (a.least ≤ a.most ∧ a.least ≤ widt of a ∧ widt of a ≤ a.most ∧ (a.is = true → a.least ≤ a.wd → a.wd ≤ a.most → widt of a = a.wd)) := by
  unfold widt
  rcases Int.lt_or_le a.most a.least with h | h
  · exact .inl ⟨h, by omega⟩
  · refine .inr ⟨h, by omega, by omega, fun hi h1 h2 => ?_⟩
    unfold asks
    rw [if_pos hi]
    omega
/-- That it is solved: of what can be asked, and comes to nothing far. -/
theorem sol_mk {of : Int} {a : Ask} (h0 : askedV of a = 0) (h1 : B40 (lef2 of a)) (h2 : B40 (widt of a)) (h3 : B40 (rig2 of a)) : solveV of a = ⟨lef2 of a, widt of a, rig2 of a, 0⟩ := by
  unfold solveV
  rw [if_pos h0, if_neg]
  simp only [List.any_cons, List.any_nil, Bool.or_false, Bool.not_eq_true, Bool.or_eq_false_iff, far_false]
  exact ⟨h1, h2, h3⟩
theorem asked_mk {of : Int} {a : Ask} (h1 : 0 ≤ of ∧ of ≤ 1099511627776) (h2 : 0 ≤ a.least ∧ a.least ≤ 1099511627776) (h3 : 0 ≤ a.most ∧ a.most ≤ 1099511627776)
    (h4 : B40 a.left) (h5 : B40 a.right) (h6 : 0 ≤ a.edges ∧ a.edges ≤ 1099511627776) (h7 : a.is = true → 0 ≤ a.wd ∧ a.wd ≤ 1099511627776) : askedV of a = 0 := by
  unfold askedV
  unfold B40 at *
  rw [if_neg, if_neg]
  · rintro (h | ⟨h, k⟩)
    · simp only [six, List.any_cons, List.any_nil, Bool.or_false, Bool.or_eq_true, far_true] at h
      omega
    · rw [far_true] at k
      have := h7 h
      omega
  · rintro (h | h | h | h | ⟨h, k⟩)
    · omega
    · omega
    · omega
    · omega
    · have := h7 h
      omega
end Go.Proofs.Ytjaeoaebkkmaaaa
