/- WidthOf in plain words. -/
import Derived.Test.YtjaeoaebkkmaaaaOfs
import Derived.Test.YtjaeoaebkkmaaaaSw
namespace Go.Proofs.Ytjaeoaebkkmaaaa
open Go Go.RowKit
def Sty.put (s : Sty) (j : Nat) (v : Int) : Sty := ⟨fun i => if i = j then v else s.n i, s.b⟩
def Sty.flag (s : Sty) (j : Nat) (v : Bool) : Sty := ⟨s.n, fun i => if i = j then v else s.b i⟩
theorem Sty.put_ok {s : Sty} (h : s.ok) {j : Nat} {v : Int} (hj : ∀ k, styL[j]? = some (.int k) → (Lit.int k v).wf = true) : (s.put j v).ok := fun i k hi => by
  unfold Sty.put
  by_cases e : i = j
  · subst e; simp only [if_true]; exact hj k hi
  · simp only [if_neg e]; exact h i k hi
theorem Sty.flag_ok {s : Sty} (h : s.ok) (j : Nat) (v : Bool) : (s.flag j v).ok := h
theorem Row.named {w : World} {g : Nat} {T : TypeId} {cs : Array Value} (h : Row w g T cs) (s : Sty) (e : cs = s.cells) : Row w g T s.cells := e ▸ h
theorem part_small {n of : Int} (hn : 0 ≤ n ∧ n ≤ 100000) (h0 : 0 ≤ of) (h1 : of ≤ 68719476736) : partV n of = (n * of / 10000, 0) ∧ 0 ≤ n * of / 10000 := by
  have p0 : 0 ≤ n * of := Int.mul_nonneg hn.1 h0
  have p1 : n * of ≤ 100000 * 68719476736 := Int.le_trans (Int.mul_le_mul_of_nonneg_right hn.2 h0) (Int.mul_le_mul_of_nonneg_left h1 (by omega))
  have e : (n * of).tdiv 10000 = n * of / 10000 := Int.tdiv_eq_ediv_of_nonneg p0
  have f1 : far of = false := far_false.2 ⟨by omega, by omega⟩
  have f2 : far (n * of / 10000) = false := far_false.2 ⟨by omega, by omega⟩
  refine ⟨?_, by omega⟩
  unfold partV
  rw [if_neg (by omega), f1, e, f2]
  rfl
theorem res_parts {k n of more : Int} (hl : lengthB k n 0 = true) (h0 : 0 ≤ of) (h1 : of ≤ more) (h2 : more ≤ 68719476736) :
    ∃ a b is, resV k n of = ⟨a, is, 0⟩ ∧ resV k n more = ⟨b, is, 0⟩ ∧ 0 ≤ a ∧ a ≤ b := by
  unfold lengthB at hl
  by_cases k0 : k = 0
  · subst k0
    exact ⟨0, 0, false, rfl, rfl, by omega, by omega⟩
  · rw [if_neg k0] at hl
    by_cases k1 : k = 1
    · subst k1
      rw [if_pos rfl] at hl
      simp only [amongB, Bool.and_eq_true, decide_eq_true_eq] at hl
      have f : far n = false := far_false.2 ⟨by omega, by omega⟩
      exact ⟨n, n, true, by simp [resV, f], by simp [resV, f], hl.1, by omega⟩
    · rw [if_neg k1] at hl
      simp only [amongB, Bool.and_eq_true, decide_eq_true_eq] at hl
      obtain ⟨rfl, hn⟩ := hl
      obtain ⟨p1, q1⟩ := part_small hn h0 (by omega)
      obtain ⟨p2, q2⟩ := part_small hn (of := more) (by omega) h2
      have hm : n * of ≤ n * more := Int.mul_le_mul_of_nonneg_left h1 hn.1
      exact ⟨n * of / 10000, n * more / 10000, true, by simp [resV, p1], by simp [resV, p2], q1, by omega⟩
theorem cont_parts {k n of more : Int} (wh : Bool) (ed : Int) (hl : lengthB k n 0 = true) (h0 : 0 ≤ of) (h1 : of ≤ more) (h2 : more ≤ 68719476736) :
    ∃ a b is, contV wh k n of ed = ⟨a, is, 0⟩ ∧ contV wh k n more ed = ⟨b, is, 0⟩ ∧ 0 ≤ a ∧ a ≤ b := by
  obtain ⟨a, b, is, e1, e2, h3, h4⟩ := res_parts hl h0 h1 h2
  unfold contV
  rw [e1, e2]
  cases is <;> cases wh
  · exact ⟨a, b, false, rfl, rfl, h3, h4⟩
  · exact ⟨a, b, false, rfl, rfl, h3, h4⟩
  · exact ⟨a, b, true, rfl, rfl, h3, h4⟩
  · exact ⟨max 0 (a - ed), max 0 (b - ed), true, rfl, rfl, by omega, by omega⟩
theorem lim_parts {k1 n1 k2 n2 of more : Int} (wh : Bool) (ed : Int) (hl : lengthB k1 n1 0 = true) (hl2 : lengthB k2 n2 0 = true) (h0 : 0 ≤ of) (h1 : of ≤ more) (h2 : more ≤ 68719476736) :
    ∃ a b c d, limV wh k1 n1 k2 n2 of ed = ⟨a, b, 0⟩ ∧ limV wh k1 n1 k2 n2 more ed = ⟨c, d, 0⟩ ∧ 0 ≤ a ∧ a ≤ c ∧ 0 ≤ b ∧ b ≤ d := by
  obtain ⟨a, b, is, e1, e2, h3, h4⟩ := cont_parts wh ed hl h0 h1 h2
  obtain ⟨c, d, js, e3, e4, h5, h6⟩ := cont_parts wh ed hl2 h0 h1 h2
  unfold limV
  rw [e1, e2, e3, e4]
  cases js
  · exact ⟨a, 1099511627776, b, 1099511627776, rfl, rfl, h3, h4, by omega, by omega⟩
  · exact ⟨a, c, b, d, rfl, rfl, h3, h4, h5, h6⟩
theorem parts_all {s : Sty} (h : mayB s = true) {of more : Int} (h0 : 0 ≤ of) (h1 : of ≤ more) (h2 : more ≤ 68719476736) :
    ∃ a b is l m p q, widthV s of = ⟨a, is, 0⟩ ∧ widthV s more = ⟨b, is, 0⟩ ∧ widthsV s of = ⟨l, m, 0⟩ ∧ widthsV s more = ⟨p, q, 0⟩ ∧ 0 ≤ a ∧ a ≤ b ∧ 0 ≤ l ∧ l ≤ p ∧ 0 ≤ m ∧ m ≤ q := by
  have hr : r4 s = true := by
    simp only [mayB, Bool.and_eq_true] at h
    exact h.2.2.2.1
  simp only [r4, Bool.and_eq_true] at hr
  obtain ⟨a, b, is, e1, e2, h3, h4⟩ := cont_parts (s.b 1) (acrossV s) hr.1 h0 h1 h2
  obtain ⟨l, m, p, q, e3, e4, h5, h6, h7, h8⟩ := lim_parts (s.b 1) (acrossV s) hr.2.1 hr.2.2.1 h0 h1 h2
  refine ⟨a, b, is, l, m, p, q, ?_, ?_, ?_, ?_, h3, h4, h5, h6, h7, h8⟩
  · unfold widthV; rw [if_pos h, e1]
  · unfold widthV; rw [if_pos h, e2]
  · unfold widthsV; rw [if_pos h, e3]
  · unfold widthsV; rw [if_pos h, e4]
theorem cont_none (wh : Bool) (of ed : Int) : contV wh 0 0 of ed = ⟨0, false, 0⟩ := by simp [contV, resV]
theorem lim_none (wh : Bool) (of ed : Int) : limV wh 0 0 0 0 of ed = ⟨0, 1099511627776, 0⟩ := by simp [limV, cont_none]

theorem marg_ok {k n of : Int} (hl : lengthB k n (-274877906944) = true) (h0 : 0 ≤ of) (h1 : of ≤ 68719476736) : (resV k n of).e = 0 := by
  unfold lengthB at hl
  by_cases k0 : k = 0
  · subst k0; rfl
  · rw [if_neg k0] at hl
    by_cases k1 : k = 1
    · subst k1
      rw [if_pos rfl] at hl
      simp only [amongB, Bool.and_eq_true, decide_eq_true_eq] at hl
      have f : far n = false := far_false.2 ⟨by omega, by omega⟩
      simp [resV, f]
    · rw [if_neg k1] at hl
      simp only [amongB, Bool.and_eq_true, decide_eq_true_eq] at hl
      obtain ⟨rfl, hn⟩ := hl
      obtain ⟨p1, q1⟩ := part_small hn h0 h1
      simp [resV, p1]
theorem of_may {s : Sty} (hm : mayB s = true) {of : Int} (h0 : 0 ≤ of) (h1 : of ≤ 68719476736) : ∃ a, ofV s of = (a, 0) ∧ askedV of a ≠ 2 ∧ (0 ≤ a.edges ∧ a.edges ≤ 1099511627776) := by
  obtain ⟨a, b, is, l, m, p, q, e1, _, e3, _, k1, _, k3, _, k5, _⟩ := parts_all hm (of := of) (more := of) h0 (Int.le_refl _) h1
  have hr : r6 s = true := by
    simp only [mayB, Bool.and_eq_true] at hm
    exact hm.2.2.2.2.2.1
  simp only [r6, side, Bool.and_eq_true] at hr
  have m3 := marg_ok hr.2.2.2.1 h0 h1
  have m1 := marg_ok hr.2.1.1 h0 h1
  have hac := acrossV_bounds hm
  refine ⟨_, by unfold ofV; rw [if_pos hm, e1, e3, if_neg (by simp), if_neg (by simp), if_neg (by rw [m3]; simp), if_neg (by rw [m1]; simp)], ?_, hac⟩
  unfold askedV
  rw [if_neg (by dsimp only; omega)]
  split <;> omega
theorem solve_two {of : Int} {a : Ask} (h : askedV of a ≠ 2) : solveV of a = ⟨0, 0, 0, 10⟩ ∨ ∃ x y z, solveV of a = ⟨x, y, z, 0⟩ ∧ SolOk of a x y z := by
  rcases asked_cases of a with h0 | h0 | h0
  · rcases sol_cases of a with ⟨e, he, hs⟩ | hx
    · left
      rw [hs]
      unfold solveV at hs
      rw [if_pos h0] at hs
      split at hs
      · have := congrArg Four.e hs
        dsimp only at this
        rw [← this]
      · have := congrArg Four.e hs
        dsimp only at this
        omega
    · exact .inr hx
  · exact absurd h0 h
  · left
    rw [solve_bad (by omega), h0]
/-- A box as wide as what is around. -/
def fillS (s : Sty) : Sty := (((((((((((((((s.flag 1 true).put 2 2).put 3 10000).put 4 0).put 5 0).put 6 0).put 7 0).put 14 0).put 15 0).put 16 0).put 17 0).put 18 0).put 19 0).put 20 0).put 21 0)
theorem fillS_ok {s : Sty} (h : s.ok) : (fillS s).ok := (Sty.put_ok (Sty.put_ok (Sty.put_ok (Sty.put_ok (Sty.put_ok (Sty.put_ok (Sty.put_ok (Sty.put_ok (Sty.put_ok (Sty.put_ok (Sty.put_ok (Sty.put_ok (Sty.put_ok (Sty.put_ok (Sty.flag_ok h 1 true) (fun k hk => by cases hk; rfl)) (fun k hk => by cases hk; rfl)) (fun k hk => by cases hk; rfl)) (fun k hk => by cases hk; rfl)) (fun k hk => by cases hk; rfl)) (fun k hk => by cases hk; rfl)) (fun k hk => by cases hk; rfl)) (fun k hk => by cases hk; rfl)) (fun k hk => by cases hk; rfl)) (fun k hk => by cases hk; rfl)) (fun k hk => by cases hk; rfl)) (fun k hk => by cases hk; rfl)) (fun k hk => by cases hk; rfl)) (fun k hk => by cases hk; rfl))
theorem fill_may {s : Sty} (h : mayB s = true) : mayB (fillS s) = true := by
  simp only [mayB, Bool.and_eq_true] at h ⊢
  obtain ⟨h1, h2, h3, h4, h5, h6, h7, h8, h9⟩ := h
  refine ⟨h1, h2, h3, ?_, h5, ?_, h7, h8, h9⟩
  · simp only [r4, Bool.and_eq_true] at h4 ⊢
    exact ⟨rfl, rfl, rfl, h4.2.2.2⟩
  · simp only [r6, side, Bool.and_eq_true] at h6 ⊢
    obtain ⟨⟨_, a0⟩, ⟨_, a1⟩, ⟨_, a2⟩, ⟨_, a3⟩⟩ := h6
    exact ⟨⟨rfl, a0⟩, ⟨rfl, a1⟩, ⟨rfl, a2⟩, ⟨rfl, a3⟩⟩
theorem fill_of {s : Sty} (h : mayB s = true) {of : Int} (h0 : 0 ≤ of) (h1 : of ≤ 68719476736) : ofV (fillS s) of = (⟨true, max 0 (of - acrossV s), 0, 1099511627776, 0, 0, true, true, acrossV s⟩, 0) := by
  have hp := part_small (n := 10000) (by omega) h0 h1
  have he : 10000 * of / 10000 = of := by omega
  have hr : resV 2 10000 of = ⟨of, true, 0⟩ := by simp [resV, hp.1, he]
  have hw : widthV (fillS s) of = ⟨max 0 (of - acrossV s), true, 0⟩ := by
    unfold widthV
    rw [if_pos (fill_may h), show (fillS s).n 2 = 2 from rfl, show (fillS s).n 3 = 10000 from rfl, show (fillS s).b 1 = true from rfl, show acrossV (fillS s) = acrossV s from rfl]
    unfold contV
    rw [hr]
    rfl
  have hl : widthsV (fillS s) of = ⟨0, 1099511627776, 0⟩ := by
    unfold widthsV
    rw [if_pos (fill_may h), show (fillS s).n 4 = 0 from rfl, show (fillS s).n 5 = 0 from rfl, show (fillS s).n 6 = 0 from rfl, show (fillS s).n 7 = 0 from rfl, lim_none]
  have hm : resV 0 0 of = ⟨0, false, 0⟩ := rfl
  unfold ofV
  rw [if_pos (fill_may h), hw, hl, show (fillS s).n 20 = 0 from rfl, show (fillS s).n 21 = 0 from rfl, show (fillS s).n 16 = 0 from rfl, show (fillS s).n 17 = 0 from rfl, hm]
  rfl
theorem fill_solve {of ac : Int} (h0 : 0 ≤ of) (h1 : of ≤ 68719476736) (ha : 0 ≤ ac ∧ ac ≤ 1099511627776) :
    (ac ≤ of ∧ solveV of ⟨true, max 0 (of - ac), 0, 1099511627776, 0, 0, true, true, ac⟩ = ⟨0, of - ac, 0, 0⟩) ∨ (of < ac ∧ solveV of ⟨true, max 0 (of - ac), 0, 1099511627776, 0, 0, true, true, ac⟩ = ⟨0, 0, of - ac, 0⟩) := by
  have hq : askedV of ⟨true, max 0 (of - ac), 0, 1099511627776, 0, 0, true, true, ac⟩ = 0 := by
    unfold askedV
    rw [if_neg (by dsimp only; omega), if_neg]
    have f1 : far of = false := far_false.2 ⟨by omega, by omega⟩
    have f2 : far ac = false := far_false.2 ⟨by omega, by omega⟩
    have f3 : far (max 0 (of - ac)) = false := far_false.2 ⟨by omega, by omega⟩
    have f4 : far 0 = false := rfl
    have f5 : far 1099511627776 = false := rfl
    simp [six, f1, f2, f3, f4, f5]
  have hw : widt of ⟨true, max 0 (of - ac), 0, 1099511627776, 0, 0, true, true, ac⟩ = max 0 (of - ac) := by
    unfold widt asks
    simp only [if_true]
    omega
  have hf : free of ⟨true, max 0 (of - ac), 0, 1099511627776, 0, 0, true, true, ac⟩ = of - ac - max 0 (of - ac) := by
    unfold free lef rig
    rw [hw]
    simp only [if_true]
    omega
  rcases Int.lt_or_le of ac with h | h
  · right
    refine ⟨h, ?_⟩
    have hm : max 0 (of - ac) = 0 := by omega
    have hl : lef2 of ⟨true, max 0 (of - ac), 0, 1099511627776, 0, 0, true, true, ac⟩ = 0 := by
      unfold lef2
      rw [hf, hm, if_neg (by omega), if_pos (by omega)]
      rfl
    have hr : rig2 of ⟨true, max 0 (of - ac), 0, 1099511627776, 0, 0, true, true, ac⟩ = of - ac := by
      unfold rig2
      rw [hf, hm, if_neg (by omega), if_pos (by omega)]
      show 0 + _ = _
      omega
    rw [sol_mk hq (by rw [hl]; unfold B40; omega) (by rw [hw]; unfold B40; omega) (by rw [hr]; unfold B40; omega), hl, hw, hr, hm]
  · left
    refine ⟨h, ?_⟩
    have hm : max 0 (of - ac) = of - ac := by omega
    have hl : lef2 of ⟨true, max 0 (of - ac), 0, 1099511627776, 0, 0, true, true, ac⟩ = 0 := by
      unfold lef2
      rw [hf, hm, if_pos ⟨by omega, rfl, rfl⟩]
      omega
    have hr : rig2 of ⟨true, max 0 (of - ac), 0, 1099511627776, 0, 0, true, true, ac⟩ = 0 := by
      unfold rig2
      rw [hf, hm, if_pos ⟨by omega, rfl, rfl⟩]
      omega
    rw [sol_mk hq (by rw [hl]; unfold B40; omega) (by rw [hw]; unfold B40; omega) (by rw [hr]; unfold B40; omega), hl, hw, hr, hm]
end Go.Proofs.Ytjaeoaebkkmaaaa
