/- The walk of StyleParts. -/
import Derived.Test.YtkpfhhfecjeflaaAk
namespace Go.Proofs.Ytkpfhhfecjeflaa
open Go Go.RowKit
theorem part_small {n of : Int} (hn : 0 ≤ n ∧ n ≤ 100000) (h0 : 0 ≤ of) (h1 : of ≤ 68719476736) : partV n of = (n * of / 10000, 0) ∧ 0 ≤ n * of / 10000 := by
  have p0 : 0 ≤ n * of := Int.mul_nonneg hn.1 h0
  have p1 : n * of ≤ 100000 * 68719476736 := Int.le_trans (Int.mul_le_mul_of_nonneg_right hn.2 h0) (Int.mul_le_mul_of_nonneg_left h1 (by omega))
  have e : (n * of).tdiv 10000 = n * of / 10000 := Int.tdiv_eq_ediv_of_nonneg p0
  have f1 : far of = false := far_false.2 ⟨by omega, by omega⟩
  have f2 : far (n * of / 10000) = false := far_false.2 ⟨by omega, by omega⟩
  refine ⟨?_, by omega⟩
  unfold partV
  rw [if_neg (by omega), f1, e, f2]
  rfl
theorem res_parts {k n of more : Int} (hl : lengthB k n 0 = true) (h0 : 0 ≤ of) (h1 : of ≤ more) (h2 : more ≤ 68719476736) :
    ∃ a b is, resV k n of = ⟨a, is, 0⟩ ∧ resV k n more = ⟨b, is, 0⟩ ∧ 0 ≤ a ∧ a ≤ b := by
  unfold lengthB at hl
  by_cases k0 : k = 0
  · subst k0
    exact ⟨0, 0, false, rfl, rfl, by omega, by omega⟩
  · rw [if_neg k0] at hl
    by_cases k1 : k = 1
    · subst k1
      rw [if_pos rfl] at hl
      simp only [amongB, Bool.and_eq_true, decide_eq_true_eq] at hl
      have f : far n = false := far_false.2 ⟨by omega, by omega⟩
      exact ⟨n, n, true, by simp [resV, f], by simp [resV, f], hl.1, by omega⟩
    · rw [if_neg k1] at hl
      simp only [amongB, Bool.and_eq_true, decide_eq_true_eq] at hl
      obtain ⟨rfl, hn⟩ := hl
      obtain ⟨p1, q1⟩ := part_small hn h0 (by omega)
      obtain ⟨p2, q2⟩ := part_small hn (of := more) (by omega) h2
      have hm : n * of ≤ n * more := Int.mul_le_mul_of_nonneg_left h1 hn.1
      exact ⟨n * of / 10000, n * more / 10000, true, by simp [resV, p1], by simp [resV, p2], q1, by omega⟩
theorem cont_parts {k n of more : Int} (wh : Bool) (ed : Int) (hl : lengthB k n 0 = true) (h0 : 0 ≤ of) (h1 : of ≤ more) (h2 : more ≤ 68719476736) :
    ∃ a b is, contV wh k n of ed = ⟨a, is, 0⟩ ∧ contV wh k n more ed = ⟨b, is, 0⟩ ∧ 0 ≤ a ∧ a ≤ b := by
  obtain ⟨a, b, is, e1, e2, h3, h4⟩ := res_parts hl h0 h1 h2
  unfold contV
  rw [e1, e2]
  cases is <;> cases wh
  · exact ⟨a, b, false, rfl, rfl, h3, h4⟩
  · exact ⟨a, b, false, rfl, rfl, h3, h4⟩
  · exact ⟨a, b, true, rfl, rfl, h3, h4⟩
  · exact ⟨max 0 (a - ed), max 0 (b - ed), true, rfl, rfl, by omega, by omega⟩
theorem lim_parts {k1 n1 k2 n2 of more : Int} (wh : Bool) (ed : Int) (hl : lengthB k1 n1 0 = true) (hl2 : lengthB k2 n2 0 = true) (h0 : 0 ≤ of) (h1 : of ≤ more) (h2 : more ≤ 68719476736) :
    ∃ a b c d, limV wh k1 n1 k2 n2 of ed = ⟨a, b, 0⟩ ∧ limV wh k1 n1 k2 n2 more ed = ⟨c, d, 0⟩ ∧ 0 ≤ a ∧ a ≤ c ∧ 0 ≤ b ∧ b ≤ d := by
  obtain ⟨a, b, is, e1, e2, h3, h4⟩ := cont_parts wh ed hl h0 h1 h2
  obtain ⟨c, d, js, e3, e4, h5, h6⟩ := cont_parts wh ed hl2 h0 h1 h2
  unfold limV
  rw [e1, e2, e3, e4]
  cases js
  · exact ⟨a, 1099511627776, b, 1099511627776, rfl, rfl, h3, h4, by omega, by omega⟩
  · exact ⟨a, c, b, d, rfl, rfl, h3, h4, h5, h6⟩
theorem parts_all {s : Sty} (h : mayB s = true) {of more : Int} (h0 : 0 ≤ of) (h1 : of ≤ more) (h2 : more ≤ 68719476736) :
    ∃ a b is l m p q, widthV s of = ⟨a, is, 0⟩ ∧ widthV s more = ⟨b, is, 0⟩ ∧ widthsV s of = ⟨l, m, 0⟩ ∧ widthsV s more = ⟨p, q, 0⟩ ∧ 0 ≤ a ∧ a ≤ b ∧ 0 ≤ l ∧ l ≤ p ∧ 0 ≤ m ∧ m ≤ q := by
  have hr : r4 s = true := by
    simp only [mayB, Bool.and_eq_true] at h
    exact h.2.2.2.1
  simp only [r4, Bool.and_eq_true] at hr
  obtain ⟨a, b, is, e1, e2, h3, h4⟩ := cont_parts (s.b 1) (acrossV s) hr.1 h0 h1 h2
  obtain ⟨l, m, p, q, e3, e4, h5, h6, h7, h8⟩ := lim_parts (s.b 1) (acrossV s) hr.2.1 hr.2.2.1 h0 h1 h2
  refine ⟨a, b, is, l, m, p, q, ?_, ?_, ?_, ?_, h3, h4, h5, h6, h7, h8⟩
  · unfold widthV; rw [if_pos h, e1]
  · unfold widthV; rw [if_pos h, e2]
  · unfold widthsV; rw [if_pos h, e3]
  · unfold widthsV; rw [if_pos h, e4]
set_option maxRecDepth 100000 in
set_option maxHeartbeats 2000000 in
theorem StyleParts_walk (w : World) (cs : List Value) (ok : OkAll styL cs) (of : Int) (wo : (Lit.int .i64 of).wf = true) (more : Int) (wm : (Lit.int .i64 more).wf = true) :
    Calls Try.prog 5 #[.agg ⟨cs⟩, .int .i64 of, .int .i64 more] w fun e w' => e = .returned (.bool true) ∧ Below w.heap.size w w' := by
  obtain ⟨s, hs, rfl⟩ := Sty.open ok
  have ho := swf_i64 wo
  have hm := swf_i64 wm
  clear ok wo wm
  have r0 : Row (w.alloc (.cells s.cells 33)) w.heap.size 33 s.cells := Row.new _ _ _
  have hg := World.grownBy_alloc w (.cells s.cells 33) none
  by_cases h0 : of < 0
  · go_enter Try.func5, Try.ntmps5
    go_wp2_with fail
    refine (sawake_any _).mono ?_; rintro e w1 ⟨rfl, hx⟩
    replace hg := grown_trans hg hx
    go_wp2_with fail
    go_ret
    exact ⟨rfl, grown_below hg⟩
  by_cases h1 : more < of
  · go_enter Try.func5, Try.ntmps5
    go_wp2_with fail
    refine (sawake_any _).mono ?_; rintro e w1 ⟨rfl, hx⟩
    replace hg := grown_trans hg hx
    go_wp2_with fail
    go_ret
    exact ⟨rfl, grown_below hg⟩
  by_cases h2 : 68719476736 < more
  · go_enter Try.func5, Try.ntmps5
    go_wp2_with fail
    refine (sawake_any _).mono ?_; rintro e w1 ⟨rfl, hx⟩
    replace hg := grown_trans hg hx
    go_wp2_with fail
    go_ret
    exact ⟨rfl, grown_below hg⟩
  have h0' : 0 ≤ of := by omega
  have h1' : of ≤ more := by omega
  have h2' : more ≤ 68719476736 := by omega
  have hd0 : decide (of < 0) = false := decide_eq_false h0
  have hd1 : decide (more < of) = false := decide_eq_false h1
  have hd2 : decide (68719476736 < more) = false := decide_eq_false h2
  clear h0 h1 h2
  have CM := (fun W => may_any s W hs)
  cases hmq : mayB s with
  | false =>
    rw [hmq] at CM
    replace CM := Lib.hid CM
    clear hmq
    go_enter Try.func5, Try.ntmps5
    go_wp2_with fail
    refine (sawake_any _).mono ?_; rintro e w1 ⟨rfl, hx⟩
    replace r0 := r0.kept0 hx
    replace hg := grown_trans hg hx
    clear hx
    go_wp2_with (refine wpList_row bigS r0 (Sty.size _) rfl rfl rfl ?_; simp only [Act.put, List.setIfInBounds_toArray, List.set_cons_zero, List.set_cons_succ])
    refine (CM.out _).mono ?_; rintro e w2 ⟨rfl, hx⟩
    replace hg := grown_trans hg hx
    go_wp2
    go_ret
    exact ⟨rfl, grown_below hg⟩
  | true =>
    rw [hmq] at CM
    replace CM := Lib.hid CM
    obtain ⟨a, b, is, l, m, p, q, e1, e2, e3, e4, k1, k2, k3, k4, k5, k6⟩ := parts_all hmq (of := of) (more := more) h0' h1' h2'
    have C1 := (fun W => width_any s of W hs ho)
    have C2 := (fun W => width_any s more W hs hm)
    have C3 := (fun W => widths_any s of W hs ho)
    have C4 := (fun W => widths_any s more W hs hm)
    rw [e1] at C1
    rw [e2] at C2
    rw [e3] at C3
    rw [e4] at C4
    simp only [Got.val, Three.val] at C1 C2 C3 C4
    replace C1 := Lib.hid C1
    replace C2 := Lib.hid C2
    replace C3 := Lib.hid C3
    replace C4 := Lib.hid C4
    clear hmq e1 e2 e3 e4
    go_enter Try.func5, Try.ntmps5
    go_wp2_with fail
    refine (sawake_any _).mono ?_; rintro e w1 ⟨rfl, hx⟩
    replace r0 := r0.kept0 hx
    replace hg := grown_trans hg hx
    clear hx
    go_wp2_with (refine wpList_row bigS r0 (Sty.size _) rfl rfl rfl ?_; simp only [Act.put, List.setIfInBounds_toArray, List.set_cons_zero, List.set_cons_succ])
    refine (CM.out _).mono ?_; rintro e V1 ⟨rfl, hx⟩
    replace r0 := r0.kept0 hx
    replace hg := grown_trans hg hx
    clear hx
    go_wp2_with (refine wpList_row bigS r0 (Sty.size _) rfl rfl rfl ?_; simp only [Act.put, List.setIfInBounds_toArray, List.set_cons_zero, List.set_cons_succ])
    refine (C1.out _).mono ?_; rintro e V2 ⟨rfl, hx⟩
    replace r0 := r0.kept0 hx
    replace hg := grown_trans hg hx
    clear hx
    go_wp2_with (refine wpList_row bigS r0 (Sty.size _) rfl rfl rfl ?_; simp only [Act.put, List.setIfInBounds_toArray, List.set_cons_zero, List.set_cons_succ])
    refine (C2.out _).mono ?_; rintro e V3 ⟨rfl, hx⟩
    replace r0 := r0.kept0 hx
    replace hg := grown_trans hg hx
    clear hx
    go_wp2_with (refine wpList_row bigS r0 (Sty.size _) rfl rfl rfl ?_; simp only [Act.put, List.setIfInBounds_toArray, List.set_cons_zero, List.set_cons_succ])
    refine (C3.out _).mono ?_; rintro e V4 ⟨rfl, hx⟩
    replace r0 := r0.kept0 hx
    replace hg := grown_trans hg hx
    clear hx
    go_wp2_with (refine wpList_row bigS r0 (Sty.size _) rfl rfl rfl ?_; simp only [Act.put, List.setIfInBounds_toArray, List.set_cons_zero, List.set_cons_succ])
    refine (C4.out _).mono ?_; rintro e V5 ⟨rfl, hx⟩
    replace r0 := r0.kept0 hx
    replace hg := grown_trans hg hx
    clear hx
    go_wp2
    go_ret
    exact ⟨rfl, grown_below hg⟩
end Go.Proofs.Ytkpfhhfecjeflaa
