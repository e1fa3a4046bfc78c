/- The walk of StyleWhole. -/
import Derived.Test.YtkpfhhfecjeflaaAk
namespace Go.Proofs.Ytkpfhhfecjeflaa
open Go Go.RowKit
/-- Is a content's size what was asked? -/
def wholeB (wh : Bool) (n asked ed : Int) : Bool := if wh then decide (n + ed = asked) || (decide (n = 0) && decide (asked ≤ ed)) else decide (n = asked)
set_option maxRecDepth 100000 in
theorem whole_any (s : Sty) (n asked ed : Int) (w : World) (hn : -1099511627776 ≤ n ∧ n ≤ 1099511627776) (ha : -1099511627776 ≤ asked ∧ asked ≤ 1099511627776) (he : 0 ≤ ed ∧ ed ≤ 1099511627776) :
    Calls Try.prog 21 #[.agg s.cells, .int .i64 n, .int .i64 asked, .int .i64 ed] w fun e w' => e = .returned (.bool (wholeB (s.b 1) n asked ed)) ∧ w.grownBy w' none := by
  have r0 : Row (w.alloc (.cells s.cells 33)) w.heap.size 33 s.cells := Row.new _ _ _
  have hg := World.grownBy_alloc w (.cells s.cells 33) none
  have c1 : (w.alloc (.cells s.cells 33)).cell? ⟨w.heap.size, 1, none⟩ = some (.bool (s.b 1)) := (r0.at 1).trans s.c1
  clear r0
  cases hb : s.b 1 with
  | false =>
    rw [hb] at c1
    clear hb
    have hv := Lib.hid (show wholeB false n asked ed = decide (n = asked) from rfl)
    go_enter Try.func21, Try.ntmps21
    go_wp2
    go_ret
    exact ⟨ret_b (by rw [hv.out]; first | rfl | (rw [Bool.eq_iff_iff]; simp)), hg⟩
  | true =>
    rw [hb] at c1
    clear hb
    by_cases h1 : n + ed = asked
    · have hv := Lib.hid (show wholeB true n asked ed = true by simp [wholeB, h1])
      have h1' : (n + ed == asked) = true := by simp [h1]
      clear h1
      go_enter Try.func21, Try.ntmps21
      go_wp2
      go_ret
      exact ⟨ret_b (by rw [hv.out]), hg⟩
    · have h1' : (n + ed == asked) = false := by simp [h1]
      by_cases h2 : n = 0
      · have h2' : (n == 0) = true := by simp [h2]
        have hv := Lib.hid (show wholeB true n asked ed = decide (asked ≤ ed) by simp [wholeB, h1, h2]; omega)
        clear h1 h2
        go_enter Try.func21, Try.ntmps21
        go_wp2
        go_ret
        exact ⟨ret_b (by rw [hv.out]), hg⟩
      · have h2' : (n == 0) = false := by simp [h2]
        have hv := Lib.hid (show wholeB true n asked ed = false by simp [wholeB, h1, h2])
        clear h1 h2
        go_enter Try.func21, Try.ntmps21
        go_wp2
        go_ret
        exact ⟨ret_b (by rw [hv.out]), hg⟩
/-- A length, and what it comes to as a content's size. -/
def Two2 (wh : Bool) (ed r c : Int) (is : Bool) : Prop := (-1099511627776 ≤ r ∧ r ≤ 1099511627776) ∧ (-1099511627776 ≤ c ∧ c ≤ 1099511627776) ∧ (is = true → wholeB wh c r ed = true)
theorem cont_two (wh : Bool) (k n of ed : Int) (he : 0 ≤ ed ∧ ed ≤ 1099511627776) :
    ∃ r c is e, resV k n of = ⟨r, is, e⟩ ∧ contV wh k n of ed = ⟨c, is, e⟩ ∧ Two2 wh ed r c is := by
  have hb := resV_bound k n of
  unfold contV
  generalize resV k n of = g at *
  obtain ⟨r, is, e⟩ := g
  cases is
  · exact ⟨r, r, false, e, rfl, rfl, hb, hb, fun h => by cases h⟩
  · cases wh
    · exact ⟨r, r, true, e, rfl, rfl, hb, hb, fun _ => by simp [wholeB]⟩
    · refine ⟨r, max 0 (r - ed), true, e, rfl, rfl, hb, ?_, fun _ => ?_⟩
      · simp only at hb
        omega
      · simp only [wholeB, if_true, Bool.or_eq_true, Bool.and_eq_true, decide_eq_true_eq]
        omega
theorem tall_ok {k n of : Int} (h : tall k n = true) : (resV k n of).e = 0 := by
  unfold tall lengthB at h
  simp only [Bool.and_eq_true, Bool.not_eq_true', decide_eq_false_iff_not] at h
  obtain ⟨h1, h2⟩ := h
  unfold resV
  by_cases k0 : k = 0
  · subst k0; rfl
  · rw [if_neg k0] at h2
    by_cases k1 : k = 1
    · subst k1
      rw [if_pos rfl] at h2
      simp only [amongB, Bool.and_eq_true, decide_eq_true_eq] at h2
      have f : far n = false := far_false.2 ⟨by omega, by omega⟩
      simp [f]
    · rw [if_neg k1] at h2
      simp [h1] at h2
set_option maxRecDepth 100000 in
set_option maxHeartbeats 2000000 in
theorem whole_may (w : World) (s : Sty) (hs : s.ok) (hmq : mayB s = true) (of : Int) (ho : -9223372036854775808 ≤ of ∧ of ≤ 9223372036854775807) :
    Calls Try.prog 6 #[.agg s.cells, .int .i64 of] w fun e w' => e = .returned (.bool true) ∧ Below w.heap.size w w' := by
  obtain ⟨r1, c1, is1, e1, hr1, hc1, b1, d1, k1⟩ := cont_two (s.b 1) (s.n 2) (s.n 3) of (acrossV s) (acrossV_bounds hmq)
  obtain ⟨r2, c2, is2, e2, hr2, hc2, b2, d2, k2⟩ := cont_two (s.b 1) (s.n 8) (s.n 9) 0 (upV s) (upV_bounds hmq)
  have ht : tall (s.n 8) (s.n 9) = true := by
    simp only [mayB, Bool.and_eq_true] at hmq
    have := hmq.2.2.2.2.1
    simp only [r5, Bool.and_eq_true] at this
    exact this.1
  have he2 : e2 = 0 := by have := tall_ok (of := 0) ht; rw [hr2] at this; exact this
  subst he2
  have hac := acrossV_bounds hmq
  have hup := upV_bounds hmq
  have CE := (fun W => edges_any s W hs)
  rw [show edgesV s = .tuple #[.int .i64 (acrossV s), .int .i64 (upV s), .int .i64 0] by unfold edgesV; rw [if_pos hmq]] at CE
  have CR1 := (fun W => resolve_any (s.n 2) (s.n 3) of W (Sty.b2 hs).1 (Sty.b2 hs).2 (Sty.b3 hs).1 (Sty.b3 hs).2 ho.1 ho.2)
  rw [hr1] at CR1
  have CR2 := (fun W => resolve_any (s.n 8) (s.n 9) 0 W (Sty.b8 hs).1 (Sty.b8 hs).2 (Sty.b9 hs).1 (Sty.b9 hs).2 (by omega) (by omega))
  rw [hr2] at CR2
  have CW := (fun W => width_any s of W hs ho)
  rw [show widthV s of = ⟨c1, is1, e1⟩ by unfold widthV; rw [if_pos hmq, hc1]] at CW
  have CH := (fun W => height_any s W hs)
  rw [show heightV s = ⟨c2, is2, 0⟩ by unfold heightV; rw [if_pos hmq, hc2]] at CH
  have CO1 := (fun W (h : is1 = true) => by have := whole_any s c1 r1 (acrossV s) W d1 b1 hac; rw [k1 h] at this; exact this)
  have CO2 := (fun W (h : is2 = true) => by have := whole_any s c2 r2 (upV s) W d2 b2 hup; rw [k2 h] at this; exact this)
  unfold len2 at CR1 CR2
  simp only [Got.val] at CR1 CR2 CW CH
  have y2 := s.c2
  have y3 := s.c3
  have y8 := s.c8
  have y9 := s.c9
  have r0 : Row (w.alloc (.cells s.cells 33)) w.heap.size 33 s.cells := Row.new _ _ _
  have hg := World.grownBy_alloc w (.cells s.cells 33) none
  clear hr1 hc1 b1 d1 k1 hr2 hc2 b2 d2 k2 ht hmq hs ho hac hup
  generalize acrossV s = ac at *
  generalize upV s = up at *
  generalize s.n 2 = q2 at *
  generalize s.n 3 = q3 at *
  generalize s.n 8 = q8 at *
  generalize s.n 9 = q9 at *
  replace CE := Lib.hid CE
  replace CR1 := Lib.hid CR1
  replace CR2 := Lib.hid CR2
  replace CW := Lib.hid CW
  replace CH := Lib.hid CH
  replace CO1 := Lib.hid CO1
  replace CO2 := Lib.hid CO2
  have hself : (e1 != e1) = false := by simp
  go_enter Try.func6, Try.ntmps6
  go_wp2_with fail
  refine (sawake_any _).mono ?_; rintro e w1 ⟨rfl, hx⟩
  replace r0 := r0.kept0 hx
  replace hg := grown_trans hg hx
  clear hx
  go_wp2_with (refine wpList_row bigS r0 (Sty.size _) rfl rfl rfl ?_; simp only [Act.put, List.setIfInBounds_toArray, List.set_cons_zero, List.set_cons_succ])
  refine (CE.out _).mono ?_; rintro e w2 ⟨rfl, hx⟩
  replace r0 := r0.kept0 hx
  replace hg := grown_trans hg hx
  clear hx
  have z2 := (r0.at 2).trans y2
  have z3 := (r0.at 3).trans y3
  go_wp2_with fail
  refine (CR1.out _).mono ?_; rintro e w3 ⟨rfl, hx⟩
  replace r0 := r0.kept0 hx
  replace hg := grown_trans hg hx
  clear hx z2 z3
  go_wp2_with (refine wpList_row bigS r0 (Sty.size _) rfl rfl rfl ?_; simp only [Act.put, List.setIfInBounds_toArray, List.set_cons_zero, List.set_cons_succ])
  refine (CW.out _).mono ?_; rintro e w4 ⟨rfl, hx⟩
  replace r0 := r0.kept0 hx
  replace hg := grown_trans hg hx
  clear hx
  cases is1
  case false =>
    have z8 := (r0.at 8).trans y8
    have z9 := (r0.at 9).trans y9
    go_wp2_with fail
    refine (CR2.out _).mono ?_; rintro e w5 ⟨rfl, hx⟩
    replace r0 := r0.kept0 hx
    replace hg := grown_trans hg hx
    clear hx z8 z9
    go_wp2_with (refine wpList_row bigS r0 (Sty.size _) rfl rfl rfl ?_; simp only [Act.put, List.setIfInBounds_toArray, List.set_cons_zero, List.set_cons_succ])
    refine (CH.out _).mono ?_; rintro e w7 ⟨rfl, hx⟩
    replace r0 := r0.kept0 hx
    replace hg := grown_trans hg hx
    clear hx
    cases is2
    case false =>
      go_wp2_with fail
      go_ret
      exact ⟨rfl, grown_below hg⟩
    case true =>
      go_wp2_with (refine wpList_row bigS r0 (Sty.size _) rfl rfl rfl ?_; simp only [Act.put, List.setIfInBounds_toArray, List.set_cons_zero, List.set_cons_succ])
      refine (CO2.out _ trivial).mono ?_; rintro e w8 ⟨rfl, hx⟩
      replace hg := grown_trans hg hx
      go_wp2
      go_ret
      exact ⟨rfl, grown_below hg⟩
  case true =>
    go_wp2_with (refine wpList_row bigS r0 (Sty.size _) rfl rfl rfl ?_; simp only [Act.put, List.setIfInBounds_toArray, List.set_cons_zero, List.set_cons_succ])
    refine (CO1.out _ trivial).mono ?_; rintro e w5 ⟨rfl, hx⟩
    replace r0 := r0.kept0 hx
    replace hg := grown_trans hg hx
    clear hx
    have z8 := (r0.at 8).trans y8
    have z9 := (r0.at 9).trans y9
    go_wp2_with fail
    refine (CR2.out _).mono ?_; rintro e w6 ⟨rfl, hx⟩
    replace r0 := r0.kept0 hx
    replace hg := grown_trans hg hx
    clear hx z8 z9
    go_wp2_with (refine wpList_row bigS r0 (Sty.size _) rfl rfl rfl ?_; simp only [Act.put, List.setIfInBounds_toArray, List.set_cons_zero, List.set_cons_succ])
    refine (CH.out _).mono ?_; rintro e w7 ⟨rfl, hx⟩
    replace r0 := r0.kept0 hx
    replace hg := grown_trans hg hx
    clear hx
    cases is2
    case false =>
      go_wp2_with fail
      go_ret
      exact ⟨rfl, grown_below hg⟩
    case true =>
      go_wp2_with (refine wpList_row bigS r0 (Sty.size _) rfl rfl rfl ?_; simp only [Act.put, List.setIfInBounds_toArray, List.set_cons_zero, List.set_cons_succ])
      refine (CO2.out _ trivial).mono ?_; rintro e w8 ⟨rfl, hx⟩
      replace hg := grown_trans hg hx
      go_wp2
      go_ret
      exact ⟨rfl, grown_below hg⟩
theorem StyleWhole_walk (w : World) (cs : List Value) (ok : OkAll styL cs) (of : Int) (wo : (Lit.int .i64 of).wf = true) :
    Calls Try.prog 6 #[.agg ⟨cs⟩, .int .i64 of] w fun e w' => e = .returned (.bool true) ∧ Below w.heap.size w w' := by
  obtain ⟨s, hs, rfl⟩ := Sty.open ok
  cases hmq : mayB s with
  | true => exact whole_may w s hs hmq of (swf_i64 wo)
  | false =>
    have CE := (fun W => edges_any s W hs)
    rw [show edgesV s = .tuple #[.int .i64 0, .int .i64 0, .int .i64 60] by unfold edgesV; rw [if_neg (by simp [hmq])]] at CE
    have CM := (fun W => may_any s W hs)
    rw [hmq] at CM
    replace CE := Lib.hid CE
    replace CM := Lib.hid CM
    clear hmq
    have r0 : Row (w.alloc (.cells s.cells 33)) w.heap.size 33 s.cells := Row.new _ _ _
    have hg := World.grownBy_alloc w (.cells s.cells 33) none
    go_enter Try.func6, Try.ntmps6
    go_wp2_with fail
    refine (sawake_any _).mono ?_; rintro e w1 ⟨rfl, hx⟩
    replace r0 := r0.kept0 hx
    replace hg := grown_trans hg hx
    clear hx
    go_wp2_with (refine wpList_row bigS r0 (Sty.size _) rfl rfl rfl ?_; simp only [Act.put, List.setIfInBounds_toArray, List.set_cons_zero, List.set_cons_succ])
    refine (CE.out _).mono ?_; rintro e w2 ⟨rfl, hx⟩
    replace r0 := r0.kept0 hx
    replace hg := grown_trans hg hx
    clear hx
    go_wp2_with (refine wpList_row bigS r0 (Sty.size _) rfl rfl rfl ?_; simp only [Act.put, List.setIfInBounds_toArray, List.set_cons_zero, List.set_cons_succ])
    refine (CM.out _).mono ?_; rintro e w3 ⟨rfl, hx⟩
    replace hg := grown_trans hg hx
    go_wp2
    go_ret
    exact ⟨rfl, grown_below hg⟩
end Go.Proofs.Ytkpfhhfecjeflaa
