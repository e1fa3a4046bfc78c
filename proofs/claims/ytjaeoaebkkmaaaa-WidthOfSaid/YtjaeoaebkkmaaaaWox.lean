/- WidthOf: all its ways. -/
import Derived.Test.YtjaeoaebkkmaaaaWow
namespace Go.Proofs.Ytjaeoaebkkmaaaa
open Go Go.RowKit
set_option maxRecDepth 100000 in
set_option maxHeartbeats 1000000 in
theorem WidthOf_walk (w : World) (cs : List Value) (ok : OkAll styL cs) (of : Int) (wo : (Lit.int .i64 of).wf = true) :
    Calls Try.prog 9 #[.agg ⟨cs⟩, .int .i64 of] w fun e w' => e = .returned (.bool true) ∧ Below w.heap.size w w' := by
  obtain ⟨s, hs, rfl⟩ := Sty.open ok
  have ho := swf_i64 wo
  clear ok wo
  have rs : Row (w.alloc (.cells s.cells 39)) w.heap.size 39 s.cells := Row.new _ _ _
  have hg := World.grownBy_alloc w (.cells s.cells 39) none
  by_cases h0 : of < 0
  · go_enter Try.func9, Try.ntmps9
    go_wp2_with fail
    refine (awake_any _).mono ?_; rintro e w1 ⟨rfl, hx⟩
    replace hg := grown_trans hg hx
    go_wp2_with fail
    go_ret
    exact ⟨rfl, grown_below hg⟩
  by_cases h1 : 68719476736 < of
  · go_enter Try.func9, Try.ntmps9
    go_wp2_with fail
    refine (awake_any _).mono ?_; rintro e w1 ⟨rfl, hx⟩
    replace hg := grown_trans hg hx
    go_wp2_with fail
    go_ret
    exact ⟨rfl, grown_below hg⟩
  cases hm : mayB s with
  | false =>
    have hv : ofV s of = (zeroA, 60) := by unfold ofV; rw [if_neg (by simp [hm])]
    have CO := (fun W => of_any s of W hs ho)
    rw [hv] at CO
    have heq := Lib.hid (fun W => ask_self (a := zeroA) (by unfold Ask.ok I64 zeroA; simp) W)
    unfold Ask.val zeroA at CO heq
    dsimp only at CO heq
    replace CO := Lib.hid CO
    have hd0 : decide (of < 0) = false := decide_eq_false h0
    have hd1 : decide (68719476736 < of) = false := decide_eq_false h1
    clear hm hv h0 h1 ho hs
    go_enter Try.func9, Try.ntmps9
    go_wp2_with fail
    refine (awake_any _).mono ?_; rintro e w1 ⟨rfl, hx⟩
    replace rs := rs.kept0 hx
    replace hg := grown_trans hg hx
    clear hx
    go_wp2_with (refine wpList_row bigS rs (Sty.size _) rfl rfl rfl ?_; simp only [Act.put, List.setIfInBounds_toArray, List.set_cons_zero, List.set_cons_succ])
    refine (CO.out _).mono ?_; rintro e w2 ⟨rfl, hx⟩
    replace hg := grown_trans hg hx
    clear hx rs
    have hx := World.grownBy_alloc w2 (.cells #[.bool false, .int .i64 0, .int .i64 0, .int .i64 0, .int .i64 0, .int .i64 0, .bool false, .bool false, .int .i64 0] 23) none
    have r5 := Row.new w2 23 #[.bool false, .int .i64 0, .int .i64 0, .int .i64 0, .int .i64 0, .int .i64 0, .bool false, .bool false, .int .i64 0]
    replace hg := grown_trans hg hx
    clear hx
    go_wp2_with (first | (refine wpList_row bigA r5 rfl rfl rfl rfl ?_; simp only [Act.put, List.setIfInBounds_toArray, List.set_cons_zero, List.set_cons_succ]) | (refine wpList_value_w rfl (exec_eql ask_noguard rfl rfl rfl _ (heq.out _)) ?_; simp only [Act.put, List.setIfInBounds_toArray, List.set_cons_zero, List.set_cons_succ]))
    go_ret
    exact ⟨rfl, grown_below hg⟩
  | true =>
    have h0' : 0 ≤ of := by omega
    have h1' : of ≤ 68719476736 := by omega
    obtain ⟨a, ha, hq, hed⟩ := of_may hm h0' h1'
    have hok := ofV_ok s of
    rw [ha] at hok
    have CO := (fun W => of_any s of W hs ho)
    rw [ha] at CO
    have CS := (fun W => solve_any of a W ho hok)
    have CP := (fun W => of_any (fillS s) of W (fillS_ok hs) ho)
    rw [fill_of hm h0' h1'] at CP
    have hac := acrossV_bounds hm
    have CT := (fun W => solve_any of ⟨true, max 0 (of - acrossV s), 0, 1099511627776, 0, 0, true, true, acrossV s⟩ W ho (by unfold Ask.ok I64; refine ⟨?_, ?_, ?_, ?_, ?_, ?_⟩ <;> dsimp only <;> omega))
    obtain ⟨is, wd, least, most, left, right, al, ar, edges⟩ := a
    have hT := fill_solve h0' h1' hac
    have key : ∀ wd2 z2, (acrossV s ≤ of ∧ wd2 = of - acrossV s ∧ z2 = 0 ∨ of < acrossV s ∧ wd2 = 0 ∧ z2 = of - acrossV s) → max 0 (of - acrossV s) = wd2 → solveV of ⟨true, max 0 (of - acrossV s), 0, 1099511627776, 0, 0, true, true, acrossV s⟩ = ⟨0, wd2, z2, 0⟩ →
        Calls Try.prog 9 #[.agg s.cells, .int .i64 of] w fun e w' => e = .returned (.bool true) ∧ Below w.heap.size w w' := by
      intro wd2 z2 hw e1 e2
      rw [e1] at CP CT e2
      rw [e2] at CT
      rcases solve_two hq with e3 | ⟨x, y, z, e3, hso⟩
      · rw [e3] at CS
        exact widthOf_main w s of is al ar wd least most left right edges 0 0 0 10 (acrossV s) wd2 z2 h0' h1' (.inl rfl) (by unfold B40; dsimp only at hed; omega) hac hw CO CS CP CT
      · rw [e3] at CS
        exact widthOf_main w s of is al ar wd least most left right edges x y z 0 (acrossV s) wd2 z2 h0' h1' (.inr ⟨rfl, by have := hso.sum; dsimp only at this; simp [this]⟩) ⟨hso.bx, ⟨by have := hso.ed.1; dsimp only at this; omega, hso.ed.2⟩, hso.by', hso.bz⟩ hac hw CO CS CP CT
    rcases hT with ⟨g1, g2⟩ | ⟨g1, g2⟩
    · exact key _ _ (.inl ⟨g1, rfl, rfl⟩) (by omega) g2
    · exact key _ _ (.inr ⟨g1, rfl, rfl⟩) (by omega) g2
end Go.Proofs.Ytjaeoaebkkmaaaa
