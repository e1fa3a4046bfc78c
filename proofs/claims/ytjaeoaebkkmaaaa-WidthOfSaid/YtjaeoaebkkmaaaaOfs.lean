/- What a style asks for: the program's answer and the document's, in plain words. -/
import Derived.Test.YtjaeoaebkkmaaaaRof
import Derived.Test.YtjaeoaebkkmaaaaSg
namespace Go.Proofs.Ytjaeoaebkkmaaaa
open Go Go.RowKit
def zeroA : Ask := ⟨false, 0, 0, 0, 0, 0, false, false, 0⟩
/-- What a style asks for. -/
def ofV (s : Sty) (of : Int) : Ask × Int :=
  if mayB s then
    (if (widthV s of).e ≠ 0 then (zeroA, (widthV s of).e) else if (widthsV s of).e ≠ 0 then (zeroA, (widthsV s of).e)
    else if (resV (s.n 20) (s.n 21) of).e ≠ 0 then (zeroA, (resV (s.n 20) (s.n 21) of).e) else if (resV (s.n 16) (s.n 17) of).e ≠ 0 then (zeroA, (resV (s.n 16) (s.n 17) of).e)
    else (⟨(widthV s of).is, (widthV s of).n, (widthsV s of).a, (widthsV s of).b, (resV (s.n 20) (s.n 21) of).n, (resV (s.n 16) (s.n 17) of).n, !(resV (s.n 20) (s.n 21) of).is, !(resV (s.n 16) (s.n 17) of).is, acrossV s⟩, 0))
  else (zeroA, 60)
theorem cont_bd (wh : Bool) (k n of ed : Int) (he : 0 ≤ ed ∧ ed ≤ 1099511627776) : -1099511627776 ≤ (contV wh k n of ed).n ∧ (contV wh k n of ed).n ≤ 1099511627776 := by
  have hb := resV_bound k n of
  unfold contV
  split
  · show -1099511627776 ≤ max 0 ((resV k n of).n - ed) ∧ max 0 ((resV k n of).n - ed) ≤ 1099511627776
    omega
  · exact hb
theorem width_bd {s : Sty} (hm : mayB s = true) (of : Int) : -1099511627776 ≤ (widthV s of).n ∧ (widthV s of).n ≤ 1099511627776 := by
  unfold widthV
  rw [if_pos hm]
  exact cont_bd _ _ _ _ _ (acrossV_bounds hm)
theorem widths_bd {s : Sty} (hm : mayB s = true) (of : Int) : (-1099511627776 ≤ (widthsV s of).a ∧ (widthsV s of).a ≤ 1099511627776) ∧ (-1099511627776 ≤ (widthsV s of).b ∧ (widthsV s of).b ≤ 1099511627776) := by
  have h1 := cont_bd (s.b 1) (s.n 4) (s.n 5) of (acrossV s) (acrossV_bounds hm)
  have h2 := cont_bd (s.b 1) (s.n 6) (s.n 7) of (acrossV s) (acrossV_bounds hm)
  unfold widthsV limV
  rw [if_pos hm]
  split
  · exact ⟨by simp, by simp⟩
  split
  · exact ⟨by simp, by simp⟩
  · refine ⟨h1, ?_⟩
    show -1099511627776 ≤ (if _ then _ else _) ∧ (if _ then _ else _) ≤ (1099511627776 : Int)
    split
    · exact h2
    · omega
theorem ofV_ok (s : Sty) (of : Int) : (ofV s of).1.ok := by
  have z : zeroA.ok := by unfold Ask.ok I64 zeroA; simp
  unfold ofV
  split
  · rename_i hm
    split
    · exact z
    split
    · exact z
    split
    · exact z
    split
    · exact z
    · have h1 := width_bd hm of
      have h2 := widths_bd hm of
      have h3 := resV_bound (s.n 20) (s.n 21) of
      have h4 := resV_bound (s.n 16) (s.n 17) of
      have h5 := acrossV_bounds hm
      unfold Ask.ok I64
      refine ⟨?_, ?_, ?_, ?_, ?_, ?_⟩ <;> dsimp only <;> omega
  · exact z
theorem of_any (s : Sty) (of : Int) (w : World) (hs : s.ok) (ho : -9223372036854775808 ≤ of ∧ of ≤ 9223372036854775807) :
    Calls Try.prog 15 #[.agg s.cells, .int .i64 of] w fun e w' => e = .returned (.tuple #[(ofV s of).1.val, .int .i64 (ofV s of).2]) ∧ w.grownBy w' none := by
  have CE := fun W => edges_any s W hs
  have CW := fun W => width_any s of W hs ho
  have CL := fun W => widths_any s of W hs ho
  have CR := fun W => resolve_any (s.n 20) (s.n 21) of W (Sty.b20 hs).1 (Sty.b20 hs).2 (Sty.b21 hs).1 (Sty.b21 hs).2 ho.1 ho.2
  have CS := fun W => resolve_any (s.n 16) (s.n 17) of W (Sty.b16 hs).1 (Sty.b16 hs).2 (Sty.b17 hs).1 (Sty.b17 hs).2 ho.1 ho.2
  unfold ofV
  cases hm : mayB s with
  | false =>
    rw [show edgesV s = .tuple #[.int .i64 0, .int .i64 0, .int .i64 60] by unfold edgesV; rw [if_neg (by simp [hm])]] at CE
    rw [if_neg (by simp)]
    exact of_raw0 s of w _ _ _ _ _ _ _ _ _ _ _ _ _ _ _ (by omega) CE CW CL CR CS
  | true =>
    rw [show edgesV s = .tuple #[.int .i64 (acrossV s), .int .i64 (upV s), .int .i64 0] by unfold edgesV; rw [if_pos hm]] at CE
    rw [if_pos rfl]
    by_cases h1 : (widthV s of).e = 0
    · rw [if_neg (by omega)]
      by_cases h2 : (widthsV s of).e = 0
      · rw [if_neg (by omega)]
        by_cases h3 : (resV (s.n 20) (s.n 21) of).e = 0
        · rw [if_neg (by omega)]
          by_cases h4 : (resV (s.n 16) (s.n 17) of).e = 0
          · rw [if_neg (by omega)]
            exact of_raw5 s of w _ _ _ _ _ _ _ _ _ _ _ _ _ _ _ rfl h1 h2 h3 h4 CE CW CL CR CS
          · rw [if_pos h4]
            exact of_raw4 s of w _ _ _ _ _ _ _ _ _ _ _ _ _ _ _ rfl h1 h2 h3 h4 CE CW CL CR CS
        · rw [if_pos h3]
          exact of_raw3 s of w _ _ _ _ _ _ _ _ _ _ _ _ _ _ _ rfl h1 h2 h3 CE CW CL CR CS
      · rw [if_pos h2]
        exact of_raw2 s of w _ _ _ _ _ _ _ _ _ _ _ _ _ _ _ rfl h1 h2 CE CW CL CR CS
    · rw [if_pos h1]
      exact of_raw1 s of w _ _ _ _ _ _ _ _ _ _ _ _ _ _ _ rfl h1 CE CW CL CR CS
theorem rof_any (s : Sty) (of : Int) (w : World) (hs : s.ok) (ho : -9223372036854775808 ≤ of ∧ of ≤ 9223372036854775807) :
    Calls Try.prog 16 #[.agg s.cells, .int .i64 of] w fun e w' => e = .returned (.tuple #[(ofV s of).1.val, .int .i64 (ofV s of).2]) ∧ w.grownBy w' none := by
  have CM := fun W => rmay_any s W hs
  rw [rmay_eq hs] at CM
  have CW := fun W => rwidth_any s of W hs ho
  have CL := fun W => rwidths_any s of W hs ho
  have CR := fun W => rresolve_any (s.n 20) (s.n 21) of W (Sty.b20 hs).1 (Sty.b20 hs).2 (Sty.b21 hs).1 (Sty.b21 hs).2 ho.1 ho.2
  have CS := fun W => rresolve_any (s.n 16) (s.n 17) of W (Sty.b16 hs).1 (Sty.b16 hs).2 (Sty.b17 hs).1 (Sty.b17 hs).2 ho.1 ho.2
  unfold ofV
  cases hm : mayB s with
  | false =>
    rw [hm] at CM
    rw [if_neg (by simp)]
    exact rof_raw0 s of w CM
  | true =>
    rw [hm] at CM
    have CE := fun W => redges_yes s W hm
    rw [if_pos rfl]
    by_cases h1 : (widthV s of).e = 0
    · rw [if_neg (by omega)]
      by_cases h2 : (widthsV s of).e = 0
      · rw [if_neg (by omega)]
        by_cases h3 : (resV (s.n 20) (s.n 21) of).e = 0
        · rw [if_neg (by omega)]
          by_cases h4 : (resV (s.n 16) (s.n 17) of).e = 0
          · rw [if_neg (by omega)]
            exact rof_raw5 s of w _ _ _ _ _ _ _ _ _ _ _ _ _ _ h1 h2 h3 h4 CM CE CW CL CR CS
          · rw [if_pos h4]
            exact rof_raw4 s of w _ _ _ _ _ _ _ _ _ _ _ _ _ _ h1 h2 h3 h4 CM CE CW CL CR CS
        · rw [if_pos h3]
          exact rof_raw3 s of w _ _ _ _ _ _ _ _ _ _ _ _ _ _ h1 h2 h3 CM CE CW CL CR CS
      · rw [if_pos h2]
        exact rof_raw2 s of w _ _ _ _ _ _ _ _ _ _ _ _ _ _ h1 h2 CM CE CW CL CR CS
    · rw [if_pos h1]
      exact rof_raw1 s of w _ _ _ _ _ _ _ _ _ _ _ _ _ _ h1 CM CE CW CL CR CS
end Go.Proofs.Ytjaeoaebkkmaaaa
