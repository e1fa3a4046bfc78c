/- The walk of the document's Without. -/
import Derived.Test.YtodpciiedebifaaT5
namespace Go.Proofs.Ytodpciiedebifaa
open Go Go.RowKit
theorem refwithout_any (A : Option Addr) (n c : Nat) (l : List Nat) (w : World) (B : Nat) (hl : l.length = n) (hr : Reads w B A (l.map byte)) (hb : Byt l) (hn : n ≤ 1000000) (hnc : n ≤ c) (_hc : c ≤ 9223372036854775807) :
    Calls Try.prog 19 #[.slice A n c] w fun e w' => ∃ A' m' c', e = .returned (.tuple #[.slice A' m' c', .bool (wholeB l)]) ∧
      Own w' w.heap.size 5 1 A' m' c' ((if wholeB l = true then l.take (n - 4) else []).map byte) ∧ w.grownBy w' none := by
  have h0 := map_add0 A
  have h0' := map_add0' A
  by_cases h4 : n < 4
  · have hw : wholeB l = false := by unfold wholeB; simp; omega
    rw [hw]; clear hw
    go_enter Try.func19, Try.ntmps19
    go_wp2
    go_ret2
    exact ⟨none, 0, 0, rfl, Own.nil_ _ _ _ _ _, World.grownBy.refl _ _⟩
  · obtain ⟨m, rfl⟩ : ∃ m, n = m + 4 := ⟨n - 4, by omega⟩
    rw [Nat.add_sub_cancel]
    have hw : wholeB l = (withs (l.take m) == l) := by unfold wholeB; rw [hl]; simp
    rw [hw]; clear hw
    have hm : (l.take m).length = m := by rw [List.length_take]; omega
    have hwl : (withs (l.take m)).length = m + 4 := by rw [withs_len, hm]
    have hdef : l.take m ++ tail4 (rsum (l.take m)) 4 = withs (l.take m) := rfl
    have CW := Lib.hid (fun A' c' W hrW => refwith_any A' m c' (l.take m) W W.heap.size hm hrW (byt_take hb m) (by omega))
    rw [hdef] at CW; clear hdef
    have C1 := Lib.hid (fun c' => copy_any A m c' (l.take m) w B hm (take_reads hr m) (by omega))
    have CE := Lib.hid (fun A1 c1 W B1 hr1 B2 hr2 => same_any A1 A (m + 4) c1 (m + 4) c (withs (l.take m)) l W B1 B2 hwl hl hr1 hr2 (by omega) (by omega))
    generalize withs (l.take m) = q at *
    generalize l.take m = d at *
    by_cases he : q = l
    · have hq : (q == l) = true := by simp [he]
      rw [hq] at CE ⊢; clear hq he
      go_enter Try.func19, Try.ntmps19
      go_wp2_with fail
      refine (C1.out _).mono ?_; rintro e w1 ⟨A1, c1, rfl, hown1, hg1⟩
      go_wp2_with fail
      refine (CW.out A1 c1 _ hown1.reads).mono ?_; rintro e w2 ⟨A2, c2, rfl, hown2, hg2⟩
      go_wp2_with fail
      refine (CE.out A2 c2 _ _ hown2.reads B ((hr.grown0 hg1).grown0 hg2)).mono ?_; rintro e w3 ⟨rfl, hg3⟩
      go_wp2
      go_ret2
      exact ⟨A1, m, c1, rfl, (hown1.grown0 hg2).grown0 hg3, grown_trans (grown_trans hg1 hg2) hg3⟩
    · have hq : (q == l) = false := by simp [he]
      rw [hq] at CE ⊢; clear hq he
      go_enter Try.func19, Try.ntmps19
      go_wp2_with fail
      refine (C1.out _).mono ?_; rintro e w1 ⟨A1, c1, rfl, hown1, hg1⟩
      go_wp2_with fail
      refine (CW.out A1 c1 _ hown1.reads).mono ?_; rintro e w2 ⟨A2, c2, rfl, hown2, hg2⟩
      go_wp2_with fail
      refine (CE.out A2 c2 _ _ hown2.reads B ((hr.grown0 hg1).grown0 hg2)).mono ?_; rintro e w3 ⟨rfl, hg3⟩
      go_wp2
      go_ret2
      exact ⟨none, 0, 0, rfl, Own.nil_ _ _ _ _ _, grown_trans (grown_trans hg1 hg2) hg3⟩
end Go.Proofs.Ytodpciiedebifaa
