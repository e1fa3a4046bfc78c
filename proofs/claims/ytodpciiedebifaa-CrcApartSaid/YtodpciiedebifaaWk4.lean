/- The walk of CrcApart. -/
import Derived.Test.YtodpciiedebifaaWk3
import Derived.StillTailTactics
namespace Go.Proofs.Ytodpciiedebifaa
open Go Go.RowKit
theorem Reads.drewN_ {w : World} {B : Nat} {A : Option Addr} {xs : List Value} (h : Reads w B A xs) (k : Nat) : Reads (w.drewN k) B A xs := h
theorem lawsame_lit (A1 A2 : Option Addr) (n c1 c2 : Nat) (l1 l2 : List Nat) (b : Bool) (hb : (l1 == l2) = b) (w : World) (B1 B2 : Nat) (h1 : l1.length = n) (h2 : l2.length = n) (r1 : Reads w B1 A1 (l1.map byte)) (r2 : Reads w B2 A2 (l2.map byte))
    (b1 : Byt l1) (b2 : Byt l2) (hn : n ≤ 1000000) :
    Calls Try.prog 22 #[.slice A1 n c1, .slice A2 n c2] w fun e w' => e = .returned (.bool b) ∧ Drew w w' := by
  subst hb
  exact lawsame_any A1 A2 n c1 n c2 l1 l2 w B1 B2 h1 h2 r1 r2 b1 b2 hn hn rfl

set_option maxHeartbeats 8000000 in
theorem apart_same (a0 : Option Addr) (len0 cap0 : Nat) (a1 : Option Addr) (len1 cap1 : Nat) (n : Nat) (w : World) (la lb wa wb : List Nat) (d : Nat)
    (hn : n = min len0 len1) (hn128 : n ≤ 128) (hc0 : len0 ≤ cap0) (hc0' : cap0 ≤ 9223372036854775807) (hc1 : len1 ≤ cap1) (hc1' : cap1 ≤ 9223372036854775807)
    (hra : Reads w w.heap.size a0 (la.map byte)) (hrb : Reads w w.heap.size a1 (lb.map byte))
    (CA : Hid (∀ c W B, Reads W B a0 (la.map byte) → Calls Try.prog 13 #[.slice a0 n c] W fun e w' => ∃ A', e = .returned (.slice A' (n + 4) (n + 4)) ∧ Own w' W.heap.size 5 1 A' (n + 4) (n + 4) (wa.map byte) ∧ W.grownBy w' none))
    (CB : Hid (∀ c W B, Reads W B a1 (lb.map byte) → Calls Try.prog 13 #[.slice a1 n c] W fun e w' => ∃ A', e = .returned (.slice A' (n + 4) (n + 4)) ∧ Own w' W.heap.size 5 1 A' (n + 4) (n + 4) (wb.map byte) ∧ W.grownBy w' none))
    (CD : Hid (∀ A B W, (∃ X, Reads W X A (wa.map byte)) → (∃ Y, Reads W Y B (wb.map byte)) → Calls Try.prog 10 #[.slice A (n + 4) (n + 4), .slice B (n + 4) (n + 4)] W fun e w' => e = .returned (.int .i64 (d : Nat)) ∧ Drew W w'))
    (CS : Hid (∀ c1 c2 W X Y b, (la == lb) = b → Reads W X a0 (la.map byte) → Reads W Y a1 (lb.map byte) → Calls Try.prog 22 #[.slice a0 n c1, .slice a1 n c2] W fun e w' => e = .returned (.bool b) ∧ Drew W w')) (hz : d = 0) (he : la = lb) :
    Calls Try.prog 6 #[.slice a0 len0 cap0, .slice a1 len1 cap1] w fun e w' => e = .returned (.bool true) ∧ Below w.heap.size w w' := by
  have h0 := map_add0 a0
  have h0' := map_add0' a0
  have h1 := map_add0 a1
  have h1' := map_add0' a1
  subst hz
  have hq := Lib.hid (show (la == lb) = true by simp [he])
  clear he
  rcases Nat.lt_or_ge len1 len0 with hlt | hge
  · obtain rfl : n = len1 := by omega
    clear hn
    go_enter Try.func6, Try.ntmps6
    go_wp2_with fail
    refine (awake_any _).mono ?_; rintro e w1 ⟨rfl, hg1⟩
    have ra1 : Reads w1.drew w.heap.size a0 (la.map byte) := hra.grown0 (grown_drew hg1)
    have rb1 : Reads w1.drew w.heap.size a1 (lb.map byte) := hrb.grown0 (grown_drew hg1)
    go_wp2_with fail
    go_region_with (first
      | (go_at_call_of 13 a0; refine (CA.out _ _ w.heap.size ?_).mono ?_; (exact ra1); rintro e w2 ⟨A2, rfl, hown2, hg2⟩)
      | (go_at_call_of 13 a1; refine (CB.out _ _ w.heap.size ?_).mono ?_; (exact rb1.grown0 hg2); rintro e w3 ⟨A3, rfl, hown3, hg3⟩)
      | (go_at_call 10; refine (CD.out _ _ _ ?_ ?_).mono ?_; (exact ⟨_, (hown2.grown0 hg3).reads⟩); (exact ⟨_, hown3.reads⟩); rintro e w4 ⟨rfl, hg4⟩))
    all_goals
      have hgA := grown_trans (grown_drew hg1) (grown_trans hg2 (grown_trans hg3 hg4.grown_))
      have ra4 := hra.grown0 hgA
      have rb4 := hrb.grown0 hgA
      clear hg1 hg2 hg3 hg4 ra1 rb1 hown2 hown3
      go_wp2_with fail
      refine wp_region_quiet_lit (by kernel_rfl) (by kernel_rfl) ?_
      repeat (first | go_big_quiet_step ((go_at_call 22; exact quiet_drew (CS.out _ _ _ _ _ _ hq.out (ra4.drewN_ _) (rb4.drewN_ _)))) | quiet_step ((go_at_call 22; exact quiet_drew (CS.out _ _ _ _ _ _ hq.out (ra4.drewN_ _) (rb4.drewN_ _)))))
      refine wpQuiet_nil ?_
      intro w9 hw9
      obtain ⟨nq, hw8⟩ := hw9
      subst hw8
      go_wp2
      go_ret
      exact ⟨rfl, grown_below (grown_drewN hgA _)⟩
  · obtain rfl : n = len0 := by omega
    clear hn
    have hge' : ¬ len1 < n := by omega
    go_enter Try.func6, Try.ntmps6
    go_wp2_with fail
    refine (awake_any _).mono ?_; rintro e w1 ⟨rfl, hg1⟩
    have ra1 : Reads w1.drew w.heap.size a0 (la.map byte) := hra.grown0 (grown_drew hg1)
    have rb1 : Reads w1.drew w.heap.size a1 (lb.map byte) := hrb.grown0 (grown_drew hg1)
    go_wp2_with fail
    go_region_with (first
      | (go_at_call_of 13 a0; refine (CA.out _ _ w.heap.size ?_).mono ?_; (exact ra1); rintro e w2 ⟨A2, rfl, hown2, hg2⟩)
      | (go_at_call_of 13 a1; refine (CB.out _ _ w.heap.size ?_).mono ?_; (exact rb1.grown0 hg2); rintro e w3 ⟨A3, rfl, hown3, hg3⟩)
      | (go_at_call 10; refine (CD.out _ _ _ ?_ ?_).mono ?_; (exact ⟨_, (hown2.grown0 hg3).reads⟩); (exact ⟨_, hown3.reads⟩); rintro e w4 ⟨rfl, hg4⟩))
    all_goals
      have hgA := grown_trans (grown_drew hg1) (grown_trans hg2 (grown_trans hg3 hg4.grown_))
      have ra4 := hra.grown0 hgA
      have rb4 := hrb.grown0 hgA
      clear hg1 hg2 hg3 hg4 ra1 rb1 hown2 hown3
      go_wp2_with fail
      refine wp_region_quiet_lit (by kernel_rfl) (by kernel_rfl) ?_
      repeat (first | go_big_quiet_step ((go_at_call 22; exact quiet_drew (CS.out _ _ _ _ _ _ hq.out (ra4.drewN_ _) (rb4.drewN_ _)))) | quiet_step ((go_at_call 22; exact quiet_drew (CS.out _ _ _ _ _ _ hq.out (ra4.drewN_ _) (rb4.drewN_ _)))))
      refine wpQuiet_nil ?_
      intro w9 hw9
      obtain ⟨nq, hw8⟩ := hw9
      subst hw8
      go_wp2
      go_ret
      exact ⟨rfl, grown_below (grown_drewN hgA _)⟩

set_option maxHeartbeats 8000000 in
theorem apart_other (a0 : Option Addr) (len0 cap0 : Nat) (a1 : Option Addr) (len1 cap1 : Nat) (n : Nat) (w : World) (la lb wa wb : List Nat) (d : Nat)
    (hn : n = min len0 len1) (hn128 : n ≤ 128) (hc0 : len0 ≤ cap0) (hc0' : cap0 ≤ 9223372036854775807) (hc1 : len1 ≤ cap1) (hc1' : cap1 ≤ 9223372036854775807)
    (hra : Reads w w.heap.size a0 (la.map byte)) (hrb : Reads w w.heap.size a1 (lb.map byte))
    (CA : Hid (∀ c W B, Reads W B a0 (la.map byte) → Calls Try.prog 13 #[.slice a0 n c] W fun e w' => ∃ A', e = .returned (.slice A' (n + 4) (n + 4)) ∧ Own w' W.heap.size 5 1 A' (n + 4) (n + 4) (wa.map byte) ∧ W.grownBy w' none))
    (CB : Hid (∀ c W B, Reads W B a1 (lb.map byte) → Calls Try.prog 13 #[.slice a1 n c] W fun e w' => ∃ A', e = .returned (.slice A' (n + 4) (n + 4)) ∧ Own w' W.heap.size 5 1 A' (n + 4) (n + 4) (wb.map byte) ∧ W.grownBy w' none))
    (CD : Hid (∀ A B W, (∃ X, Reads W X A (wa.map byte)) → (∃ Y, Reads W Y B (wb.map byte)) → Calls Try.prog 10 #[.slice A (n + 4) (n + 4), .slice B (n + 4) (n + 4)] W fun e w' => e = .returned (.int .i64 (d : Nat)) ∧ Drew W w'))
    (CS : Hid (∀ c1 c2 W X Y b, (la == lb) = b → Reads W X a0 (la.map byte) → Reads W Y a1 (lb.map byte) → Calls Try.prog 22 #[.slice a0 n c1, .slice a1 n c2] W fun e w' => e = .returned (.bool b) ∧ Drew W w')) (h4 : 4 ≤ d) (he : ¬ la = lb) :
    Calls Try.prog 6 #[.slice a0 len0 cap0, .slice a1 len1 cap1] w fun e w' => e = .returned (.bool true) ∧ Below w.heap.size w w' := by
  have h0 := map_add0 a0
  have h0' := map_add0' a0
  have h1 := map_add0 a1
  have h1' := map_add0' a1
  have hq := Lib.hid (show (la == lb) = false by simp [he])
  clear he
  have hb0 : ((d : Int) == 0) = false := by simp; omega
  have hb4 : decide ((4 : Int) ≤ (d : Int)) = true := by simp; omega
  rcases Nat.lt_or_ge len1 len0 with hlt | hge
  · obtain rfl : n = len1 := by omega
    clear hn
    go_enter Try.func6, Try.ntmps6
    go_wp2_with fail
    refine (awake_any _).mono ?_; rintro e w1 ⟨rfl, hg1⟩
    have ra1 : Reads w1.drew w.heap.size a0 (la.map byte) := hra.grown0 (grown_drew hg1)
    have rb1 : Reads w1.drew w.heap.size a1 (lb.map byte) := hrb.grown0 (grown_drew hg1)
    go_wp2_with fail
    go_region_with (first
      | (go_at_call_of 13 a0; refine (CA.out _ _ w.heap.size ?_).mono ?_; (exact ra1); rintro e w2 ⟨A2, rfl, hown2, hg2⟩)
      | (go_at_call_of 13 a1; refine (CB.out _ _ w.heap.size ?_).mono ?_; (exact rb1.grown0 hg2); rintro e w3 ⟨A3, rfl, hown3, hg3⟩)
      | (go_at_call 10; refine (CD.out _ _ _ ?_ ?_).mono ?_; (exact ⟨_, (hown2.grown0 hg3).reads⟩); (exact ⟨_, hown3.reads⟩); rintro e w4 ⟨rfl, hg4⟩))
    all_goals
      have hgA := grown_trans (grown_drew hg1) (grown_trans hg2 (grown_trans hg3 hg4.grown_))
      have ra4 := hra.grown0 hgA
      have rb4 := hrb.grown0 hgA
      clear hg1 hg2 hg3 hg4 ra1 rb1 hown2 hown3
      go_wp2_with fail
      refine wp_region_quiet_lit (by kernel_rfl) (by kernel_rfl) ?_
      repeat (first | go_big_quiet_step ((go_at_call 22; exact quiet_drew (CS.out _ _ _ _ _ _ hq.out (ra4.drewN_ _) (rb4.drewN_ _)))) | quiet_step ((go_at_call 22; exact quiet_drew (CS.out _ _ _ _ _ _ hq.out (ra4.drewN_ _) (rb4.drewN_ _)))))
      refine wpQuiet_nil ?_
      intro w9 hw9
      obtain ⟨nq, hw8⟩ := hw9
      subst hw8
      go_wp2
      go_ret
      exact ⟨rfl, grown_below (grown_drewN hgA _)⟩
  · obtain rfl : n = len0 := by omega
    clear hn
    have hge' : ¬ len1 < n := by omega
    go_enter Try.func6, Try.ntmps6
    go_wp2_with fail
    refine (awake_any _).mono ?_; rintro e w1 ⟨rfl, hg1⟩
    have ra1 : Reads w1.drew w.heap.size a0 (la.map byte) := hra.grown0 (grown_drew hg1)
    have rb1 : Reads w1.drew w.heap.size a1 (lb.map byte) := hrb.grown0 (grown_drew hg1)
    go_wp2_with fail
    go_region_with (first
      | (go_at_call_of 13 a0; refine (CA.out _ _ w.heap.size ?_).mono ?_; (exact ra1); rintro e w2 ⟨A2, rfl, hown2, hg2⟩)
      | (go_at_call_of 13 a1; refine (CB.out _ _ w.heap.size ?_).mono ?_; (exact rb1.grown0 hg2); rintro e w3 ⟨A3, rfl, hown3, hg3⟩)
      | (go_at_call 10; refine (CD.out _ _ _ ?_ ?_).mono ?_; (exact ⟨_, (hown2.grown0 hg3).reads⟩); (exact ⟨_, hown3.reads⟩); rintro e w4 ⟨rfl, hg4⟩))
    all_goals
      have hgA := grown_trans (grown_drew hg1) (grown_trans hg2 (grown_trans hg3 hg4.grown_))
      have ra4 := hra.grown0 hgA
      have rb4 := hrb.grown0 hgA
      clear hg1 hg2 hg3 hg4 ra1 rb1 hown2 hown3
      go_wp2_with fail
      refine wp_region_quiet_lit (by kernel_rfl) (by kernel_rfl) ?_
      repeat (first | go_big_quiet_step ((go_at_call 22; exact quiet_drew (CS.out _ _ _ _ _ _ hq.out (ra4.drewN_ _) (rb4.drewN_ _)))) | quiet_step ((go_at_call 22; exact quiet_drew (CS.out _ _ _ _ _ _ hq.out (ra4.drewN_ _) (rb4.drewN_ _)))))
      refine wpQuiet_nil ?_
      intro w9 hw9
      obtain ⟨nq, hw8⟩ := hw9
      subst hw8
      go_wp2
      go_ret
      exact ⟨rfl, grown_below (grown_drewN hgA _)⟩

theorem apart_walk (a0 : Option Addr) (len0 cap0 : Nat) (a1 : Option Addr) (len1 cap1 : Nat) (n : Nat) (w : World) (la lb : List Nat)
    (hn : n = min len0 len1) (hn128 : n ≤ 128) (hc0 : len0 ≤ cap0) (hc0' : cap0 ≤ 9223372036854775807) (hc1 : len1 ≤ cap1) (hc1' : cap1 ≤ 9223372036854775807) (hla : la.length = n) (hlb : lb.length = n) (hba : Byt la) (hbb : Byt lb)
    (hra : Reads w w.heap.size a0 (la.map byte)) (hrb : Reads w w.heap.size a1 (lb.map byte)) :
    Calls Try.prog 6 #[.slice a0 len0 cap0, .slice a1 len1 cap1] w fun e w' => e = .returned (.bool true) ∧ Below w.heap.size w w' := by
  have hwa : (withs la).length = n + 4 := by rw [withs_len, hla]
  have hwb : (withs lb).length = n + 4 := by rw [withs_len, hlb]
  have hap : differ (withs la) (withs lb) ≤ 3 → withs la = withs lb := apart4 _ _ (withs_byt hba) (withs_byt hbb) (by rw [hwa, hwb]) (by omega) (whole_withs _) (whole_withs _)
  have hdz := differ_zero (withs la) (withs lb) (withs_byt hba) (withs_byt hbb) (by rw [hwa, hwb])
  have hinj : withs la = withs lb → la = lb := fun h => by
    have := congrArg (List.take n) h
    unfold withs at this
    rwa [← hla, List.take_left, hla, ← hlb, List.take_left] at this
  have CA := Lib.hid (fun c W B (hr : Reads W B a0 (la.map byte)) => with_any' a0 n c la W B hla hr hba (by omega))
  have CB := Lib.hid (fun c W B (hr : Reads W B a1 (lb.map byte)) => with_any' a1 n c lb W B hlb hr hbb (by omega))
  have CD := Lib.hid (fun A B W (h1 : ∃ X, Reads W X A ((withs la).map byte)) (h2 : ∃ Y, Reads W Y B ((withs lb).map byte)) => differ_q A B (n + 4) (n + 4) (n + 4) (n + 4) (withs la) (withs lb) W _ _ hwa hwb h1.choose_spec h2.choose_spec (withs_byt hba) (withs_byt hbb) (by omega) (by omega))
  have CS := Lib.hid (fun c1 c2 W X Y b hb (h1 : Reads W X a0 (la.map byte)) (h2 : Reads W Y a1 (lb.map byte)) => lawsame_lit a0 a1 n c1 c2 la lb b hb W X Y hla hlb h1 h2 hba hbb (by omega))
  have hfin : differ (withs la) (withs lb) = 0 ∧ la = lb ∨ 4 ≤ differ (withs la) (withs lb) ∧ ¬ la = lb := by
    by_cases e : la = lb
    · exact .inl ⟨hdz.2 (by rw [e]), e⟩
    · refine .inr ⟨?_, e⟩
      rcases Nat.lt_or_ge 3 (differ (withs la) (withs lb)) with h | h
      · exact h
      · exact absurd (hinj (hap h)) e
  generalize withs la = wa at *
  generalize withs lb = wb at *
  generalize differ wa wb = d at *
  clear hap hdz hinj hwa hwb
  rcases hfin with ⟨hd0, he⟩ | ⟨hd4, he⟩
  · exact apart_same a0 len0 cap0 a1 len1 cap1 n w la lb wa wb d hn hn128 hc0 hc0' hc1 hc1' hra hrb CA CB CD CS hd0 he
  · exact apart_other a0 len0 cap0 a1 len1 cap1 n w la lb wa wb d hn hn128 hc0 hc0' hc1 hc1' hra hrb CA CB CD CS hd4 he

theorem CrcApart_walk (a0 : Option Addr) (len0 cap0 : Nat) (z0 : List Int) (a1 : Option Addr) (len1 cap1 : Nat) (z1 : List Int) (w : World) (w0 : IsRow .u8 w a0 len0 cap0 z0) (w1 : IsRow .u8 w a1 len1 cap1 z1) :
    Calls Try.prog 6 #[.slice a0 len0 cap0, .slice a1 len1 cap1] w fun e w' => e = .returned (.bool true) ∧ Below w.heap.size w w' := by
  have b0 := w0.len_
  have b1 := w1.len_
  obtain ⟨l0, hl0, hb0, hr0⟩ := w0.bytes_
  obtain ⟨l1, hl1, hb1, hr1⟩ := w1.bytes_
  by_cases h : min len0 len1 ≤ 128
  · exact apart_walk a0 len0 cap0 a1 len1 cap1 _ w (l0.take (min len0 len1)) (l1.take (min len0 len1)) rfl h b0.1 b0.2 b1.1 b1.2 (by rw [List.length_take]; omega) (by rw [List.length_take]; omega) (byt_take hb0 _) (byt_take hb1 _) (take_reads hr0 _) (take_reads hr1 _)
  · rcases Nat.lt_or_ge len1 len0 with hlt | hge
    all_goals
      go_enter Try.func6, Try.ntmps6
      go_wp2_with fail
      refine (awake_any _).mono ?_; rintro e w1 ⟨rfl, hg1⟩
      go_wp2
      go_ret
      exact ⟨rfl, grown_below hg1⟩
end Go.Proofs.Ytodpciiedebifaa
