/- TreeNested. -/
import Derived.Test.YthbdfibolgaapaaTu
namespace Go.Proofs.Ythbdfibolgaapaa
open Go Go.RowKit
theorem IsNodes.at_ {w : World} {A : Option Addr} {n c : Nat} {L : List (List Value)} (R : IsNodes w A n c L) (hn : n ≤ 1000) : NodesAt w w.heap.size A n L := ⟨fun y hy => (R.2.2.2.1 y hy).2, R.1, R.2.2.2.2, hn⟩
theorem wf_i64 {x : Int} (h : (Lit.int .i64 x).wf = true) : -9223372036854775808 ≤ x ∧ x ≤ 9223372036854775807 := by simpa [Lit.wf, IntKind.min, IntKind.max, IntKind.signed, IntKind.bits] using h
set_option maxRecDepth 100000 in
set_option maxHeartbeats 4000000 in
theorem TreeNested_walk (w : World) (A : Option Addr) (n c : Nat) (L : List (List Value)) (x : Int) (_wx : (Lit.int .i64 x).wf = true) (R : IsNodes w A n c L) (a : Int) (wa : (Lit.int .i64 a).wf = true) (b : Int) (wb : (Lit.int .i64 b).wf = true) :
    Calls Try.prog 4 #[.agg #[.slice A n c, .int .i64 x], .int .i64 a, .int .i64 b] w fun e w' => e = .returned (.bool true) ∧ Below w.heap.size w w' := by
  obtain ⟨ba1, ba2⟩ := wf_i64 wa
  obtain ⟨bb1, bb2⟩ := wf_i64 wb
  have hnc := R.len_
  have hg0 := World.grownBy_alloc w (.cells #[.slice A n c, .int .i64 x] 24) none
  have b0 := Row.new w 24 #[.slice A n c, .int .i64 x]
  have CA := Lib.hid (awake_any (w.alloc (.cells #[.slice A n c, .int .i64 x] 24)))
  have CG := Lib.hid (fun W (hg : w.grownBy W none) => great_any A n c L x W (fun y hy => (R.2.2.2.1 y hy).2) R.1 ((R.2.2.2.2.grown0 hg).more hg.size) (by omega))
  have HB := Lib.hid (fun W (hg : (w.alloc (.cells #[.slice A n c, .int .i64 x] 24)).grownBy W none) => show W.cell? ⟨w.heap.size, 0, none⟩ = some (.slice A n c) ∧ W.cell? ⟨w.heap.size, 1, none⟩ = some (.int .i64 x) from ⟨(b0.kept0 hg).at 0, (b0.kept0 hg).at 1⟩)
  have hR := Lib.hid R
  have hg0' := Lib.hid hg0
  clear R b0 hg0 wa wb
  go_enter Try.func4, Try.ntmps4
  go_wp2_with fail
  refine CA.out.mono ?_; rintro e w1 ⟨rfl, hg1⟩
  obtain ⟨c0, c1⟩ := HB.out _ hg1
  go_wp2_with fail
  refine (CG.out _ (grown_trans hg0'.out hg1)).mono ?_; rintro e w2 ⟨bg, rfl, hbg, hg2⟩
  replace hg2 := grown_trans hg1 hg2
  clear c0 c1 hg1
  obtain ⟨c0, c1⟩ := HB.out _ hg2
  cases bg with
  | true =>
    go_wp2_with fail
    go_ret
    exact ⟨rfl, grown_below (grown_trans hg0'.out hg2)⟩
  | false =>
    obtain ⟨hn, _⟩ := hbg rfl
    clear hbg
    rcases (by omega : a < 0 ∨ (0 ≤ a ∧ b < a) ∨ (0 ≤ a ∧ a ≤ b ∧ (n : Int) ≤ b) ∨ (0 ≤ a ∧ a ≤ b ∧ b < n)) with h | ⟨h0, h⟩ | ⟨h0, h1, h⟩ | ⟨h0, h1, h⟩
    · have d0 : decide (a < 0) = true := decide_eq_true h
      go_wp2_with fail
      go_ret
      exact ⟨rfl, grown_below (grown_trans hg0'.out hg2)⟩
    · have d0 : decide (a < 0) = false := by simp; omega
      have d1 : decide (b < a) = true := decide_eq_true h
      go_wp2_with fail
      go_ret
      exact ⟨rfl, grown_below (grown_trans hg0'.out hg2)⟩
    · have d0 : decide (a < 0) = false := by simp; omega
      have d1 : decide (b < a) = false := by simp; omega
      have d2 : decide ((n : Int) ≤ b) = true := decide_eq_true h
      go_wp2_with fail
      go_ret
      exact ⟨rfl, grown_below (grown_trans hg0'.out hg2)⟩
    · obtain ⟨a, rfl⟩ := Int.eq_ofNat_of_zero_le h0
      obtain ⟨b, rfl⟩ := Int.eq_ofNat_of_zero_le (Int.le_trans h0 h1)
      have hab : a ≤ b := by omega
      have hbn : b < n := by omega
      have d0 : decide ((a : Int) < 0) = false := decide_eq_false (by omega)
      have d1 : decide (b < a) = false := decide_eq_false (by omega)
      have d2 : decide (n ≤ b) = false := decide_eq_false (by omega)
      have HE := Lib.hid (fun t (ht : t < n) W (hg : (w.alloc (.cells #[.slice A n c, .int .i64 x] 24)).grownBy W none) => end_in A n c x t L W ((hR.out.at_ (by omega)).grow (grown_trans hg0'.out hg)) ht)
      have e1 := endN_gt (d := dp L) (n := n) (i := a) (by omega)
      have e2 := endN_gt (d := dp L) (n := n) (i := b) hbn
      have e3 := endN_le (d := dp L) (n := n) (i := a) (by omega)
      have e4 := endN_le (d := dp L) (n := n) (i := b) hbn
      have e5 := nested (d := dp L) (n := n) hab hbn
      have EA := Lib.hid (HE.out a (by omega))
      have EB := Lib.hid (HE.out b hbn)
      clear HE
      generalize endN (dp L) n a = ea at *
      generalize endN (dp L) n b = eb at *
      go_upto_region 5 with fail
      clear c0 c1
      replace hg2 := grown_trans hg2 (grown_drew (World.grownBy.refl _ none))
      obtain ⟨c0, c1⟩ := HB.out _ hg2
      go_region_with (first
        | (go_at_call 14; ((with_reducible refine (EA.out _ hg2).mono ?_); rintro e vv ⟨rfl, hgk⟩); clear c0 c1; replace hg2 := grown_trans hg2 hgk; obtain ⟨c0, c1⟩ := HB.out _ hg2; clear hgk)
        | (go_at_call 14; ((with_reducible refine (EB.out _ hg2).mono ?_); rintro e vv ⟨rfl, hgk⟩); clear c0 c1; replace hg2 := grown_trans hg2 hgk; obtain ⟨c0, c1⟩ := HB.out _ hg2; clear hgk))
      all_goals
        have p1 : decide (a < ea) = true := decide_eq_true e1
        have p2 : decide (b < eb) = true := decide_eq_true e2
        have p3 : decide (ea ≤ n) = true := decide_eq_true e3
        have p4 : decide (eb ≤ n) = true := decide_eq_true e4
        by_cases h5 : ea ≤ b
        · have p5 : decide (ea ≤ b) = true := decide_eq_true h5
          go_wp2_with fail
          go_ret
          exact ⟨rfl, grown_below (grown_trans hg0'.out hg2)⟩
        · have p5 : decide (ea ≤ b) = false := decide_eq_false h5
          have p6 : decide (eb ≤ ea) = true := decide_eq_true (by omega)
          go_wp2_with fail
          go_ret
          exact ⟨rfl, grown_below (grown_trans hg0'.out hg2)⟩
end Go.Proofs.Ythbdfibolgaapaa
