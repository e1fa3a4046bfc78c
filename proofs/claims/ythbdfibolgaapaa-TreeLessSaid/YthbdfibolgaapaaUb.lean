/- TreeBeside. -/
import Derived.Test.YthbdfibolgaapaaUn
namespace Go.Proofs.Ythbdfibolgaapaa
open Go Go.RowKit
theorem Shape.dps {L : List (List Value)} {x : Int} (h : Shape L x) : ∀ i, i < L.length → -1 ≤ dp L i ∧ dp L i ≤ 1000 := fun i hi => by
  have h1 := (h.2.2.2.1 i hi).1
  unfold dp
  exact ⟨by have := h1.2.2.1; omega, by have := h1.2.2.2.1; omega⟩
set_option maxRecDepth 100000 in
set_option maxHeartbeats 4000000 in
theorem TreeBeside_walk (w : World) (A : Option Addr) (n c : Nat) (L : List (List Value)) (x : Int) (_wx : (Lit.int .i64 x).wf = true) (R : IsNodes w A n c L) (a : Int) (wa : (Lit.int .i64 a).wf = true) :
    Calls Try.prog 5 #[.agg #[.slice A n c, .int .i64 x], .int .i64 a] w fun e w' => e = .returned (.bool true) ∧ Below w.heap.size w w' := by
  obtain ⟨ba1, ba2⟩ := wf_i64 wa
  have hnc := R.len_
  have hg0 := World.grownBy_alloc w (.cells #[.slice A n c, .int .i64 x] 24) none
  have b0 := Row.new w 24 #[.slice A n c, .int .i64 x]
  have CA := Lib.hid (awake_any (w.alloc (.cells #[.slice A n c, .int .i64 x] 24)))
  have CG := Lib.hid (fun W (hg : w.grownBy W none) => great_any A n c L x W (fun y hy => (R.2.2.2.1 y hy).2) R.1 ((R.2.2.2.2.grown0 hg).more hg.size) (by omega))
  have HB := Lib.hid (fun W (hg : (w.alloc (.cells #[.slice A n c, .int .i64 x] 24)).grownBy W none) => show W.cell? ⟨w.heap.size, 0, none⟩ = some (.slice A n c) ∧ W.cell? ⟨w.heap.size, 1, none⟩ = some (.int .i64 x) from ⟨(b0.kept0 hg).at 0, (b0.kept0 hg).at 1⟩)
  have hR := Lib.hid R
  have hg0' := Lib.hid hg0
  clear R b0 hg0 wa
  go_enter Try.func5, Try.ntmps5
  go_wp2_with fail
  refine CA.out.mono ?_; rintro e w1 ⟨rfl, hg1⟩
  obtain ⟨c0, c1⟩ := HB.out _ hg1
  go_wp2_with fail
  refine (CG.out _ (grown_trans hg0'.out hg1)).mono ?_; rintro e w2 ⟨bg, rfl, hbg, hg2⟩
  replace hg2 := grown_trans hg1 hg2
  clear c0 c1 hg1
  obtain ⟨c0, c1⟩ := HB.out _ hg2
  cases bg with
  | true =>
    go_wp2_with fail
    go_ret
    exact ⟨rfl, grown_below (grown_trans hg0'.out hg2)⟩
  | false =>
    obtain ⟨hn, htot⟩ := hbg rfl
    clear hbg
    have hN := Lib.hid (fun W (hg : (w.alloc (.cells #[.slice A n c, .int .i64 x] 24)).grownBy W none) => (hR.out.at_ (by omega)).grow (grown_trans hg0'.out hg))
    have CM := Lib.hid (fun W (hg : (w.alloc (.cells #[.slice A n c, .int .i64 x] 24)).grownBy W none) => may_any A n c x L W (hN.out W hg) (fun i hi => by have := len_total (L := L) (i := i) (by rw [hR.out.1]; exact hi); omega))
    go_wp2_with fail
    refine (CM.out _ hg2).mono ?_; rintro e w3 ⟨⟨bm, rfl, hbm⟩, hg3⟩
    replace hg2 := grown_trans hg2 hg3
    clear c0 c1 hg3 CM CG CA
    obtain ⟨c0, c1⟩ := HB.out _ hg2
    cases bm with
    | false =>
      go_wp2_with fail
      go_ret
      exact ⟨rfl, grown_below (grown_trans hg0'.out hg2)⟩
    | true =>
      have hS := Lib.hid (hbm.1 rfl)
      clear hbm
      rcases (by omega : a < 0 ∨ (0 ≤ a ∧ (n : Int) ≤ a) ∨ (0 ≤ a ∧ a < n)) with h | ⟨h0, h⟩ | ⟨h0, h⟩
      · have d0 : decide (a < 0) = true := decide_eq_true h
        go_wp2_with fail
        go_ret
        exact ⟨rfl, grown_below (grown_trans hg0'.out hg2)⟩
      · have d0 : decide (a < 0) = false := decide_eq_false (by omega)
        have d2 : decide ((n : Int) ≤ a) = true := decide_eq_true h
        go_wp2_with fail
        go_ret
        exact ⟨rfl, grown_below (grown_trans hg0'.out hg2)⟩
      · obtain ⟨t, rfl⟩ := Int.eq_ofNat_of_zero_le h0
        have htn : t < n := by omega
        have hln := hR.out.1
        have d0 : decide ((t : Int) < 0) = false := decide_eq_false (by omega)
        have d2 : decide (n ≤ t) = false := decide_eq_false (by omega)
        have hdp := Lib.hid (fun i (hi : i < n) => hS.out.dps i (by rw [hR.out.1]; exact hi))
        have HK := Lib.hid (fun W (hg : (w.alloc (.cells #[.slice A n c, .int .i64 x] 24)).grownBy W none) => kids_in A n c x t L W (hN.out W hg) htn hdp.out)
        have HE := Lib.hid (fun q (hq : q < n) W (hg : (w.alloc (.cells #[.slice A n c, .int .i64 x] 24)).grownBy W none) => end_in A n c x q L W (hN.out W hg) hq)
        have hst := hS.out.steps
        rw [hln] at hst
        have hst' := Lib.hid hst
        have hbs := Lib.hid (beside_start hst htn)
        have hbk := Lib.hid (fun i p (h : Beside (dp L) n t i p) (hi : i < (kidsN (dp L) n t).length) => beside_kid htn h hi)
        have hbp := Lib.hid (fun i p (h : Beside (dp L) n t i p) (hi : i < (kidsN (dp L) n t).length) => beside_step hst htn h hi)
        have hbe := Lib.hid (fun p (h : Beside (dp L) n t (kidsN (dp L) n t).length p) => beside_end htn h)
        have hkn : (kidsN (dp L) n t).length ≤ n := by
          unfold kidsN
          have h1 := List.length_filter_le (fun j => decide (dp L j = dp L t + 1)) (List.range' (t + 1) (endN (dp L) n t - (t + 1)))
          have h2 := endN_le (d := dp L) (n := n) htn
          rw [List.length_range'] at h1
          omega
        clear hst hln
        go_wp2_with fail
        refine (HK.out _ hg2).mono ?_; rintro e w4 ⟨A', c', rfl, hown, hg4⟩
        replace hg2 := grown_trans hg2 hg4
        have hown' := Lib.hid hown
        clear c0 c1 hg4 HK hown d0 d2
        generalize hkl : kidsN (dp L) n t = kl at *
        have hkl' := Lib.hid hkl
        clear hkl
        obtain ⟨K, hK⟩ : ∃ K, kl.length = K := ⟨_, rfl⟩
        have hK' := Lib.hid hK
        rw [hK] at hkn
        simp only [hK]
        clear hK
        have hg4' := Lib.hid hg2
        go_upto_region 8 with fail
        go_loopw [6, 7] (fun vp vi wr => ∃ i p : Nat, i ≤ K ∧ p ≤ n ∧ vi = .int .i64 i ∧ vp = .int .i64 p ∧ Beside (dp L) n t i p ∧ w4.grownBy wr none) (fun _ vi _ => K - (intOf vi).toNat)
        case atStart => exact ⟨0, t + 1, by omega, by omega, rfl, by go_num, hbs.out, World.grownBy.refl _ _⟩
        case round =>
          obtain ⟨i, p, hi, hp, rfl, rfl, hB, hgr⟩ := hrel
          have hB' := Lib.hid hB
          have hgr' := Lib.hid hgr
          clear hB hgr hg2
          have hg2 := grown_trans hg4'.out hgr'.out
          obtain ⟨c0, c1⟩ := HB.out _ hg2
          by_cases hlt : i < K
          · obtain ⟨hk1, hk2, _, _⟩ := hbk.out i p hB'.out (by rw [hK'.out]; exact hlt)
            obtain ⟨g, rfl, _, _, _, hc⟩ := hown'.out.cells_ (by rw [List.length_map, hK'.out]; omega)
            have z := hgr'.out.cell (show w4.cell? ⟨g, i, none⟩ = some (.int .i64 (p : Int)) by rw [hc i (by rw [List.length_map, hK'.out]; omega), List.getElem?_map, hk1]; rfl) (by simp)
            have hne : ((p : Int) != (p : Int)) = false := by simp
            have EP := Lib.hid (HE.out p hk2)
            have hnx := Lib.hid (hbp.out i p hB'.out (by rw [hK'.out]; exact hlt))
            have hle := endN_le (d := dp L) (n := n) (i := p) hk2
            clear hk1 hc
            generalize endN (dp L) n p = ep at *
            go_upto_region 12 with fail
            clear c0 c1
            replace hg2 := grown_trans hg2 (grown_drew (World.grownBy.refl _ none))
            replace z := (grown_drew (World.grownBy.refl wr none)).cell z (by simp)
            have hgq := grown_trans hgr'.out (grown_drew (World.grownBy.refl wr none))
            obtain ⟨c0, c1⟩ := HB.out _ hg2
            go_region_with (go_at_call 14; ((with_reducible refine (EP.out _ hg2).mono ?_); rintro e vv ⟨rfl, hgk⟩); clear c0 c1; replace hg2 := grown_trans hg2 hgk; replace hgq := grown_trans hgq hgk; replace z := hgk.cell z (by simp); obtain ⟨c0, c1⟩ := HB.out _ hg2; clear hgk)
            all_goals
              go_wp2_with fail
              go_roundw
              case rel => exact ⟨i + 1, ep, by omega, by omega, by go_num, rfl, hnx.out, hgq⟩
              case measure => simp [intOf]; omega
          · obtain rfl : i = K := by omega
            have hpe := hbe.out p (by rw [hK'.out]; exact hB'.out)
            have ET := HE.out t htn
            rw [← hpe] at ET
            have ET := Lib.hid ET
            have hpp : ((p : Int) == (p : Int)) = true := by simp
            clear hpe
            go_wp2_with fail
            refine (ET.out _ hg2).mono ?_; rintro e w6 ⟨rfl, hg6⟩
            go_wp2_with fail
            go_ret
            exact ⟨rfl, grown_below (grown_trans hg0'.out (grown_trans hg2 hg6))⟩
end Go.Proofs.Ythbdfibolgaapaa
