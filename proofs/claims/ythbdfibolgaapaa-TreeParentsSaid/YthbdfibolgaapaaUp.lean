/- TreeParents. -/
import Derived.BigQuiet
import Derived.Deep.OwnRows
import Derived.Deep.RegionHeld3
import Derived.Test.YthbdfibolgaapaaUf
namespace Go.Proofs.Ythbdfibolgaapaa
open Go Go.RowKit
set_option maxRecDepth 100000 in
set_option maxHeartbeats 4000000 in
theorem TreeParents_walk (w : World) (A : Option Addr) (n c : Nat) (L : List (List Value)) (x : Int) (_wx : (Lit.int .i64 x).wf = true) (R : IsNodes w A n c L) :
    Calls Try.prog 3 #[.agg #[.slice A n c, .int .i64 x]] w fun e w' => e = .returned (.bool true) ∧ Below w.heap.size w w' := by
  have hnc := R.len_
  have hg0 := World.grownBy_alloc w (.cells #[.slice A n c, .int .i64 x] 24) none
  have b0 := Row.new w 24 #[.slice A n c, .int .i64 x]
  have CA := Lib.hid (awake_any (w.alloc (.cells #[.slice A n c, .int .i64 x] 24)))
  have CG := Lib.hid (fun W (hg : w.grownBy W none) => great_any A n c L x W (fun y hy => (R.2.2.2.1 y hy).2) R.1 ((R.2.2.2.2.grown0 hg).more hg.size) (by omega))
  have HB := Lib.hid (fun W (hg : (w.alloc (.cells #[.slice A n c, .int .i64 x] 24)).grownBy W none) => show W.cell? ⟨w.heap.size, 0, none⟩ = some (.slice A n c) ∧ W.cell? ⟨w.heap.size, 1, none⟩ = some (.int .i64 x) from ⟨(b0.kept0 hg).at 0, (b0.kept0 hg).at 1⟩)
  have hR := Lib.hid R
  have hg0' := Lib.hid hg0
  clear R b0 hg0
  go_enter Try.func3, Try.ntmps3
  go_wp2_with fail
  refine CA.out.mono ?_; rintro e w1 ⟨rfl, hg1⟩
  obtain ⟨c0, c1⟩ := HB.out _ hg1
  go_wp2_with fail
  refine (CG.out _ (grown_trans hg0'.out hg1)).mono ?_; rintro e w2 ⟨bg, rfl, hbg, hg2⟩
  replace hg2 := grown_trans hg1 hg2
  clear c0 c1 hg1
  obtain ⟨c0, c1⟩ := HB.out _ hg2
  cases bg with
  | true =>
    go_wp2_with fail
    go_ret
    exact ⟨rfl, grown_below (grown_trans hg0'.out hg2)⟩
  | false =>
    obtain ⟨hn, htot⟩ := hbg rfl
    clear hbg
    have hN := Lib.hid (fun W (hg : (w.alloc (.cells #[.slice A n c, .int .i64 x] 24)).grownBy W none) => (hR.out.at_ (by omega)).grow (grown_trans hg0'.out hg))
    have CM := Lib.hid (fun W (hg : (w.alloc (.cells #[.slice A n c, .int .i64 x] 24)).grownBy W none) => may_any A n c x L W (hN.out W hg) (fun i hi => by have := len_total (L := L) (i := i) (by rw [hR.out.1]; exact hi); omega))
    go_wp2_with fail
    refine (CM.out _ hg2).mono ?_; rintro e w3 ⟨⟨bm, rfl, hbm⟩, hg3⟩
    replace hg2 := grown_trans hg2 hg3
    clear c0 c1 hg3 CM CG CA
    obtain ⟨c0, c1⟩ := HB.out _ hg2
    cases bm with
    | false =>
      go_wp2_with fail
      go_ret
      exact ⟨rfl, grown_below (grown_trans hg0'.out hg2)⟩
    | true =>
      have hS := Lib.hid (hbm.1 rfl)
      clear hbm
      have hln := Lib.hid hR.out.1
      have hn1 : 1 ≤ n := by have := hS.out.1; rw [hln.out] at this; exact this
      have hst := Lib.hid (show Steps (dp L) n by have := hS.out.steps; rw [hln.out] at this; exact this)
      have hdp := Lib.hid (fun i (hi : i < n) => hS.out.dps i (by rw [hln.out]; exact hi))
      have HK := Lib.hid (fun t (ht : t < n) W (hg : (w.alloc (.cells #[.slice A n c, .int .i64 x] 24)).grownBy W none) => kids_in A n c x t L W (hN.out W hg) ht hdp.out)
      have HE := Lib.hid (fun W (hg : (w.alloc (.cells #[.slice A n c, .int .i64 x] 24)).grownBy W none) => show Calls Try.prog 14 #[.agg #[.slice A n c, .int .i64 x], .int .i64 0] W fun e w' => e = .returned (.int .i64 (n : Int)) ∧ W.grownBy w' none from by
        have := end_in A n c x 0 L W (hN.out W hg) hn1
        rw [end_root hst.out hn1] at this
        exact this)
      have HP := Lib.hid (fun t (ht : t < n) W (hg : (w.alloc (.cells #[.slice A n c, .int .i64 x] 24)).grownBy W none) => parent_in A n c x t L W (hN.out W hg) ht hnc.1 (by have := hnc.2; omega) hdp.out)
      have HF := Lib.hid (fun t (ht : t < n) W (hg : (w.alloc (.cells #[.slice A n c, .int .i64 x] 24)).grownBy W none) => show Calls Try.prog 13 #[.agg #[.slice A n c, .int .i64 x], .int .i64 (keyN (nd L t))] W fun e w' => e = .returned (.int .i64 (t : Int)) ∧ W.grownBy w' none from by
        have := find_any A n c L x (keyN (nd L t)) W _ (hN.out W hg)
        rw [hS.out.findKey (by rw [hln.out]; exact ht)] at this
        exact this)
      have hmk : ∀ W : World, (Instr.makeSlice 27 (.int .i64 (n : Int)) (.int .i64 (n : Int))).run Try.prog W = .ok (.slice (some ⟨W.heap.size, 0, none⟩) n n) (W.alloc (.cells (madeCells #[.int .i64 0] n) 3)) := fun W => run_make_row' 27 3 _ 8 Try.underlying27 infoI rfl .i64 .i64 n (by omega) (by omega) W
      go_upto_region 7 with fail
      have hW1 := Lib.hid ((Wh.new w3 n).congr (f' := fun j => if j < 0 then -1 else 0) (fun j _ => by simp))
      have hg3 := Lib.hid (grown_trans hg2 (World.grownBy_alloc w3 (.cells (madeCells #[.int .i64 0] n) 3) none))
      have hgw := hg2.size
      clear hg2 c0 c1 hmk
      generalize w3.heap.size = gw at *
      go_loopw [4] (fun v wr => ∃ k : Nat, k ≤ n ∧ v = .int .i64 k ∧ Wh wr gw n (fun j => if j < k then -1 else 0) ∧ (w.alloc (.cells #[.slice A n c, .int .i64 x] 24)).grownBy wr none) (fun v _ => n - (intOf v).toNat)
      case atStart => exact ⟨0, by omega, rfl, hW1.out, hg3.out⟩
      case round =>
        obtain ⟨k, hk, rfl, hW, hgr⟩ := hrel
        obtain ⟨c0, c1⟩ := HB.out _ hgr
        by_cases hlt : k < n
        · have z1 := hW.cell hlt
          have z2 := hW.frozen k
          have hNew := Lib.hid (hW.set (f' := fun j => if j < k + 1 then -1 else 0) k (-1) (fun j hj => by
            by_cases e : j = k
            · simp [e]
            · simp only [e, if_false]
              by_cases e2 : j < k
              · rw [if_pos e2, if_pos (by omega)]
              · rw [if_neg e2, if_neg (by omega)]))
          have hgN := Lib.hid (grown_put hgr hgw k (.int .i64 (-1)))
          clear hW hgr
          go_wp2_with fail
          go_roundw
          case rel => exact ⟨k + 1, by omega, by go_num, hNew.out, hgN.out⟩
          case measure => simp [intOf]; omega
        · have hW2 := Lib.hid (hW.congr (f' := owns (parentN (dp L)) 0 []) (fun j hj => by rw [owns_zero parent_ge, if_pos (by omega)]))
          have hg4 := Lib.hid hgr
          obtain ⟨wo, rfl⟩ : ∃ wo : World, wo = wr := ⟨_, rfl⟩
          clear hW hgr hW1 hg3
          go_upto_region 11 with fail
          clear c0 c1
          go_loopw [5, 6, 7] (fun v _ _ wr => ∃ i : Nat, i ≤ n ∧ v = .int .i64 i ∧ Wh wr gw n (owns (parentN (dp L)) i []) ∧ (w.alloc (.cells #[.slice A n c, .int .i64 x] 24)).grownBy wr none) (fun v _ _ _ => n - (intOf v).toNat)
          case atStart => exact ⟨0, by omega, rfl, hW2.out, hg4.out⟩
          case round =>
            obtain ⟨i, hi, rfl, hW, hgr⟩ := hrel
            obtain ⟨c0, c1⟩ := HB.out _ hgr
            by_cases hlt : i < n
            · have hW' := Lib.hid hW
              clear hW
              go_wp2_with fail
              refine (HK.out i hlt _ hgr).mono ?_; rintro e w4 ⟨A', c', rfl, hown, hg4k⟩
              have hgK := Lib.hid (grown_trans hgr hg4k)
              have hW4 := Lib.hid (hW'.out.grown0 hg4k)
              clear c0 c1
              obtain ⟨gk, hA, hI⟩ := ints_of hown
              have hgk : wr.heap.size ≤ gk ∨ (kidsN (dp L) n i).length = 0 := by
                rcases Nat.eq_zero_or_pos (kidsN (dp L) n i).length with h | h
                · exact .inr h
                · exact .inl (hA h).2
              have hgl := hW'.out.lt
              have hmem := Lib.hid (fun j (hj : j < n) => kid_parent hst.out hj hlt)
              have hin := Lib.hid (fun k q (hq : (kidsN (dp L) n i)[k]? = some q) => show i < q ∧ q < n from by
                have h1 := (mem_kids hlt).1 (List.mem_of_getElem? hq)
                have h2 := endN_le (d := dp L) hlt
                omega)
              have hsort := Lib.hid (kids_sorted (d := dp L) (n := n) (i := i))
              have hbox := Lib.hid (fun h => hS.out.kid_box (i := i) (by rw [hln.out]; exact hlt) (by rw [hln.out]; exact h))
              have hI' := Lib.hid hI
              have hA' := Lib.hid hA
              clear hown hg4k hgr hI hA hW'
              have hKn : (kidsN (dp L) n i).length ≤ n := by
                unfold kidsN
                have h1 := List.length_filter_le (fun j => decide (dp L j = dp L i + 1)) (List.range' (i + 1) (endN (dp L) n i - (i + 1)))
                have h2 := endN_le (d := dp L) (n := n) hlt
                rw [List.length_range'] at h1
                omega
              generalize kidsN (dp L) n i = kl at *
              obtain ⟨K, hK⟩ : ∃ K, kl.length = K := ⟨_, rfl⟩
              have hKl := Lib.hid hK
              rw [hK] at hgk hKn
              simp only [hK]
              clear hK
              obtain ⟨c0, c1⟩ := HB.out _ hgK.out
              obtain ⟨ad, rfl, _⟩ := (hN.out _ hgK.out).some_ hlt
              have zk := (hN.out _ hgK.out).kind_ hlt
              rcases Nat.eq_zero_or_pos K with hK0 | hK0
              focus
                have d0 : decide (0 < K) = false := decide_eq_false (by omega)
                have hK0' := Lib.hid hK0
                clear hK0
                go_upto_region 17 with fail
                clear hK0'
              rotate_left
              focus
                have d0 : decide (0 < K) = true := decide_eq_true hK0
                rw [hbox.out (fun e => by rw [← hKl.out, e] at hK0; simp at hK0)] at zk
                have hK0' := Lib.hid hK0
                clear hK0
                go_upto_region 17 with fail
                clear hK0'
              all_goals
                obtain ⟨wq, rfl⟩ : ∃ wq : World, wq = wr := ⟨_, rfl⟩
                clear c0 c1 zk d0
                go_loopw [7] (fun v wr => ∃ k : Nat, k ≤ K ∧ v = .int .i64 k ∧ Wh wr gw n (owns (parentN (dp L)) i (kl.take k)) ∧ Ints wr gk kl ∧ (w.alloc (.cells #[.slice (some ad) n c, .int .i64 x] 24)).grownBy wr none) (fun v _ => K - (intOf v).toNat)
                case atStart => exact ⟨0, by omega, rfl, hW4.out, hI'.out, hgK.out⟩
                case round =>
                  obtain ⟨k, hk, rfl, hW, hI, hgr⟩ := hrel
                  obtain ⟨c0, c1⟩ := HB.out _ hgr
                  by_cases hltk : k < K
                  · obtain rfl := (hA'.out (by rw [hKl.out]; omega)).1
                    obtain ⟨q, hq⟩ : ∃ q, kl[k]? = some q := ⟨_, List.getElem?_eq_getElem (by rw [hKl.out]; exact hltk)⟩
                    obtain ⟨hq1, hq2⟩ := hin.out k q hq
                    have z1 := hI k q hq
                    have z2 := hW.cell hq2
                    have z3 := hW.frozen q
                    rw [owns_fresh hmem.out hsort.out hq hq2] at z2
                    have e1 : decide (q ≤ i) = false := decide_eq_false (by omega)
                    have e2 : decide (n ≤ q) = false := decide_eq_false (by omega)
                    have hq' := Lib.hid hq
                    have hW' := Lib.hid hW
                    have hI2 := Lib.hid hI
                    have hgr' := Lib.hid hgr
                    clear hq hW hgr
                    obtain _ | m := k
                    · clear hI
                      go_upto_region 19 with fail
                      go_quiet (fail)
                      go_wp2_with fail
                      go_roundw
                      case rel => exact ⟨1, by omega, by go_num, (hW'.out.grown0 (grown_drewN (World.grownBy.refl _ none) _)).set q i (fun j hj => owns_step hmem.out hq'.out hj), (hI2.out.grown0 (grown_drewN (World.grownBy.refl _ none) _)).set (by omega) _ _, grown_put (grown_drewN hgr'.out _) hgw _ _⟩
                      case measure => simp [intOf]; omega
                    · obtain ⟨q', hq2'⟩ : ∃ q', kl[m]? = some q' := ⟨_, List.getElem?_eq_getElem (by rw [hKl.out]; omega)⟩
                      have z4 := hI m q' hq2'
                      have hlt2 := kids_rise hsort.out hq2' hq'.out
                      have e3 : decide (q ≤ q') = false := decide_eq_false (by omega)
                      clear hI hq2'
                      go_upto_region 19 with fail
                      go_quiet (fail)
                      go_wp2_with fail
                      go_roundw
                      case rel => exact ⟨m + 2, by omega, by go_num, (hW'.out.grown0 (grown_drewN (World.grownBy.refl _ none) _)).set q i (fun j hj => owns_step hmem.out hq'.out hj), (hI2.out.grown0 (grown_drewN (World.grownBy.refl _ none) _)).set (by omega) _ _, grown_put (grown_drewN hgr'.out _) hgw _ _⟩
                      case measure => simp [intOf]; omega
                  · have hW9 := Lib.hid (hW.congr (f' := owns (parentN (dp L)) (i + 1) []) (fun j hj => by
                      rw [List.take_of_length_le (by rw [hKl.out]; omega)]
                      exact owns_next hmem.out hj))
                    have hgr' := Lib.hid hgr
                    clear hW hgr hI
                    go_wp2_with fail
                    go_roundw
                    case rel => exact ⟨i + 1, by omega, by go_num, hW9.out, hgr'.out⟩
                    case measure => simp [intOf]; omega
            · have hW5 := Lib.hid (hW.congr (f' := parentN (dp L)) (fun j hj => by
                rw [show i = n by omega]
                exact (owns_last parent_lt hj).symm))
              have hg5 := Lib.hid hgr
              clear hW hgr hW2 hg4
              obtain ⟨wp, rfl⟩ : ∃ wp : World, wp = wr := ⟨_, rfl⟩
              go_upto_region 23 with fail
              clear c0 c1
              go_loopw [8] (fun v wr => ∃ i : Nat, i ≤ n ∧ v = .int .i64 i ∧ Wh wr gw n (parentN (dp L)) ∧ (w.alloc (.cells #[.slice A n c, .int .i64 x] 24)).grownBy wr none) (fun v _ => n - (intOf v).toNat)
              case atStart => exact ⟨0, by omega, rfl, hW5.out, hg5.out⟩
              case round =>
                obtain ⟨t, ht, rfl, hW, hgr⟩ := hrel
                obtain ⟨c0, c1⟩ := HB.out _ hgr
                by_cases hlt2 : t < n
                · have z1 := hW.cell hlt2
                  obtain ⟨ad, rfl, _⟩ := (hN.out _ hgr).some_ hlt2
                  have zk := (hN.out _ hgr).key_ hlt2
                  have PP := Lib.hid (HP.out t hlt2)
                  have PF := Lib.hid (HF.out t hlt2)
                  have hpn : parentN (dp L) t = -1 ↔ t = 0 := parent_none hst.out hlt2
                  have hW' := Lib.hid hW
                  have hgr' := Lib.hid hgr
                  clear hW HK
                  generalize parentN (dp L) t = p at *
                  generalize keyN (nd L t) = key at *
                  have hnp : (p != p) = false := by simp
                  have hntt : ((t : Int) != (t : Int)) = false := by simp
                  go_upto_region 25 with fail
                  clear c0 c1
                  replace hgr := grown_trans hgr (grown_drew (World.grownBy.refl _ none))
                  replace z1 := (grown_drew (World.grownBy.refl wr none)).cell z1 (by simp)
                  replace zk := (grown_drew (World.grownBy.refl wr none)).cell zk (by simp)
                  have hgq := grown_drew (World.grownBy.refl wr none)
                  obtain ⟨c0, c1⟩ := HB.out _ hgr
                  by_cases ht0 : t = 0
                  · obtain rfl : p = -1 := hpn.2 ht0
                    have b1 : (((-1 : Int)) == -1) = true := by simp
                    have b2 : ((t : Int) == 0) = true := by simp [ht0]
                    have ht0' := Lib.hid ht0
                    clear hpn ht0
                    go_region_held3 (fun w' => (w'.cell? ⟨w.heap.size, 0, none⟩ = some (.slice (some ad) n c) ∧ w'.cell? ⟨w.heap.size, 1, none⟩ = some (.int .i64 x)) ∧ w'.cell? ⟨gw, t, none⟩ = some (.int .i64 (-1)) ∧ w'.cell? (ad.add (t * 51)) = some (.int .i64 key)) (first | exact ⟨⟨c0, c1⟩, z1, zk⟩ | go_keep) (first
                      | (go_at_call 12; ((with_reducible refine (PP.out _ hgr).mono ?_); rintro e vv ⟨rfl, hgk⟩); clear c0 c1; replace hgr := grown_trans hgr hgk; replace hgq := grown_trans hgq hgk; replace z1 := hgk.cell z1 (by simp); replace zk := hgk.cell zk (by simp); obtain ⟨c0, c1⟩ := HB.out _ hgr; clear hgk)
                      | (go_at_call 13; ((with_reducible refine (PF.out _ hgr).mono ?_); rintro e vv ⟨rfl, hgk⟩); clear c0 c1; replace hgr := grown_trans hgr hgk; replace hgq := grown_trans hgq hgk; replace z1 := hgk.cell z1 (by simp); replace zk := hgk.cell zk (by simp); obtain ⟨c0, c1⟩ := HB.out _ hgr; clear hgk))
                    all_goals
                      go_wp2_with fail
                      go_roundw
                      case rel => exact ⟨t + 1, by omega, by go_num, hW'.out.grown0 hgq, hgr⟩
                      case measure => simp [intOf]; omega
                  · have b1 : (p == -1) = false := by
                      simp only [beq_eq_false_iff_ne]
                      exact fun e => ht0 (hpn.1 e)
                    have b2 : ((t : Int) == 0) = false := by simp [ht0]
                    have ht0' := Lib.hid ht0
                    clear hpn ht0
                    go_region_held3 (fun w' => (w'.cell? ⟨w.heap.size, 0, none⟩ = some (.slice (some ad) n c) ∧ w'.cell? ⟨w.heap.size, 1, none⟩ = some (.int .i64 x)) ∧ w'.cell? ⟨gw, t, none⟩ = some (.int .i64 p) ∧ w'.cell? (ad.add (t * 51)) = some (.int .i64 key)) (first | exact ⟨⟨c0, c1⟩, z1, zk⟩ | go_keep) (first
                      | (go_at_call 12; ((with_reducible refine (PP.out _ hgr).mono ?_); rintro e vv ⟨rfl, hgk⟩); clear c0 c1; replace hgr := grown_trans hgr hgk; replace hgq := grown_trans hgq hgk; replace z1 := hgk.cell z1 (by simp); replace zk := hgk.cell zk (by simp); obtain ⟨c0, c1⟩ := HB.out _ hgr; clear hgk)
                      | (go_at_call 13; ((with_reducible refine (PF.out _ hgr).mono ?_); rintro e vv ⟨rfl, hgk⟩); clear c0 c1; replace hgr := grown_trans hgr hgk; replace hgq := grown_trans hgq hgk; replace z1 := hgk.cell z1 (by simp); replace zk := hgk.cell zk (by simp); obtain ⟨c0, c1⟩ := HB.out _ hgr; clear hgk))
                    all_goals
                      go_wp2_with fail
                      go_roundw
                      case rel => exact ⟨t + 1, by omega, by go_num, hW'.out.grown0 hgq, hgr⟩
                      case measure => simp [intOf]; omega
                · clear HK HP HF hW
                  go_upto_region 27 with fail
                  clear c0 c1
                  replace hgr := grown_trans hgr (grown_drew (World.grownBy.refl _ none))
                  obtain ⟨c0, c1⟩ := HB.out _ hgr
                  go_region_with (go_at_call 14; ((with_reducible refine (HE.out _ hgr).mono ?_); rintro e vv ⟨rfl, hgk⟩); clear c0 c1; replace hgr := grown_trans hgr hgk; obtain ⟨c0, c1⟩ := HB.out _ hgr; clear hgk)
                  all_goals
                    have hnn : ((n : Int) == (n : Int)) = true := by simp
                    go_wp2_with fail
                    go_ret
                    exact ⟨rfl, grown_below (grown_trans hg0'.out hgr)⟩
end Go.Proofs.Ythbdfibolgaapaa
