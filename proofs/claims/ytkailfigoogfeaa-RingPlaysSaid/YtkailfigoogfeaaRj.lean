/- RingPlays. -/
import Derived.Test.YtkailfigoogfeaaRi
import Derived.Outline
namespace Go.Proofs.Ytkailfigoogfeaa
open Go Go.RowKit
set_option maxRecDepth 100000 in
set_option maxHeartbeats 4000000 in
theorem RingPlays_walk (w : World) (A : Option Addr) (n c : Nat) (L : List (List Value)) (x : Int) (_wx : (Lit.int .i64 x).wf = true) (R : IsNodes w A n c L) (Ad : Option Addr) (nd cd : Nat) (D : List DV) (S : IsDocs w Ad nd cd D) (ver : Int) (_wv : (Lit.int .i64 ver).wf = true) :
    Calls Try.prog 4 #[.agg #[.slice A n c, .int .i64 x], .slice Ad nd cd, .int .i64 ver] w fun e w' => e = .returned (.bool true) ∧ Below w.heap.size w w' := by
  have hnc := R.len_
  obtain ⟨hRl, hRo, _⟩ := R.size_
  have hg0 := World.grownBy_alloc w (.cells #[.slice A n c, .int .i64 x] 24) none
  have b0 := Row.new w 24 #[.slice A n c, .int .i64 x]
  have CG := Lib.hid (great_any A n c L x (w.alloc (.cells #[.slice A n c, .int .i64 x] 24)) hRo hRl ((R.2.2.2.2.grown0 hg0).more hg0.size) (by omega))
  have hRr := Lib.hid (fun W (hg : w.grownBy W none) => (R.2.2.2.2.grown0 hg).more hg.size)
  have hSh := Lib.hid S
  have hsl := S.1
  have hb0 := Lib.hid b0
  have hg0' := Lib.hid hg0
  have hRo' := Lib.hid hRo
  have hRl' := Lib.hid hRl
  have c0 : (w.alloc (.cells #[.slice A n c, .int .i64 x] 24)).cell? ⟨w.heap.size, 0, none⟩ = some (.slice A n c) := b0.at 0
  have c1 : (w.alloc (.cells #[.slice A n c, .int .i64 x] 24)).cell? ⟨w.heap.size, 1, none⟩ = some (.int .i64 x) := b0.at 1
  clear R S b0 hg0 hRo hRl
  go_enter Try.func4, Try.ntmps4
  go_wp2_with fail
  refine CG.out.mono ?_; rintro e w1 ⟨bg, rfl, hbg, hg1⟩
  cases bg with
  | true =>
    go_wp2_with fail
    go_ret
    exact ⟨rfl, grown_below (grown_trans hg0'.out hg1)⟩
  | false =>
    have hn4 := hbg rfl
    clear hbg CG
    by_cases hd20 : 20 < nd
    · have d0 : decide ((20 : Int) < (nd : Int)) = true := by simp; omega
      go_wp2_with fail
      go_ret
      exact ⟨rfl, grown_below (grown_trans hg0'.out hg1)⟩
    · have d0 : decide ((20 : Int) < (nd : Int)) = false := by simp; omega
      have e0 := (hb0.out.kept0 hg1).at 0
      have e1 := (hb0.out.kept0 hg1).at 1
      simp only [List.getElem?_toArray, List.getElem?_cons_zero, List.getElem?_cons_succ] at e0 e1
      have CC := Lib.hid (copy_any A n c L x w1 _ hRo'.out hRl'.out (hRr.out _ (grown_trans hg0'.out hg1)) (by omega))
      clear c0 c1
      go_wp2_with fail
      refine CC.out.mono ?_; rintro e w2 ⟨A2, c2, rfl, hown2, hg2⟩
      have hgb := World.grownBy_alloc w2 (.cells #[.slice A2 n c2, .int .i64 x] 24) none
      have hgW := grown_trans hg0'.out (grown_trans hg1 (grown_trans hg2 hgb))
      have r7 := Row.new w2 24 #[.slice A2 n c2, .int .i64 x]
      have r3 := (hb0.out.kept0 hg1).kept0 (grown_trans hg2 hgb)
      have o2 := hown2.grown0 hgb
      go_upto_region 4 with fail
      generalize w2.alloc (.cells #[.slice A2 n c2, .int .i64 x] 24) = W3 at *
      generalize w2.heap.size = q7 at *
      have HB := Lib.hid (fun W (hg : W3.grownBy W none) => show (W.cell? ⟨q7, 0, none⟩ = some (.slice A2 n c2) ∧ W.cell? ⟨q7, 1, none⟩ = some (.int .i64 x)) ∧ (W.cell? ⟨w.heap.size, 0, none⟩ = some (.slice A n c) ∧ W.cell? ⟨w.heap.size, 1, none⟩ = some (.int .i64 x)) from ⟨⟨(r7.kept0 hg).at 0, (r7.kept0 hg).at 1⟩, (r3.kept0 hg).at 0, (r3.kept0 hg).at 1⟩)
      have ho2 := Lib.hid o2
      have hgW' := Lib.hid hgW
      have CN := Lib.hid (fun W (hg : W3.grownBy W none) => new_any W A2 n c2 L x hRo'.out hRl'.out (by omega) (ho2.out.grown0 hg).reads)
      have CM := Lib.hid (fun W (hg : W3.grownBy W none) => rnew_any A n c L x W hRo'.out hRl'.out (by omega) (hRr.out _ (grown_trans hgW'.out hg)))
      clear e0 e1 hg1 hg2 hgb hown2 r7 r3 o2 CC hgW hb0
      go_cut [8, 9] from 33 to 36 (fun p8 p9 wx => ∃ g g2, p8 = .pointer (some ⟨g, 0, none⟩) ∧ p9 = .pointer (some ⟨g2, 0, none⟩) ∧ RP w g g2 [(L, x)] wx ∧ W3.grownBy wx none)
      case first =>
        have hgq := grown_drew (World.grownBy.refl W3 none)
        obtain ⟨⟨q0, q1⟩, q2, q3⟩ := HB.out _ hgq
        go_region_with (first
          | (go_at_call 15; ((with_reducible refine (CN.out _ hgq).mono ?_); rintro e vv ⟨g, rfl, hR0, hgk⟩); clear q0 q1 q2 q3; have hsR := hgq.size; replace hgq := grown_trans hgq hgk; (try replace hD0 := hD0.grown0 hgk); obtain ⟨⟨q0, q1⟩, q2, q3⟩ := HB.out _ hgq; clear hgk)
          | (go_at_call 16; ((with_reducible refine (CM.out _ hgq).mono ?_); rintro e vv ⟨g2, dd, rfl, hdd, hD0, hgk⟩); clear q0 q1 q2 q3; have hsD := hgq.size; replace hgq := grown_trans hgq hgk; (try replace hR0 := hR0.grown0 hgk); obtain ⟨⟨q0, q1⟩, q2, q3⟩ := HB.out _ hgq; clear hgk))
        all_goals
          have hRP := Lib.hid (RP.made (grown_trans hgW'.out hgq) hR0 (Nat.le_trans hgW'.out.size hsR) hD0.more (Nat.le_trans hgW'.out.size hsD) hdd)
          have hgq' := Lib.hid hgq
          clear hR0 hD0 hsR hsD hdd CN CM q0 q1 q2 q3 hgq
          go_wp2_with fail
          go_meet
          exact ⟨_, _, rfl, rfl, hRP.out, hgq'.out⟩
      case rest =>
        obtain ⟨g, g2, rfl, rfl, hRP, hgq⟩ := hcut
        have hRP := Lib.hid hRP
        obtain ⟨⟨q0, q1⟩, q2, q3⟩ := HB.out _ hgq
        have CS := Lib.hid (same_self A2 n c2 L x A n c _ hRo'.out hRl'.out (ho2.out.grown0 hgq).reads (hRr.out _ (grown_trans hgW'.out hgq)) ⟨by omega, rfl⟩)
        clear CN CM ho2 hgq
        go_wp2_with fail
        refine CS.out.mono ?_; rintro e w5 ⟨rfl, hg5⟩
        have hRP5 := Lib.hid (hRP.out.grown0 hg5)
        clear q0 q1 q2 q3 HB CS hRP hg5 hRr hRo' hRl' hgW'
        go_upto_region 8 with fail
        go_loopw [10] (fun vi wr => ∃ (i : Nat) (its : List (List (List Value) × Int)), i ≤ nd + 1 ∧ vi = .int .i64 i ∧ its.length = max 1 i ∧ RP w g g2 its wr) (fun vi _ => nd + 1 - (intOf vi).toNat)
        case atStart => exact ⟨0, _, by omega, rfl, by simp, hRP5.out⟩
        case round =>
          obtain ⟨i, its, hi, rfl, hil, hP⟩ := hrel
          have hP := Lib.hid hP
          have hil' := Lib.hid hil
          clear hil
          by_cases hlt : i ≤ nd
          · go_upto_if 52 with fail
            go_cut [11, 12, 13, 14] from 51 to 82 (fun _ _ _ _ wx => ∃ its' : List (List (List Value) × Int), its'.length = i + 1 ∧ RP w g g2 its' wx)
            case first =>
              by_cases hi0 : i = 0
              · subst hi0
                go_wp2_with fail
                go_meet
                exact ⟨its, by have := hil'.out; omega, hP.out⟩
              · have h1i : 1 ≤ i := by omega
                have dpos : decide ((0 : Int) < (i : Int)) = true := by simp; omega
                obtain ⟨d, hd⟩ : ∃ d, D[i - 1]? = some d := ⟨_, List.getElem?_eq_getElem (by omega)⟩
                obtain ⟨hdN, hdw⟩ := hSh.out.2.2.2.1 d (List.mem_of_getElem? hd)
                obtain ⟨ad, rfl, k0, k1⟩ := hSh.out.at hP.out.1 hd
                rw [add_pos _ _ (by omega)] at k1
                have hdnc := hdN.len_
                obtain ⟨_, hdo, _⟩ := hdN.size_
                have hi1 : (0 : Int) ≤ (i : Int) - 1 := by omega
                have hi2 : (i : Int) - 1 < (nd : Int) := by omega
                have hi3 : ((i : Int) - 1).toNat = i - 1 := by omega
                obtain ⟨dA, dc, dL, dx⟩ := d
                dsimp only at *
                have gA := World.grownBy_alloc wr (.cells #[.slice dA dL.length dc, .int .i64 dx] 24) none
                have rA := Row.new wr 24 #[.slice dA dL.length dc, .int .i64 dx]
                have hdr := Lib.hid (fun W (hg : w.grownBy W none) => (hdN.2.2.2.2.grown0 hg).more hg.size)
                have hdo' := Lib.hid hdo
                have CGr := Lib.hid (great_any dA dL.length dc dL dx _ hdo'.out rfl (hdr.out _ (grown_trans hP.out.1 gA)) (by omega))
                have gA' := Lib.hid gA
                have rA' := Lib.hid rA
                clear hdN hdw hd hdo gA rA
                go_wp2_with fail
                refine CGr.out.mono ?_; rintro e wb ⟨bg2, rfl, hbg2, gB⟩
                clear CGr k0 k1
                cases bg2 with
                | true =>
                  go_wp2_with fail
                  go_ret
                  exact ⟨rfl, grown_below (grown_trans hP.out.1 (grown_trans gA'.out gB))⟩
                | false =>
                  have hd4 := hbg2 rfl
                  have gAB := Lib.hid (grown_trans gA'.out gB)
                  have rB := rA'.out.kept0 gB
                  have z0 := rB.two.1
                  have z1 := rB.two.2
                  have CCp := Lib.hid (copy_any dA dL.length dc dL dx wb _ hdo'.out rfl (hdr.out _ (grown_trans hP.out.1 gAB.out)) (by omega))
                  have rB' := Lib.hid rB
                  clear hbg2 rB rA' gB gA'
                  go_wp2_with fail
                  refine CCp.out.mono ?_; rintro e wc ⟨Am, cm, rfl, om, gC⟩
                  have gD := World.grownBy_alloc wc (.cells #[.slice Am dL.length cm, .int .i64 dx] 24) none
                  have rM := Row.new wc 24 #[.slice Am dL.length cm, .int .i64 dx]
                  have rX := rB'.out.kept0 (grown_trans gC gD)
                  have gAD := Lib.hid (grown_trans gAB.out (grown_trans gC gD))
                  have omD := om.grown0 gD
                  have CPu := Lib.hid (rp_push hP.out gAD.out (by have := hil'.out; omega) Am dL.length cm dL dx _ hdo'.out rfl (by omega) omD)
                  have hgl : g < wr.heap.size := by
                    obtain ⟨_, _, _, _, _, _, hR5, _⟩ := hP.out
                    exact hR5.lt
                  have hqX : wr.heap.size < wc.heap.size := by
                    have h1 := gAB.out.size
                    have h2 := gC.size
                    have h3 := rB'.out.lt
                    omega
                  have rX' := Lib.hid rX
                  have rM' := Lib.hid rM
                  clear z0 z1 CCp rB' gC gD omD om rX rM
                  go_upto_region 15 with fail
                  generalize wc.alloc (.cells #[.slice Am dL.length cm, .int .i64 dx] 24) = wd at *
                  generalize wc.heap.size = qM at *
                  have z4 := rM'.out.two.1
                  have z5 := rM'.out.two.2
                  go_wp2_with fail
                  refine CPu.out.mono ?_; rintro e wf ⟨rfl, hQ, gE, oE⟩
                  have rX2 := Lib.hid (rX'.out.keptNe gE (by omega))
                  have rM2 := Lib.hid (rM'.out.keptNe gE (by omega))
                  have gwf := hQ.1
                  have CQu := Lib.hid (rq_push hQ dA dL.length dc _ hdo'.out rfl (by omega) (hdr.out _ gwf))
                  have y0 := rX2.out.two.1
                  have y1 := rX2.out.two.2
                  have oE' := Lib.hid oE
                  have hne : (((its.length : Int) + 1) != ((its.length : Int) + 1)) = false := by simp
                  clear z4 z5 CPu hQ gE oE gwf rX' rM'
                  go_wp2_with fail
                  refine CQu.out.mono ?_; rintro e wg ⟨rfl, hP2, hPa⟩
                  have rX3 := hPa.row rX2.out (Nat.le_refl _)
                  have rM3 := hPa.row rM2.out (by omega)
                  have x0 := rX3.two.1
                  have x1 := rX3.two.2
                  have x2 := rM3.two.1
                  have x3 := rM3.two.2
                  have CSm := Lib.hid (same_self Am dL.length cm dL dx dA dL.length dc wg hdo'.out rfl (hPa.own oE'.out).reads (hdr.out _ hP2.1) ⟨by omega, rfl⟩)
                  have hP2' := Lib.hid hP2
                  clear y0 y1 CQu rX3 rM3 rX2 rM2 oE' hP2 hPa
                  go_wp2_with fail
                  refine CSm.out.mono ?_; rintro e wh ⟨rfl, gH⟩
                  have hP3 := Lib.hid (hP2'.out.grown0 gH)
                  clear x0 x1 x2 x3 CSm hP2' gH hne
                  go_wp2_with fail
                  go_meet
                  exact ⟨_, by rw [List.length_append]; have := hil'.out; simp; omega, hP3.out⟩
            case rest =>
              obtain ⟨its', hil2, hP2⟩ := hcut
              clear hP hil'
              have hil3 := Lib.hid hil2
              generalize its' = its at *
              have hP := Lib.hid hP2
              have hfo := firstOf_pos its.length (by omega)
              have hlen : its.length ≤ 30 := hP2.2.2.1
              clear hP2
              have CF := Lib.hid (rp_first hP.out)
              have CRF := Lib.hid (rp_rfirst hP.out)
              have CL := Lib.hid (rp_last hP.out)
              have CRL := Lib.hid (rp_rlast hP.out)
              have CRL2 := Lib.hid (fun W (h : RP w g g2 its W) => rp_rlast h)
              obtain ⟨ln, hln⟩ : ∃ k, k = its.length := ⟨_, rfl⟩
              obtain ⟨fo, hfo0⟩ : ∃ k, k = firstOf its.length := ⟨_, rfl⟩
              rw [← hfo0] at CF CRF hfo
              rw [← hln] at CL CRL CRL2 hfo hlen
              have hln' := Lib.hid hln
              have hfo' := Lib.hid hfo0
              have f1 : ((fo : Int) != (fo : Int)) = false := by simp
              have f2 : ((ln : Int) != (ln : Int)) = false := by simp
              clear hln hfo0 hil2
              go_wp2_with fail
              refine CF.out.mono ?_; rintro e wq ⟨rfl, rfl⟩
              go_wp2_with fail
              refine CRF.out.mono ?_; rintro e wq ⟨rfl, rfl⟩
              go_wp2_with fail
              refine CL.out.mono ?_; rintro e wq ⟨rfl, rfl⟩
              go_wp2_with fail
              refine CRL.out.mono ?_; rintro e wq ⟨rfl, rfl⟩
              go_wp2_with fail
              refine CRF.out.mono ?_; rintro e wq ⟨rfl, rfl⟩
              clear CF CRF CL CRL
              go_upto_region 21 with fail
              go_loopw [15] (fun v wr => ∃ u : Nat, u ≤ ln + 2 ∧ v = .int .i64 u ∧ RP w g g2 its wr) (fun v _ => ln + 2 - (intOf v).toNat)
              case atStart => exact ⟨fo - 1, by omega, congrArg (Value.int .i64) (by omega), hP.out⟩
              case round =>
                obtain ⟨u, hu, rfl, hP⟩ := hrel
                have CL := Lib.hid (CRL2.out _ hP)
                have hP := Lib.hid hP
                go_wp2_with fail
                refine CL.out.mono ?_; rintro e wq ⟨rfl, rfl⟩
                by_cases hul : u ≤ ln + 1
                · have d1 : decide ((u : Int) ≤ (ln : Int) + 1) = true := by simp; omega
                  clear CL
                  have CG1 := Lib.hid (rp_get hP.out (u : Int))
                  have hgot := Lib.hid (hP.out.got (u : Int))
                  obtain ⟨PL, hPL⟩ : ∃ P, P = gotD its (u : Int) := ⟨_, rfl⟩
                  obtain ⟨pe, hpe⟩ : ∃ e, e = gotE its (u : Int) := ⟨_, rfl⟩
                  rw [← hPL, ← hpe] at CG1
                  rw [← hPL] at hgot
                  have hpl := hgot.out.2
                  have hPL' := Lib.hid hPL
                  have hpe' := Lib.hid hpe
                  clear hPL hpe
                  go_wp2_with fail
                  refine CG1.out.mono ?_; rintro e wa ⟨Aa, ca, rfl, oa, ga⟩
                  have gb := World.grownBy_alloc wa (.cells #[.slice Aa PL.1.length ca, .int .i64 PL.2] 24) none
                  have ra := Row.new wa 24 #[.slice Aa PL.1.length ca, .int .i64 PL.2]
                  have hPb := Lib.hid (hP.out.grown0 (grown_trans ga gb))
                  have CG2 := rp_rget hPb.out (u : Int)
                  rw [← hPL'.out, ← hpe'.out] at CG2
                  have CG2 := Lib.hid CG2
                  have oa' := Lib.hid (oa.grown0 gb)
                  have ra' := Lib.hid ra
                  clear CG1 oa ga gb ra
                  go_wp2_with fail
                  refine CG2.out.mono ?_; rintro e wc ⟨Ac, cc, rfl, oc, gc⟩
                  have gd := World.grownBy_alloc wc (.cells #[.slice Ac PL.1.length cc, .int .i64 PL.2] 24) none
                  have rc := Row.new wc 24 #[.slice Ac PL.1.length cc, .int .i64 PL.2]
                  have rad := ra'.out.kept0 (grown_trans gc gd)
                  have z0 := rad.two.1
                  have z1 := rad.two.2
                  have z2 := rc.two.1
                  have z3 := rc.two.2
                  have CS := Lib.hid (same_self Aa PL.1.length ca PL.1 PL.2 Ac PL.1.length cc _ hgot.out.1 rfl (oa'.out.grown0 (grown_trans gc gd)).reads (oc.grown0 gd).reads ⟨hpl, rfl⟩)
                  have hPd := Lib.hid (hPb.out.grown0 (grown_trans gc gd))
                  have hee : (pe != pe) = false := by simp
                  clear CG2 oc gc gd rc rad ra' oa'
                  go_wp2_with fail
                  refine CS.out.mono ?_; rintro e we ⟨rfl, gf⟩
                  have hPn := Lib.hid (hPd.out.grown0 gf)
                  clear z0 z1 z2 z3 CS hee hPd hPb gf hgot hPL' hpe'
                  go_wp2_with fail
                  go_roundw
                  case rel => exact ⟨u + 1, by omega, by go_num, hPn.out⟩
                  case measure => simp [intOf]; omega
                · have d1 : decide ((u : Int) ≤ (ln : Int) + 1) = false := by simp; omega
                  clear CL
                  have CG1 := Lib.hid (rp_get hP.out ver)
                  have hgot := Lib.hid (hP.out.got ver)
                  obtain ⟨PL, hPL⟩ : ∃ P, P = gotD its ver := ⟨_, rfl⟩
                  obtain ⟨pe, hpe⟩ : ∃ e, e = gotE its ver := ⟨_, rfl⟩
                  rw [← hPL, ← hpe] at CG1
                  rw [← hPL] at hgot
                  have hpl := hgot.out.2
                  have hPL' := Lib.hid hPL
                  have hpe' := Lib.hid hpe
                  clear hPL hpe
                  go_wp2_with fail
                  refine CG1.out.mono ?_; rintro e wa ⟨Aa, ca, rfl, oa, ga⟩
                  have gb := World.grownBy_alloc wa (.cells #[.slice Aa PL.1.length ca, .int .i64 PL.2] 24) none
                  have ra := Row.new wa 24 #[.slice Aa PL.1.length ca, .int .i64 PL.2]
                  have hPb := Lib.hid (hP.out.grown0 (grown_trans ga gb))
                  have CG2 := rp_rget hPb.out ver
                  rw [← hPL'.out, ← hpe'.out] at CG2
                  have CG2 := Lib.hid CG2
                  have oa' := Lib.hid (oa.grown0 gb)
                  have ra' := Lib.hid ra
                  clear CG1 oa ga gb ra
                  go_wp2_with fail
                  refine CG2.out.mono ?_; rintro e wc ⟨Ac, cc, rfl, oc, gc⟩
                  have gd := World.grownBy_alloc wc (.cells #[.slice Ac PL.1.length cc, .int .i64 PL.2] 24) none
                  have rc := Row.new wc 24 #[.slice Ac PL.1.length cc, .int .i64 PL.2]
                  have rad := ra'.out.kept0 (grown_trans gc gd)
                  have z0 := rad.two.1
                  have z1 := rad.two.2
                  have z2 := rc.two.1
                  have z3 := rc.two.2
                  have CS := Lib.hid (same_self Aa PL.1.length ca PL.1 PL.2 Ac PL.1.length cc _ hgot.out.1 rfl (oa'.out.grown0 (grown_trans gc gd)).reads (oc.grown0 gd).reads ⟨hpl, rfl⟩)
                  have hPd := Lib.hid (hPb.out.grown0 (grown_trans gc gd))
                  have hee : (pe != pe) = false := by simp
                  clear CG2 oc gc gd rc rad ra' oa'
                  go_wp2_with fail
                  refine CS.out.mono ?_; rintro e we ⟨rfl, gf⟩
                  have hPn := Lib.hid (hPd.out.grown0 gf)
                  clear z0 z1 z2 z3 CS hee hPd hPb gf hgot hPL' hpe'
                  go_wp2_with fail
                  go_roundw
                  case rel => exact ⟨i + 1, its, by omega, by go_num, by have := hil3.out; omega, hPn.out⟩
                  case measure => simp [intOf]; omega
          · go_wp2_with fail
            go_ret
            exact ⟨rfl, grown_below hP.out.1⟩
end Go.Proofs.Ytkailfigoogfeaa
