/- The mutations: whether a document may be. -/
import Derived.Test.YtjnbfgogmhfbiaaVl
import Derived.Deep.CutBlock
namespace Go.Proofs.Ytjnbfgogmhfbiaa
open Go Go.RowKit
def flexCells (F : Nat → Int) : Array Value := ((List.range 17).map fun j => (.int .i64 (F j) : Value)).toArray
theorem flexCells_size (F : Nat → Int) : (flexCells F).size = 17 := by simp [flexCells]
theorem flexCells_get (F : Nat → Int) {j : Nat} (hj : j < 17) : (flexCells F)[j]? = some (.int .i64 (F j)) := by
  simp [flexCells, hj]
theorem flexCells_set (F : Nat → Int) {j : Nat} (hj : j < 17) (v : Int) : (flexCells F).setIfInBounds j (.int .i64 v) = flexCells (fun k => if k = j then v else F k) := by
  apply Array.ext_getElem?
  intro t
  rw [Array.getElem?_setIfInBounds]
  by_cases h : j = t
  · subst h
    rw [if_pos rfl, if_pos (by rw [flexCells_size]; exact hj), flexCells_get _ hj]
    simp
  · rw [if_neg h]
    by_cases ht : t < 17
    · rw [flexCells_get _ ht, flexCells_get _ ht, if_neg (Ne.symm h)]
    · rw [Array.getElem?_eq_none (by rw [flexCells_size]; omega), Array.getElem?_eq_none (by rw [flexCells_size]; omega)]
theorem bigF : Big Try.prog 59 17 (flexCells fun _ => 0) := ⟨⟨_, Try.underlying59, rfl⟩, by kernel_rfl, by kernel_rfl⟩
theorem n_disp {x : List Value} (hx : OkAll nodeLs x) : x[3]? = some (.int .u8 (disp x)) ∧ 0 ≤ disp x ∧ disp x ≤ 255 := by
  obtain ⟨v, h1, n, rfl, h2⟩ := hx.get (i := 3) (l := .int .u8) rfl
  have hd : disp x = n := by unfold disp intAt; rw [h1]
  rw [hd]
  exact ⟨h1, by simpa [Lit.wf, IntKind.min, IntKind.max, IntKind.signed, IntKind.bits] using h2⟩
/-- The state between two rounds. -/
structure FlexSt (w wr : World) (L : List (List Value)) (dv : Array Value) (q k : Nat) (F : Nat → Int) : Prop where
  same : flexGo (fun _ => 0) L = flexGo F (L.drop k)
  small : ∀ j, -6 ≤ F j ∧ F j ≤ 6
  doc : Row wr w.heap.size 24 dv
  flex : Row wr q 59 (flexCells F)
  grown : w.grownBy wr none
theorem flexGo_drop {L : List (List Value)} {F : Nat → Int} {k : Nat} (hk : k < L.length) : flexGo F (L.drop k) = (!flexBad F (nd L k) && flexGo (flexNext F (nd L k)) (L.drop (k + 1))) := by
  have h := nd_get hk
  rw [List.drop_eq_getElem_cons hk]
  unfold nd
  rw [List.getElem?_eq_getElem hk]
  rfl
theorem FlexSt.next {w wr W3 : World} {L : List (List Value)} {dv : Array Value} {q k dn : Nat} {F : Nat → Int} {v : Int} (h : FlexSt w wr L dv q k F) (hk : k < L.length) (hb : flexBad F (nd L k) = false)
    (hd : (depN (nd L k)).toNat = dn) (hv : flexVal F (nd L k) = v) (hdoc : Row W3 w.heap.size 24 dv) (hf : Row W3 q 59 (flexCells fun j => if j = dn + 1 then v else F j)) (hg : w.grownBy W3 none) :
    FlexSt w W3 L dv q (k + 1) (flexNext F (nd L k)) := by
  have hn : flexNext F (nd L k) = fun j => if j = dn + 1 then v else F j := by unfold flexNext; rw [hd, hv]
  refine ⟨h.same.trans (by rw [flexGo_drop hk, hb]; rfl), fun j => ?_, hdoc, by rw [hn]; exact hf, hg⟩
  rw [hn]
  dsimp only
  split
  · rw [← hv]
    have h6 := h.small (depN (nd L k)).toNat
    unfold flexBad at hb
    simp only [Bool.or_eq_false_iff, Bool.and_eq_false_iff, decide_eq_false_iff_not] at hb
    have hb3 := hb.2.2
    unfold flexVal absI
    unfold absI at hb3
    split
    · rename_i hfl
      rw [hfl] at hb3
      rcases hb3 with h1 | h1
      · cases h1
      · omega
    · omega
  · exact h.small j
theorem isFlex_text {y : List Value} (h : kindN y = 1) : isFlex y = false := by unfold isFlex; rw [h]; rfl
theorem isFlex_no {y : List Value} (h : disp y ≠ 2) : isFlex y = false := by unfold isFlex; simp [h]
theorem isFlex_yes {y : List Value} (h : kindN y = 0) (h2 : disp y = 2) : isFlex y = true := by unfold isFlex; rw [h, h2]; rfl
set_option maxRecDepth 100000 in
set_option maxHeartbeats 4000000 in
theorem may7_any (A : Option Addr) (n c : Nat) (x : Int) (L : List (List Value)) (w : World) (hN : NodesAt w w.heap.size A n L) (hsm : ∀ i, i < n → lenN (nd L i) ≤ 5000) :
    Calls Try.prog 11 #[.agg #[.slice A n c, .int .i64 x]] w fun e w' => Tells (MayL L x) e ∧ w.grownBy w' none := by
  have hn := hN.few
  have hlen := hN.len
  have hg0 := World.grownBy_alloc w (.cells #[.slice A n c, .int .i64 x] 24) none
  have b0 := Row.new w 24 #[.slice A n c, .int .i64 x]
  have CT := Lib.hid (may_any A n c x L _ (hN.grow hg0) hsm)
  have b0' := Lib.hid b0
  have hg0' := Lib.hid hg0
  have c0 : (w.alloc (.cells #[.slice A n c, .int .i64 x] 24)).cell? ⟨w.heap.size, 0, none⟩ = some (.slice A n c) := b0.at 0
  have c1 : (w.alloc (.cells #[.slice A n c, .int .i64 x] 24)).cell? ⟨w.heap.size, 1, none⟩ = some (.int .i64 x) := b0.at 1
  have hNh := Lib.hid hN
  have hlen' := Lib.hid hlen
  clear hN b0 hg0 hsm hlen
  go_enter Try.func11, Try.ntmps11
  go_wp2_with fail
  refine CT.out.mono ?_; rintro r w1 ⟨⟨b, rfl, hb⟩, hg1⟩
  clear c0 c1 CT
  have b1 := b0'.out.kept0 hg1
  have hq17 := hg1.size
  rw [World.size_alloc] at hq17
  replace hg1 := grown_trans hg0'.out hg1
  cases b with
  | false =>
    have hno : ¬ MayL L x := fun h => by have := hb.2 h.1; cases this
    have hno' := Lib.hid hno
    clear hno hb b1
    go_wp2_with fail
    go_ret
    exact ⟨.no hno'.out, hg1⟩
  | true =>
    have hS := hb.1 rfl
    have hS' := Lib.hid hS
    have hMay := Lib.hid (show MayL L x ↔ flexGo (fun _ => 0) L = true from ⟨fun h => h.2, fun h => ⟨hS, h⟩⟩)
    have c0 : w1.cell? ⟨w.heap.size, 0, none⟩ = some (.slice A n c) := b1.at 0
    have hga := World.grownBy_alloc w1 (.cells (flexCells fun _ => 0) 59) none
    have b2 := b1.kept0 hga
    have c0' : (w1.alloc (.cells (flexCells fun _ => 0) 59)).cell? ⟨w.heap.size, 0, none⟩ = some (.slice A n c) := b2.at 0
    have hst := Lib.hid (show FlexSt w (w1.alloc (.cells (flexCells fun _ => 0) 59)) L #[.slice A n c, .int .i64 x] w1.heap.size 0 (fun _ => 0) from
      ⟨by rw [List.drop_zero], fun j => by omega, b2, Row.new _ _ _, grown_trans hg1 hga⟩)
    clear hb b1 b2 hga hg1 hS
    go_wp2_with (refine wpList_value rfl (exec_alloc_row bigF rfl w1) ?_; simp only [Act.put, List.setIfInBounds_toArray, List.set_cons_zero, List.set_cons_succ])
    generalize w1.alloc (.cells (flexCells fun _ => 0) 59) = W1 at *
    generalize w1.heap.size = q at *
    go_loopw [14] (fun vi wr => ∃ (k : Nat) (F : Nat → Int), k ≤ n ∧ vi = .int .i64 k ∧ FlexSt w wr L #[.slice A n c, .int .i64 x] q k F) (fun vi _ => n - (intOf vi).toNat)
    case atStart => exact ⟨0, _, by omega, rfl, hst.out⟩
    case round =>
      obtain ⟨k, F, hk, rfl, hR⟩ := hrel
      clear c0 c0' hst
      have hR' := Lib.hid hR
      by_cases hlt : k < n
      · have hN := hNh.out.grown0 hR.grown
        obtain ⟨ad, rfl, _⟩ := hN.some_ hlt
        have hld := Lib.hid (hN.load hlt)
        have hok := Lib.hid (hNh.out.nd_ok hlt)
        have hone := Lib.hid (okAll_one hok.out)
        have hsz := Lib.hid (show (nd L k).toArray.size = 51 by rw [List.size_toArray]; exact hok.out.len)
        clear hN hR
        go_upto_region 7 with (first
          | (refine wpList_value_w rfl (exec_load rfl rfl hld.out) ?_; simp only [Act.put, List.setIfInBounds_toArray, List.set_cons_zero, List.set_cons_succ])
          | (refine wpList_fresh bigN rfl rfl rfl rfl _ _ rfl (nd L k).toArray hsz.out (by have := hone.out; simpa using this) rfl rfl ?_; intro W2 hg2 hr2; simp only [Act.put, List.setIfInBounds_toArray, List.set_cons_zero, List.set_cons_succ]))
        have hlk : k < L.length := by have := hlen'.out; omega
        have hgood := hS'.out.2.2.2.1 k hlk
        obtain ⟨dn, hdn⟩ := Int.eq_ofNat_of_zero_le hgood.1.2.2.1
        have hd16 : dn < 16 := by have := hgood.1.2.2.2.1; omega
        have hkinds := hgood.1.2.2.2.2
        obtain ⟨q7, hq7⟩ : ∃ q, q = wr.heap.size := ⟨_, rfl⟩
        rw [← hq7] at hr2 ⊢
        obtain ⟨_, z1, z2, _⟩ := row_node hr2 hok.out
        have z3 : W2.cell? ⟨q7, 3, none⟩ = some (.int .u8 (disp (nd L k))) := (hr2.at 3).trans (by simpa using (n_disp hok.out).1)
        have hdq2 := Lib.hid (show w.heap.size ≠ q ∧ w.heap.size ≤ q by omega)
        have rF := hR'.out.flex.kept0 hg2
        have zF : W2.cell? ⟨q, dn, none⟩ = some (.int .i64 (F dn)) := (rF.at dn).trans (flexCells_get F (by omega))
        have zd : W2.cell? ⟨q, dn + 1, none⟩ = some (.int .i64 (F (dn + 1))) := (rF.at (dn + 1)).trans (flexCells_get F (by omega))
        have zf := rF.free (dn + 1)
        rw [hdn] at z1
        obtain ⟨u, hu⟩ : ∃ u, u = F dn := ⟨_, rfl⟩
        have hub := hR'.out.small dn
        rw [← hu] at zF hub
        have hdnN : (depN (nd L k)).toNat = dn := by rw [hdn]; rfl
        have hdnN' := Lib.hid hdnN
        have hbad := Lib.hid (show flexBad F (nd L k) = ((decide (kindN (nd L k) = 0) && !styB (nd L k)) || ((decide (kindN (nd L k) = 1) && decide (u < 0)) || (isFlex (nd L k) && decide (6 ≤ absI u)))) by unfold flexBad; rw [hdnN, ← hu])
        have hval := Lib.hid (show flexVal F (nd L k) = if isFlex (nd L k) then -(absI u + 1) else absI u by unfold flexVal; rw [hdnN, ← hu])
        have hno := Lib.hid (fun (h : flexBad F (nd L k) = true) => show ¬ MayL L x from fun hm => by
          have h1 := hMay.out.1 hm
          rw [hR'.out.same, flexGo_drop hlk, h] at h1
          cases h1)
        have hr2' := Lib.hid hr2
        have hg2' := Lib.hid (grown_trans hR'.out.grown hg2)
        have rF' := Lib.hid rF
        have hqq := Lib.hid (show q7 ≠ q by have := hR'.out.flex.lt; omega)
        have hneq := Lib.hid hdq2.out
        have rD' := Lib.hid (hR'.out.doc.kept0 hg2)
        have hlk' := Lib.hid hlk
        clear hgood hdn hu hdnN hr2 hg2 rF hq7 hlk
        have i1 : (0 : Int) ≤ (dn : Int) := by omega
        have i2 : (dn : Int) < 17 := by omega
        have i3 : (0 : Int) ≤ (dn : Int) + 1 := by omega
        have i4 : (dn : Int) + 1 < 17 := by omega
        have hfin := Lib.hid (fun (v : Int) (hb : flexBad F (nd L k) = false) (hv : flexVal F (nd L k) = v) => show FlexSt w (W2.setCell ⟨q, dn + 1, none⟩ (.int .i64 v)) L #[.slice (some ad) n c, .int .i64 x] q (k + 1) (flexNext F (nd L k)) from by
          have h1 := rF'.out.set (dn + 1) (.int .i64 v)
          rw [flexCells_set F (by omega)] at h1
          exact hR'.out.next hlk'.out hb hdnN'.out hv (rD'.out.keptNe (grownBy_setCell _ _ _ _) hneq.out.1) h1 (grown_put hg2'.out hneq.out.2 _ _))
        rcases hkinds with ⟨hk0, _⟩ | ⟨hk1, _⟩
        · rw [hk0] at z2
          have hk0' := Lib.hid hk0
          clear hk0
          by_cases hdi : disp (nd L k) = 2
          · have hdi' := Lib.hid hdi
            rw [hdi] at z3
            have hfl := Lib.hid (isFlex_yes hk0'.out hdi)
            clear hdi
            go_wp2_with (refine wpList_value_w (by kernel_rfl) (exec_load (T := 30) (x := .tmp 35) (a := ⟨q7, 3, none⟩) rfl (by kernel_rfl) (row_style hr2'.out hok.out)) ?_; simp only [Act.put, List.setIfInBounds_toArray, List.set_cons_zero, List.set_cons_succ])
            refine (stymay_node hok.out W2).mono ?_; rintro r w3 ⟨rfl, hg3⟩
            replace z1 := hg3.cell z1 (by simp)
            replace z2 := hg3.cell z2 (by simp)
            replace z3 := hg3.cell z3 (by simp)
            replace zF := hg3.cell zF (by simp)
            replace zd := hg3.cell zd (by simp)
            have rF3 := rF'.out.kept0 hg3
            replace zf := rF3.free (dn + 1)
            have rD3 := rD'.out.kept0 hg3
            have hgw := grown_trans hg2'.out hg3
            cases hs : styB (nd L k) with
            | false =>
              have hb := Lib.hid (hno.out (by rw [hbad.out, hk0'.out, hs]; simp))
              clear hs hg3 rF3 rD3
              go_wp2_with fail
              go_ret
              exact ⟨.no hb.out, hgw⟩
            | true =>
              have hs' := Lib.hid hs
              clear hs hg3
              obtain ⟨m, hm⟩ : ∃ m, m = absI u := ⟨_, rfl⟩
              have hmax : (if u < -u then -u else u) = m := by rw [hm]; unfold absI; split <;> omega
              have hm0 : 0 ≤ m := by rw [hm]; unfold absI; omega
              by_cases h6 : 6 ≤ m
              · have d1 : decide (6 ≤ m) = true := decide_eq_true h6
                have hb := Lib.hid (hno.out (by rw [hbad.out, hfl.out, ← hm, d1]; simp))
                clear h6 rF3 rD3 hm
                go_wp2_with fail
                go_ret
                exact ⟨.no hb.out, hgw⟩
              · have d1 : decide (6 ≤ m) = false := decide_eq_false h6
                have hr4 := rF3.set (dn + 1) (.int .i64 (m + 1))
                have hr5 := hr4.kept0 (grown_drew (World.grownBy.refl _ none))
                have hr6 := hr5.set (dn + 1) (.int .i64 (-(m + 1)))
                rw [flexCells_set F (by omega)] at hr4 hr6
                rw [flexCells_set _ (by omega)] at hr6
                have hrD6 := ((rD3.keptNe (grownBy_setCell w3 q (dn + 1) (.int .i64 (m + 1))) hneq.out.1).kept0 (grown_drew (World.grownBy.refl _ none))).keptNe (grownBy_setCell _ q (dn + 1) (.int .i64 (-(m + 1)))) hneq.out.1
                have hg6 := grown_put (grown_drew (grown_put hgw hneq.out.2 (dn + 1) (.int .i64 (m + 1)))) hneq.out.2 (dn + 1) (.int .i64 (-(m + 1)))
                have hf := hR'.out.next (v := -(m + 1)) hlk'.out (by rw [hbad.out, hk0'.out, hs'.out, ← hm, d1]; simp) hdnN'.out (by rw [hval.out, if_pos hfl.out, ← hm]) hrD6 (by
                  have : (fun j => if j = dn + 1 then -(m + 1) else if j = dn + 1 then m + 1 else F j) = fun j => if j = dn + 1 then -(m + 1) else F j := by funext j; split <;> rfl
                  rw [← this]
                  exact hr6) hg6
                have zq := hr4.at (dn + 1)
                rw [flexCells_get _ (by omega)] at zq
                simp only [if_true] at zq
                have zr := hr4.free (dn + 1)
                have hm6 : m < 6 := by omega
                have z1q : (w3.setCell ⟨q, dn + 1, none⟩ (.int .i64 (m + 1))).cell? ⟨q7, 1, none⟩ = some (.int .i64 (dn : Int)) := (grownBy_setCell w3 q (dn + 1) (.int .i64 (m + 1))).cell z1 (fun e => hqq.out (Option.some.inj e))
                have hf' := Lib.hid hf
                clear hf hg6 hrD6 hr6 hr5 hr4 rF3 rD3 h6 hm
                go_wp2_with fail
                generalize w3.setCell ⟨q, dn + 1, none⟩ (.int .i64 (m + 1)) = w4 at *
                have hwd : IntKind.i64.wrap ((dn : Int) + 1) = (dn : Int) + 1 := by rw [IntKind.wrap_i64]; omega
                have hwt : ((dn : Int) + 1).toNat = dn + 1 := by omega
                go_still_tail 10, (by kernel_rfl)
                change wpList _ _ _ _ _ w4.drew
                go_wp2_with fail
                exact ⟨⟨k + 1, _, by omega, by go_num, hf'.out⟩, by simp [intOf]; omega⟩
          · have hdi' := Lib.hid hdi
            have d0 : (disp (nd L k) == 2) = false := by simpa using hdi
            have hfl := Lib.hid (isFlex_no hdi)
            clear hdi
            go_wp2_with (refine wpList_value_w (by kernel_rfl) (exec_load (T := 30) (x := .tmp 35) (a := ⟨q7, 3, none⟩) rfl (by kernel_rfl) (row_style hr2'.out hok.out)) ?_; simp only [Act.put, List.setIfInBounds_toArray, List.set_cons_zero, List.set_cons_succ])
            refine (stymay_node hok.out W2).mono ?_; rintro r w3 ⟨rfl, hg3⟩
            replace z1 := hg3.cell z1 (by simp)
            replace z2 := hg3.cell z2 (by simp)
            replace z3 := hg3.cell z3 (by simp)
            replace zF := hg3.cell zF (by simp)
            replace zd := hg3.cell zd (by simp)
            have rF3 := rF'.out.kept0 hg3
            replace zf := rF3.free (dn + 1)
            have rD3 := rD'.out.kept0 hg3
            have hgw := grown_trans hg2'.out hg3
            cases hs : styB (nd L k) with
            | false =>
              have hb := Lib.hid (hno.out (by rw [hbad.out, hk0'.out, hs]; simp))
              clear hs hg3 rF3 rD3
              go_wp2_with fail
              go_ret
              exact ⟨.no hb.out, hgw⟩
            | true =>
              have hs' := Lib.hid hs
              clear hs hg3
              obtain ⟨m, hm⟩ : ∃ m, m = absI u := ⟨_, rfl⟩
              have hmax : (if u < -u then -u else u) = m := by rw [hm]; unfold absI; split <;> omega
              have hm0 : 0 ≤ m ∧ m ≤ 6 := by rw [hm]; unfold absI; omega
              have hr4 := rF3.set (dn + 1) (.int .i64 m)
              rw [flexCells_set F (by omega)] at hr4
              have hf := hR'.out.next (v := m) hlk'.out (by rw [hbad.out, hk0'.out, hs'.out, hfl.out]; simp) hdnN'.out (by rw [hval.out, hfl.out, ← hm]; simp) (rD3.keptNe (grownBy_setCell w3 q (dn + 1) (.int .i64 m)) hneq.out.1) hr4 (grown_put hgw hneq.out.2 (dn + 1) (.int .i64 m))
              have hf' := Lib.hid hf
              clear hf hr4 rF3 rD3 hm
              go_wp2_with fail
              exact ⟨⟨k + 1, _, by omega, by go_num, hf'.out⟩, by simp [intOf]; omega⟩
        · have b1 : (kindN (nd L k) == 0) = false := by simp [hk1]
          rw [hk1] at z2
          have hk1' := Lib.hid hk1
          clear hk1 b1
          by_cases hu0 : u < 0
          · have d1 : decide (u < 0) = true := decide_eq_true hu0
            have hb := Lib.hid (hno.out (by rw [hbad.out, hk1'.out, d1]; simp))
            clear hu0
            go_wp2_with fail
            go_ret
            exact ⟨.no hb.out, hg2'.out⟩
          · have d1 : decide (u < 0) = false := decide_eq_false hu0
            have hmax : max u (-u) = u := by omega
            have hu1 := Lib.hid hu0
            have hf := Lib.hid (hfin.out u (by rw [hbad.out, hk1'.out, d1, isFlex_text hk1'.out]; simp) (by rw [hval.out, isFlex_text hk1'.out]; unfold absI; simpa using hmax))
            clear hu0
            go_wp2_with fail
            exact ⟨⟨k + 1, _, by omega, by go_num, hf.out⟩, by simp [intOf]; omega⟩
      · clear hR
        go_wp2_with fail
        go_ret
        obtain rfl : k = n := by omega
        exact ⟨.iff_ (by rw [hMay.out, hR'.out.same, List.drop_of_length_le (by rw [hlen'.out]; omega)]; simp [flexGo]), hR'.out.grown⟩
end Go.Proofs.Ytjnbfgogmhfbiaa
