/- TreeSame. -/
import Derived.Test.YthbdfibolgaapaaUn
import Derived.Deep.CutBlock
namespace Go.Proofs.Ythbdfibolgaapaa
open Go Go.RowKit
/-- Two nodes held to be the same, in a region that reads. -/
theorem run_guardNode2 (x y : Operand) (xs ys : Array Value) (w : World) : (eqGuard .eql 36 x y (.agg xs) (.agg ys)).run Try.prog w = .ok () w := by
  unfold eqGuard
  have h : (program).run Try.prog w = .ok Try.prog w := rfl
  simp [Sem.run_bind, h, Result.andThen_ok, node_noguard]
theorem quiet_eqlNode {ops : Array Oper} {C : World → Prop} {Q : Act → Prop} {a : Act} {o : Oper} {rest : List Oper} (hw : Region.wanted o (yielded ops a.tmps) = true) (x y : Operand) (t : TypeId) (ho : o.op = .binOp .eql 36 x y t) (xs ys : List Value) (hx : a.eval x = .agg xs.toArray) (hy : a.eval y = .agg ys.toArray)
    (o1 : OkAll nodeLs xs) (o2 : OkAll nodeLs ys) (b : Bool) (hb : eqV xs ys = b) (h : wpQuiet Try.prog ops C Q rest (a.put o.dst (.bool b))) : wpQuiet Try.prog ops C Q (o :: rest) a :=
  wpQuiet_value hw _ (fun w _ => by
    subst hb
    unfold execOp
    simp only [ho, hx, hy, Sem.run_bind, run_guardNode2, binOp, node_equal o1 o2 w, Result.andThen_ok, Sem.run_pure]) h
theorem docEq_comm {L1 L2 : List (List Value)} {x1 x2 : Int} (h1 : ∀ y ∈ L1, OkAll nodeLs y) (h2 : ∀ y ∈ L2, OkAll nodeLs y) : docEq L2 x2 L1 x1 = docEq L1 x1 L2 x2 := by
  rw [Bool.eq_iff_iff, docEq_iff h2 h1, docEq_iff h1 h2]
  exact ⟨fun h => ⟨h.1.symm, h.2.symm⟩, fun h => ⟨h.1.symm, h.2.symm⟩⟩
set_option maxRecDepth 100000 in
set_option maxHeartbeats 4000000 in
theorem TreeSame_walk (w : World) (A1 : Option Addr) (n1 c1 : Nat) (L1 : List (List Value)) (x1 : Int) (_wx1 : (Lit.int .i64 x1).wf = true) (R1 : IsNodes w A1 n1 c1 L1) (A2 : Option Addr) (n2 c2 : Nat) (L2 : List (List Value)) (x2 : Int) (_wx2 : (Lit.int .i64 x2).wf = true) (R2 : IsNodes w A2 n2 c2 L2) :
    Calls Try.prog 7 #[.agg #[.slice A1 n1 c1, .int .i64 x1], .agg #[.slice A2 n2 c2, .int .i64 x2]] w fun e w' => e = .returned (.bool true) ∧ Below w.heap.size w w' := by
  have hnc1 := R1.len_
  have hnc2 := R2.len_
  have ga := World.grownBy_alloc w (.cells #[.slice A1 n1 c1, .int .i64 x1] 24) none
  have gb := World.grownBy_alloc (w.alloc (.cells #[.slice A1 n1 c1, .int .i64 x1] 24)) (.cells #[.slice A2 n2 c2, .int .i64 x2] 24) none
  have b1 := (Row.new w 24 #[.slice A1 n1 c1, .int .i64 x1]).kept0 gb
  have b2 := Row.new (w.alloc (.cells #[.slice A1 n1 c1, .int .i64 x1] 24)) 24 #[.slice A2 n2 c2, .int .i64 x2]
  rw [World.size_alloc] at b2
  have hg0' := Lib.hid (grown_trans ga gb)
  obtain ⟨V, hV⟩ : ∃ V, V = (w.alloc (.cells #[.slice A1 n1 c1, .int .i64 x1] 24)).alloc (.cells #[.slice A2 n2 c2, .int .i64 x2] 24) := ⟨_, rfl⟩
  rw [← hV] at b1 b2 hg0'
  have CA := Lib.hid (awake_any V)
  have CG1 := Lib.hid (fun W (hg : w.grownBy W none) => great_any A1 n1 c1 L1 x1 W (fun y hy => (R1.2.2.2.1 y hy).2) R1.1 ((R1.2.2.2.2.grown0 hg).more hg.size) (by omega))
  have CG2 := Lib.hid (fun W (hg : w.grownBy W none) => great_any A2 n2 c2 L2 x2 W (fun y hy => (R2.2.2.2.1 y hy).2) R2.1 ((R2.2.2.2.2.grown0 hg).more hg.size) (by omega))
  have HB := Lib.hid (fun W (hg : V.grownBy W none) => show (W.cell? ⟨w.heap.size, 0, none⟩ = some (.slice A1 n1 c1) ∧ W.cell? ⟨w.heap.size, 1, none⟩ = some (.int .i64 x1)) ∧ (W.cell? ⟨w.heap.size + 1, 0, none⟩ = some (.slice A2 n2 c2) ∧ W.cell? ⟨w.heap.size + 1, 1, none⟩ = some (.int .i64 x2)) from ⟨⟨(b1.kept0 hg).at 0, (b1.kept0 hg).at 1⟩, (b2.kept0 hg).at 0, (b2.kept0 hg).at 1⟩)
  have hR1 := Lib.hid R1
  have hR2 := Lib.hid R2
  have hV' := Lib.hid hV
  clear R1 R2 b1 b2 ga gb hV
  go_enter Try.func7, Try.ntmps7
  go_wp2_with fail
  rw [← hV'.out]
  refine CA.out.mono ?_; rintro e w1 ⟨rfl, hg1⟩
  obtain ⟨⟨d1, d2⟩, d3, d4⟩ := HB.out _ hg1
  go_wp2_with fail
  refine (CG1.out _ (grown_trans hg0'.out hg1)).mono ?_; rintro e w2 ⟨bg, rfl, hbg1, hg2⟩
  replace hg1 := grown_trans hg1 hg2
  clear d1 d2 d3 d4 hg2
  obtain ⟨⟨d1, d2⟩, d3, d4⟩ := HB.out _ hg1
  cases bg with
  | true =>
    go_wp2_with fail
    go_ret
    exact ⟨rfl, grown_below (grown_trans hg0'.out hg1)⟩
  | false =>
    obtain ⟨hn1, _⟩ := hbg1 rfl
    clear hbg1
    go_wp2_with fail
    refine (CG2.out _ (grown_trans hg0'.out hg1)).mono ?_; rintro e w3 ⟨bg, rfl, hbg2, hg2⟩
    replace hg1 := grown_trans hg1 hg2
    clear d1 d2 d3 d4 hg2
    obtain ⟨⟨d1, d2⟩, d3, d4⟩ := HB.out _ hg1
    cases bg with
    | true =>
      go_wp2_with fail
      go_ret
      exact ⟨rfl, grown_below (grown_trans hg0'.out hg1)⟩
    | false =>
      obtain ⟨hn2, _⟩ := hbg2 rfl
      clear hbg2 CG1 CG2 CA
      have N1 := Lib.hid (fun W (hg : V.grownBy W none) => (hR1.out.at_ (by omega)).grow (grown_trans hg0'.out hg))
      have N2 := Lib.hid (fun W (hg : V.grownBy W none) => (hR2.out.at_ (by omega)).grow (grown_trans hg0'.out hg))
      have hok1 := Lib.hid (hR1.out.at_ (by omega)).ok
      have hok2 := Lib.hid (hR2.out.at_ (by omega)).ok
      have hll := Lib.hid (show L1.length = n1 ∧ L2.length = n2 from ⟨hR1.out.1, hR2.out.1⟩)
      go_upto_region 5 with fail
      have hstart : ∃ s : Bool, s = ((x1 == x2) && decide (n1 = n2)) := ⟨_, rfl⟩
      go_cut [5] from 15 to 28 (fun v wx => ∃ s : Bool, v = .bool s ∧ (s = true → x1 = x2 ∧ n1 = n2) ∧ (s = false → docEq L1 x1 L2 x2 = false) ∧ wx = w3)
      case first =>
        by_cases hx : x1 = x2
        · have e1 : (x1 == x2) = true := by simp [hx]
          by_cases hnn : n1 = n2
          · have e2 : ((n1 : Int) == (n2 : Int)) = true := by simp [hnn]
            have hx' := Lib.hid hx
            have hn' := Lib.hid hnn
            clear hx hnn
            go_wp2_with fail
            go_meet
            exact ⟨true, rfl, fun _ => ⟨hx'.out, hn'.out⟩, fun h => (by cases h), rfl⟩
          · have e2 : ((n1 : Int) == (n2 : Int)) = false := by simp; omega
            have hde := Lib.hid (show docEq L1 x1 L2 x2 = false by
              cases hq : docEq L1 x1 L2 x2 with
              | false => rfl
              | true => exact absurd (by rw [← hll.out.1, ← hll.out.2, ((docEq_iff hok1.out hok2.out).1 hq).2]) hnn)
            have hx' := Lib.hid hx
            clear hx
            go_wp2_with fail
            go_meet
            exact ⟨false, rfl, fun h => (by cases h), fun _ => hde.out, rfl⟩
        · have e1 : (x1 == x2) = false := by simp [hx]
          have hde := Lib.hid (show docEq L1 x1 L2 x2 = false by unfold docEq; simp [hx])
          have hx' := Lib.hid hx
          clear hx
          go_wp2_with fail
          go_meet
          exact ⟨false, rfl, fun h => (by cases h), fun _ => hde.out, rfl⟩
      case rest =>
        obtain ⟨s, rfl, hs1, hs2, rfl⟩ := hcut
        have hs1' := Lib.hid hs1
        have hs2' := Lib.hid hs2
        have hg1' := Lib.hid hg1
        clear hs1 hs2 hstart
        go_upto_block 0 with fail
        go_cut [5, 6] from 29 to 49 (fun vs _ wx => ∃ s : Bool, vs = .bool s ∧ docEq L1 x1 L2 x2 = s ∧ V.grownBy wx none)
        case first =>
          go_upto_region 7 with fail
          go_loopw [5, 6] (fun vs vi wr => ∃ (i : Nat) (s : Bool), i ≤ n1 ∧ vi = .int .i64 i ∧ vs = .bool s ∧ (s = true → x1 = x2 ∧ n1 = n2 ∧ ∀ j, j < i → L1[j]? = L2[j]?) ∧ (s = false → docEq L1 x1 L2 x2 = false) ∧ V.grownBy wr none) (fun _ vi _ => n1 - (intOf vi).toNat)
          case atStart => exact ⟨0, s, by omega, rfl, rfl, fun h => ⟨(hs1'.out h).1, (hs1'.out h).2, fun j hj => absurd hj (by omega)⟩, hs2'.out, hg1'.out⟩
          case round =>
            obtain ⟨i, s, hi, rfl, rfl, ht, hf, hg⟩ := hrel
            have ht' := Lib.hid ht
            have hf' := Lib.hid hf
            clear ht hf d1 d2 d3 d4 hg1
            obtain ⟨⟨d1, d2⟩, d3, d4⟩ := HB.out _ hg
            have fin : s = docEq L1 x1 L2 x2 → True := fun _ => trivial
            by_cases hgo : i < n1 ∧ s = true
            · obtain ⟨hlt, rfl⟩ := hgo
              obtain ⟨hx, hnn, hpre⟩ := ht'.out rfl
              obtain ⟨ad1, rfl, _⟩ := (N1.out _ hg).some_ hlt
              obtain ⟨ad2, rfl, _⟩ := (N2.out _ hg).some_ (i := i) (by omega)
              have ld1 := Lib.hid (fun q => ((N1.out _ hg).grown0 (grown_drewN (World.grownBy.refl _ none) q)).load hlt)
              have ld2 := Lib.hid (fun q => ((N2.out _ hg).grown0 (grown_drewN (World.grownBy.refl _ none) q)).load (i := i) (by omega))
              have o1 := (N1.out _ hg).nd_ok hlt
              have o2 := (N2.out _ hg).nd_ok (i := i) (by omega)
              have g1 := nd_get (L := L1) (i := i) (by have := hll.out.1; omega)
              have g2 := nd_get (L := L2) (i := i) (by have := hll.out.2; omega)
              have hi2 : i < n2 := by omega
              cases hq : eqV (nd L1 i) (nd L2 i) with
              | true =>
                have hyy := (eqV_iff o1 o2).1 hq
                have hnx := Lib.hid (show x1 = x2 ∧ n1 = n2 ∧ ∀ j, j < i + 1 → L1[j]? = L2[j]? from ⟨hx, hnn, fun j hj => by
                  rcases Nat.lt_or_ge j i with h | h
                  · exact hpre j h
                  · obtain rfl : j = i := by omega
                    rw [g1, g2, hyy]⟩)
                have hq' := Lib.hid hq
                clear hq hyy g1 g2 hpre hx hnn
                generalize nd L1 i = y1 at *
                generalize nd L2 i = y2 at *
                go_upto_region 9 with fail
                refine wp_region_quiet_lit (by kernel_rfl) (by kernel_rfl) ?_
                repeat (first | go_big_quiet_step (fail) | quiet_step (fail))
                refine quiet_loadNode (by rfl) _ rfl (ad1.add (i * 51)) rfl y1 (fun V hV => by obtain ⟨n, rfl⟩ := hV; exact ld1.out _) ?_
                simp only [Act.put, List.setIfInBounds_toArray, List.set_cons_zero, List.set_cons_succ]
                repeat (first | go_big_quiet_step (fail) | quiet_step (fail))
                refine quiet_loadNode (by rfl) _ rfl (ad2.add (i * 51)) rfl y2 (fun V hV => by obtain ⟨n, rfl⟩ := hV; exact ld2.out _) ?_
                simp only [Act.put, List.setIfInBounds_toArray, List.set_cons_zero, List.set_cons_succ]
                refine quiet_eqlNode (by rfl) _ _ _ rfl y1 y2 rfl rfl o1 o2 true hq'.out ?_
                simp only [Act.put, List.setIfInBounds_toArray, List.set_cons_zero, List.set_cons_succ]
                repeat (first | go_big_quiet_step (fail) | quiet_step (fail))
                refine wpQuiet_nil ?_
                intro w9 hw9
                obtain ⟨nq, hw8⟩ := hw9
                subst hw8
                go_wp2
                go_roundw
                case rel => exact ⟨i + 1, true, by omega, by go_num, rfl, fun _ => hnx.out, fun h => (by cases h), grown_drewN hg _⟩
                case measure => simp [intOf]; omega
              | false =>
                have hde := Lib.hid (show docEq L1 x1 L2 x2 = false by
                  cases hd : docEq L1 x1 L2 x2 with
                  | false => rfl
                  | true =>
                    have hLL := ((docEq_iff hok1.out hok2.out).1 hd).2
                    have := (eqV_iff o1 o2).2 (by rw [hLL])
                    rw [this] at hq
                    cases hq)
                have hq' := Lib.hid hq
                clear hq g1 g2 hpre hx hnn
                generalize nd L1 i = y1 at *
                generalize nd L2 i = y2 at *
                go_upto_region 9 with fail
                refine wp_region_quiet_lit (by kernel_rfl) (by kernel_rfl) ?_
                repeat (first | go_big_quiet_step (fail) | quiet_step (fail))
                refine quiet_loadNode (by rfl) _ rfl (ad1.add (i * 51)) rfl y1 (fun V hV => by obtain ⟨n, rfl⟩ := hV; exact ld1.out _) ?_
                simp only [Act.put, List.setIfInBounds_toArray, List.set_cons_zero, List.set_cons_succ]
                repeat (first | go_big_quiet_step (fail) | quiet_step (fail))
                refine quiet_loadNode (by rfl) _ rfl (ad2.add (i * 51)) rfl y2 (fun V hV => by obtain ⟨n, rfl⟩ := hV; exact ld2.out _) ?_
                simp only [Act.put, List.setIfInBounds_toArray, List.set_cons_zero, List.set_cons_succ]
                refine quiet_eqlNode (by rfl) _ _ _ rfl y1 y2 rfl rfl o1 o2 false hq'.out ?_
                simp only [Act.put, List.setIfInBounds_toArray, List.set_cons_zero, List.set_cons_succ]
                repeat (first | go_big_quiet_step (fail) | quiet_step (fail))
                refine wpQuiet_nil ?_
                intro w9 hw9
                obtain ⟨nq, hw8⟩ := hw9
                subst hw8
                go_wp2
                go_roundw
                case rel => exact ⟨i + 1, false, by omega, by go_num, rfl, fun h => (by cases h), fun _ => hde.out, grown_drewN hg _⟩
                case measure => simp [intOf]; omega
            · have hse : docEq L1 x1 L2 x2 = s := by
                cases s with
                | false => exact hf'.out rfl
                | true =>
                  obtain ⟨hx, hnn, hpre⟩ := ht'.out rfl
                  obtain rfl : i = n1 := by
                    by_cases h : i < n1
                    · exact absurd ⟨h, rfl⟩ hgo
                    · omega
                  refine (docEq_iff hok1.out hok2.out).2 ⟨hx, List.ext_getElem? fun j => ?_⟩
                  rcases Nat.lt_or_ge j i with h | h
                  · exact hpre j h
                  · rw [List.getElem?_eq_none (by have := hll.out.1; omega), List.getElem?_eq_none (by have := hll.out.2; omega)]

              have hdi : (i < n1 ∧ s = false) ∨ ¬ i < n1 := by
                by_cases h : i < n1
                · left
                  cases s with
                  | false => exact ⟨h, rfl⟩
                  | true => exact absurd ⟨h, rfl⟩ hgo
                · exact .inr h
              have hse' := Lib.hid hse
              clear hse hgo fin ht' hf'
              rcases hdi with ⟨hlt, rfl⟩ | hlt
              · have e1 : decide (i < n1) = true := decide_eq_true hlt
                go_wp2_with fail
                go_meet
                exact ⟨_, rfl, hse'.out, hg⟩
              · have e1 : decide (i < n1) = false := decide_eq_false hlt
                go_wp2_with fail
                go_meet
                exact ⟨_, rfl, hse'.out, hg⟩
        case rest =>
          obtain ⟨s, rfl, hse, hg⟩ := hcut
          clear d1 d2 d3 d4
          obtain ⟨⟨d1, d2⟩, d3, d4⟩ := HB.out _ hg
          have hse2 : docEq L2 x2 L1 x1 = s := by rw [docEq_comm hok1.out hok2.out]; exact hse
          have S12 := fun W (hg : V.grownBy W none) => same_any A1 n1 c1 L1 x1 A2 n2 c2 L2 x2 W hok1.out hok2.out hll.out.1 hll.out.2 (N1.out _ hg).reads (N2.out _ hg).reads (by omega) (by omega)
          rw [hse] at S12
          have S21 := fun W (hg : V.grownBy W none) => same_any A2 n2 c2 L2 x2 A1 n1 c1 L1 x1 W hok2.out hok1.out hll.out.2 hll.out.1 (N2.out _ hg).reads (N1.out _ hg).reads (by omega) (by omega)
          rw [hse2] at S21
          have S12 := Lib.hid S12
          have S21 := Lib.hid S21
          have CC := Lib.hid (fun W (hg : V.grownBy W none) => copy_any A1 n1 c1 L1 x1 W _ hok1.out hll.out.1 (N1.out _ hg).reads (by omega))
          have S11 := Lib.hid (fun W A c (hg : V.grownBy W none) (h : Reads W W.heap.size A L1.flatten) => show Calls Try.prog 16 #[.agg #[.slice A1 n1 c1, .int .i64 x1], .agg #[.slice A n1 c, .int .i64 x1]] W fun e w' => e = .returned (.bool true) ∧ W.grownBy w' none from by
            have := same_any A1 n1 c1 L1 x1 A n1 c L1 x1 W hok1.out hok1.out hll.out.1 hll.out.1 (N1.out _ hg).reads h (by omega) (by omega)
            rw [docEq_self hok1.out] at this
            exact this)
          have hss : (s == s) = true := by simp
          clear hse hse2
          go_upto_region 10 with fail
          clear d1 d2 d3 d4
          replace hg := grown_trans hg (grown_drew (World.grownBy.refl _ none))
          obtain ⟨⟨d1, d2⟩, d3, d4⟩ := HB.out _ hg
          go_region_with (first
            | (go_at_call 16; ((with_reducible refine (S12.out _ hg).mono ?_); rintro e vv ⟨rfl, hgk⟩); clear d1 d2 d3 d4; replace hg := grown_trans hg hgk; obtain ⟨⟨d1, d2⟩, d3, d4⟩ := HB.out _ hg; clear hgk)
            | (go_at_call 16; ((with_reducible refine (S21.out _ hg).mono ?_); rintro e vv ⟨rfl, hgk⟩); clear d1 d2 d3 d4; replace hg := grown_trans hg hgk; obtain ⟨⟨d1, d2⟩, d3, d4⟩ := HB.out _ hg; clear hgk)
            | (go_at_call 15; ((with_reducible refine (CC.out _ hg).mono ?_); rintro e vv ⟨A2', c2', rfl, hown, hgk⟩); have NC := Lib.hid hown.reads; clear hown; clear d1 d2 d3 d4; replace hg := grown_trans hg hgk; obtain ⟨⟨d1, d2⟩, d3, d4⟩ := HB.out _ hg; clear hgk)
            | (go_at_call 16; ((with_reducible refine (S11.out _ _ _ hg NC.out).mono ?_); rintro e vv ⟨rfl, hgk⟩); clear NC; clear d1 d2 d3 d4; replace hg := grown_trans hg hgk; obtain ⟨⟨d1, d2⟩, d3, d4⟩ := HB.out _ hg; clear hgk))
          all_goals
            go_wp2
            go_ret
            exact ⟨rfl, grown_below (grown_trans hg0'.out hg)⟩
end Go.Proofs.Ythbdfibolgaapaa
