/- The mutations: insert. -/
import Derived.Test.YtjnbfgogmhfbiaaVk
import Derived.Great.BuildSlice
namespace Go.Proofs.Ytjnbfgogmhfbiaa
open Go Go.RowKit
theorem grown_undrew {a b : World} (h : a.drew.grownBy b none) : a.grownBy b none := ⟨h.os, h.tape, h.output, h.size, h.block⟩
theorem exec_buildSlice {P : Program} {ρ : Operand → Value} {o : Oper} {t : TypeId} {n : Nat} {ps : Array (Nat × Operand)} {parts : Array (Nat × Value)} {w w1 : World} {v : Value} (ho : o.op = .buildSlice t n ps) (hps : ps.map (fun x => (x.1, ρ x.2)) = parts) (hr : (Instr.buildSlice t n parts).run P w = .ok v w1) : (execOp ρ o).run P w = .ok (.value v) w1 := by
  unfold execOp
  simp only [ho, Sem.run_bind]
  rw [show (ps.map fun (i, x) => (i, ρ x)) = parts from hps, hr]
  rfl
theorem run_one (w : World) (Z : List Value) (hZ : Z.length = 51) : (Instr.buildSlice 22 1 #[(0, .agg Z.toArray)]).run Try.prog w = .ok (.slice (some ⟨w.heap.size, 0, none⟩) 1 1) (w.alloc (.cells Z.toArray 32)) := by
  obtain ⟨i0, hi0, hz0, hz1, hz2⟩ := info_parts infoN
  refine run_buildSlice w 22 32 1 _ Z.toArray i0 _ Try.underlying22 hi0 hz0 (by rw [hz1]; omega) (by rw [hz1]; omega) ?_
  rw [hz1]
  have := Great.fill_whole (s := 51) (by omega) [.agg Z.toArray] ((Array.range (1 * 51)).map ((Value.agg zeroNode.toArray).cells[· % (Value.agg zeroNode.toArray).cells.size]!)) (fun v hv => by
    simp only [List.mem_cons, List.not_mem_nil, or_false] at hv
    rw [hv]
    show Z.toArray.size = 51
    simpa using hZ) (by simp)
  refine this.trans ?_
  simp [Value.cells]
def headOf (x deep kd : Int) : List Value := ((zeroNode.set 0 (.int .i64 x)).set 1 (.int .i64 deep)).set 2 (.int .u8 kd)
theorem head_len (x deep kd : Int) : (headOf x deep kd).length = 51 := by simp [headOf]; rfl
theorem head_ok {x deep kd : Int} (h1 : -9223372036854775808 ≤ x ∧ x ≤ 9223372036854775807) (h2 : -9223372036854775808 ≤ deep ∧ deep ≤ 9223372036854775807) (h3 : 0 ≤ kd ∧ kd ≤ 255) : OkAll nodeLs (headOf x deep kd) := by
  refine okAll_set nodeLs _ 2 (.int .u8) _ (okAll_set nodeLs _ 1 (.int .i64) _ (okAll_set nodeLs _ 0 (.int .i64) _ (okB_ok _ _ (by decide +kernel)) rfl ⟨_, rfl, wf_of h1.1 h1.2⟩) rfl ⟨_, rfl, wf_of h2.1 h2.2⟩) rfl ⟨_, rfl, ?_⟩
  simp [Lit.wf, IntKind.min, IntKind.max, IntKind.signed, IntKind.bits]
  omega
theorem head_box (x deep : Int) (y : List Value) : withSty (headOf x deep 0) y = boxOf x deep y := by
  unfold withSty boxOf
  rfl
theorem head_text (x deep : Int) (y : List Value) : (headOf x deep 1).set 50 ((y[50]?).getD (.string ByteArray.empty)) = textOf x deep y := by rfl
theorem box_ok {x deep : Int} {y : List Value} (h1 : -9223372036854775808 ≤ x ∧ x ≤ 9223372036854775807) (h2 : -9223372036854775808 ≤ deep ∧ deep ≤ 9223372036854775807) (hy : OkAll nodeLs y) : OkAll nodeLs (boxOf x deep y) := by
  rw [← head_box]
  exact withSty_ok (head_ok h1 h2 (by omega)) hy
theorem text_ok {x deep : Int} {y : List Value} (h1 : -9223372036854775808 ≤ x ∧ x ≤ 9223372036854775807) (h2 : -9223372036854775808 ≤ deep ∧ deep ≤ 9223372036854775807) (hy : OkAll nodeLs y) : OkAll nodeLs (textOf x deep y) := by
  obtain ⟨s, h3, _, h4⟩ := okAll_text hy
  rw [← head_text, h3]
  exact okAll_set nodeLs _ 50 .str _ (head_ok h1 h2 (by omega)) rfl ⟨s, rfl, h4⟩
set_option maxRecDepth 100000 in
set_option maxHeartbeats 4000000 in
theorem insert_any (B p : Nat) (A : Option Addr) (n k : Nat) (L : List (List Value)) (x : Int) (c : Chg) (w : World) (hD : DocAt w B p A n k L x) (hB : B ≤ w.heap.size) (hc : c.ok) (hn : n ≤ 600) (hx : 0 ≤ x ∧ x ≤ 1073741825) (hdp : ∀ i, i < n → -1 ≤ dp L i ∧ dp L i ≤ 1000) :
    Calls Try.prog 30 #[.pointer (some ⟨p, 0, none⟩), .agg c.cells] w (OpPost w B p (rowOf A k) (insertL L x c.par c.num c.y)) := by
  have hg0 := World.grownBy_alloc w (.cells c.cells 34) none
  have HR := chg_box w c
  have HD := Lib.hid (fun W (hg : (w.alloc (.cells c.cells 34)).grownBy W none) => hD.grown (grown_trans hg0 hg))
  have HB := Lib.hid (fun W (hg : (w.alloc (.cells c.cells 34)).grownBy W none) => show ((W.cell? ⟨p, 0, none⟩ = some (.slice A n k) ∧ W.cell? ⟨p, 1, none⟩ = some (.int .i64 x)) ∧ W.cell? ⟨w.heap.size, 2, none⟩ = some (.int .i64 c.par) ∧ W.cell? ⟨w.heap.size, 3, none⟩ = some (.int .i64 c.num)) ∧ W.cell? ⟨w.heap.size, 6, none⟩ = some (.int .u8 (kindN c.y)) from
    ⟨⟨(HD.out W hg).cells, ((HR.out W hg).at 2).trans Chg.c2, ((HR.out W hg).at 3).trans Chg.c3⟩, ((HR.out W hg).at 6).trans ((Chg.cy 2).trans (n_kind hc.y).1)⟩)
  have hl := hD.len
  have hplt := hD.two.lt
  have hrowlt := hD.own.row_ge
  have hszW := World.size_alloc w (.cells c.cells 34)
  have hB0 := Lib.hid (show B ≤ (w.alloc (.cells c.cells 34)).heap.size by have := hg0.size; omega)
  have hc' := Lib.hid hc
  have hkb := (n_kind hc.y).2
  have hg0' := Lib.hid hg0
  clear hD hB hg0 hc
  go_enter Try.func30, Try.ntmps30
  go_wp2_with fail
  generalize hW0 : w.alloc (.cells c.cells 34) = W0 at *
  have hfar := Lib.hid (fun (g : Nat) (hg : W0.heap.size ≤ g) => show g ≠ p ∧ rowOf A k ≠ some g from ⟨by omega, fun e => by have := (hrowlt g e).2; omega⟩)
  have hbz : w.heap.size < W0.heap.size := by omega
  clear hW0 hszW hrowlt hplt
  have hgd := grown_drew (World.grownBy.refl W0 none)
  obtain ⟨⟨⟨c0, c1⟩, e2, e3⟩, e6⟩ := HB.out _ hgd
  by_cases hy : ∃ v q : Nat, GapYes L c.par c.num v q
  · obtain ⟨v, q, hy⟩ := hy
    have CG := Lib.hid (gap_yes (c := k) (x := x) (HD.out _ hgd).nodes hdp hy)
    have hvl : v < L.length := hy.2.1
    obtain ⟨gb1, gb2, gb3⟩ := gapAt_bounds (k := q) hvl
    have hgE := Lib.hid (gapE_yes hy)
    obtain ⟨g, hgq⟩ : ∃ g, g = gapAt L v q := ⟨_, rfl⟩
    obtain ⟨dv, hdv⟩ : ∃ dv, dv = dp L v + 1 := ⟨_, rfl⟩
    rw [← hgq, ← hdv] at CG hgE
    have hdvb : 0 ≤ dv ∧ dv ≤ 1001 := by have := hdp v (by omega); omega
    have hgn : g ≤ n := by omega
    have hspec := Lib.hid (show insertL L x c.par c.num c.y = if kindN c.y = 0 then (if styB c.y then .ok (putAt L g [boxOf x dv c.y], x + 1) else .error 60)
        else if kindN c.y = 1 then .ok (putAt L g [textOf x dv c.y], x + 1) else .error 70 by
      unfold insertL
      rw [hgE.out])
    clear hdv hgq gb1 gb2 gb3 hy hvl hdp hgE hl
    go_region_held3 (fun W => (W.cell? ⟨p, 0, none⟩ = some (.slice A n k) ∧ W.cell? ⟨p, 1, none⟩ = some (.int .i64 x)) ∧ W.cell? ⟨w.heap.size, 2, none⟩ = some (.int .i64 c.par) ∧ W.cell? ⟨w.heap.size, 3, none⟩ = some (.int .i64 c.num)) (first | exact ⟨⟨c0, c1⟩, e2, e3⟩ | go_keep) (first
      | (go_at_call 38; ((with_reducible refine CG.out.mono ?_); rintro r w2 ⟨rfl, hg2⟩); clear c0 c1 e2 e3 e6; replace hgd := grown_trans hgd hg2; obtain ⟨⟨⟨c0, c1⟩, e2, e3⟩, e6⟩ := HB.out _ hgd; clear hg2))
    clear CG
    go_wp2_with fail
    clear c0 c1 e2 e3 e6
    refine wp_region_held (S := fun _ => True) (by kernel_rfl) ?_
    refine wpAnyH_take (i := 0) (v := .pointer (some ⟨p, 0, none⟩)) rfl (by kernel_rfl) (by kernel_rfl) (by kernel_rfl) (fun _ _ _ h => h) (Or.inl ⟨by kernel_rfl, fun V _ => by kernel_rfl⟩) trivial ?_
    simp only [Act.put, List.getElem_toArray, List.getElem_cons_succ, List.getElem_cons_zero, List.setIfInBounds_toArray, List.set_cons_zero, List.set_cons_succ]
    refine wpAnyH_take (i := 1) (v := .pointer (some ⟨p, 0, none⟩)) rfl (by kernel_rfl) (by kernel_rfl) (by kernel_rfl) (fun _ _ _ h => h) (Or.inl ⟨by kernel_rfl, fun V _ => by kernel_rfl⟩) trivial ?_
    simp only [Act.put, List.getElem_toArray, List.getElem_cons_succ, List.getElem_cons_zero, List.setIfInBounds_toArray, List.set_cons_zero, List.set_cons_succ]
    refine wpAnyH_take (i := 2) (v := .pointer (some ⟨p, 1, none⟩)) rfl (by kernel_rfl) (by kernel_rfl) (by kernel_rfl) (fun _ _ _ h => h) (Or.inl ⟨by kernel_rfl, fun V _ => by kernel_rfl⟩) trivial ?_
    simp only [Act.put, List.getElem_toArray, List.getElem_cons_succ, List.getElem_cons_zero, List.setIfInBounds_toArray, List.set_cons_zero, List.set_cons_succ]
    refine wpAnyH_take (i := 4) (v := .int .i64 dv) rfl (by kernel_rfl) (by kernel_rfl) (by kernel_rfl) (fun _ _ _ h => h) (Or.inl ⟨by kernel_rfl, fun V _ => by kernel_rfl⟩) trivial ?_
    simp only [Act.put, List.getElem_toArray, List.getElem_cons_succ, List.getElem_cons_zero, List.setIfInBounds_toArray, List.set_cons_zero, List.set_cons_succ]
    refine wpAnyH_take (i := 5) (v := .pointer (some ⟨w.heap.size, 4, none⟩)) rfl (by kernel_rfl) (by kernel_rfl) (by kernel_rfl) (fun _ _ _ h => h) (Or.inl ⟨by kernel_rfl, fun V _ => by kernel_rfl⟩) trivial ?_
    simp only [Act.put, List.getElem_toArray, List.getElem_cons_succ, List.getElem_cons_zero, List.setIfInBounds_toArray, List.set_cons_zero, List.set_cons_succ]
    refine wpAnyH_take (i := 6) (v := .pointer (some ⟨w.heap.size, 6, none⟩)) rfl (by kernel_rfl) (by kernel_rfl) (by kernel_rfl) (fun _ _ _ h => h) (Or.inl ⟨by kernel_rfl, fun V _ => by kernel_rfl⟩) trivial ?_
    simp only [Act.put, List.getElem_toArray, List.getElem_cons_succ, List.getElem_cons_zero, List.setIfInBounds_toArray, List.set_cons_zero, List.set_cons_succ]
    refine Grow.wpAnyH_from (w0 := w2.drew) [0, 1, 2, 4, 5, 6] [3, 7, 8, 9] #[true, true, true, true, true, true, true, true, true, true, false] [(some 21, 3), (some 25, 7), (some 26, 8), (some 6, 9)] 1 (TG (fun j lo => match j with | 3 => .int .i64 x | 7 => .int .u8 (kindN c.y) | 8 => .agg (headOf x dv (kindN c.y)).toArray | _ => .pointer (some ⟨lo, 0, none⟩)) (fun j => match j with | 9 => some (32, zeroNode.toArray) | _ => none)) (by kernel_rfl) (by kernel_rfl) (by kernel_rfl) (by decide) (by kernel_rfl) (by kernel_rfl) (by kernel_rfl) (fun _ _ => trivial) (TG.mono _ _) ?_ ?_
    · refine Grow.StepsD.cons [] [] rfl (by kernel_rfl) (by kernel_rfl) (fun vs lo up W hg hT K hK => ?_) ?_
      · obtain ⟨⟨⟨c0, c1⟩, e2, e3⟩, e6⟩ := HB.out _ (grown_trans hgd (grown_undrew hg))
        simp only [Grow.putL] at hK ⊢
        go_simp
        exact hK _ _ (World.grownBy.refl _ _) (TG.plain rfl rfl)
      refine Grow.StepsD.cons [] [] rfl (by kernel_rfl) (by kernel_rfl) (fun vs lo up W hg hT K hK => ?_) ?_
      · obtain ⟨⟨⟨c0, c1⟩, e2, e3⟩, e6⟩ := HB.out _ (grown_trans hgd (grown_undrew hg))
        simp only [Grow.putL] at hK ⊢
        go_simp
        exact hK _ _ (World.grownBy.refl _ _) (TG.plain rfl rfl)
      refine Grow.StepsD.cons [3, 7] [(some 21, 3), (some 25, 7)] rfl (by kernel_rfl) (by kernel_rfl) (fun vs lo up W hg hT K hK => ?_) ?_
      · have t3 : vs 3 = .int .i64 x := hT.1.1
        have t7 : vs 7 = .int .u8 (kindN c.y) := hT.2.1
        simp only [Grow.putL, t3, t7] at hK ⊢
        refine wp_value (v := .agg (headOf x dv (kindN c.y)).toArray) (w1 := W) (by kernel_rfl) ?_
        exact hK _ _ (World.grownBy.refl _ _) (TG.plain rfl rfl)
      refine Grow.StepsD.cons [] [] rfl (by kernel_rfl) (by kernel_rfl) (fun vs lo up W hg hT K hK => ?_) Grow.StepsD.nil
      · simp only [Grow.putL] at hK ⊢
        refine wp_value (exec_alloc_row bigN rfl W) ?_
        exact hK _ _ (World.grownBy_alloc _ _ _) ⟨rfl, fun T cs e => by cases e; exact ⟨Row.new _ _ _, World.size_alloc _ _⟩⟩
    intro vs lo up V hgV hT hbb hap
    have hgW := grown_undrew hgV
    obtain ⟨t3, t7, t8, t9⟩ := hT
    have q3 : vs 3 = .int .i64 x := t3.1
    have q7 : vs 7 = .int .u8 (kindN c.y) := t7.1
    have q8 : vs 8 = .agg (headOf x dv (kindN c.y)).toArray := t8.1
    have q9 : vs 9 = .pointer (some ⟨lo 9, 0, none⟩) := t9.1
    have hrow6 := (t9.2 _ _ rfl).1
    have hlo9 := (hbb 9 (by simp)).1
    simp only [Grow.putL, q3, q7, q8, q9, Act.put, List.getElem_toArray, List.getElem_cons_succ, List.getElem_cons_zero, List.setIfInBounds_toArray, List.set_cons_zero, List.set_cons_succ]
    clear hbb hap q3 q7 q8 q9 t3 t7 t8 t9 hgV
    generalize lo 9 = g6 at *
    have hho : OkAll nodeLs (headOf x dv (kindN c.y)) := head_ok (by omega) (by omega) hkb
    refine wpAnyH_store_row bigN 10 (.tmp 6) (.tmp 26) g6 zeroNode.toArray (headOf x dv (kindN c.y)).toArray (by kernel_rfl) (by kernel_rfl) (by kernel_rfl) (by kernel_rfl) hrow6 rfl (by simpa using head_len x dv _) (by simpa using okAll_one hho) trivial ?_
    refine wpAnyH_done (by kernel_rfl) ?_ _
    have hrow7 := hrow6.store (headOf x dv (kindN c.y)).toArray
    have hsz2 : W0.heap.size ≤ w2.heap.size := hgd.size
    have hg6 : W0.heap.size ≤ g6 := by
      have : w2.drew.heap.size ≤ g6 := hlo9
      have h2 : w2.drew.heap.size = w2.heap.size := rfl
      omega
    have hg3 := grown_new (grown_trans hgd hgW) (grownBy_setRow V g6 (headOf x dv (kindN c.y)).toArray) (fun g e => by cases e; exact hg6)
    clear hrow6 hlo9 hgW hgd hsz2
    generalize V.setRow g6 (headOf x dv (kindN c.y)).toArray = w3 at *
    have z2 := hrow7.at 2
    have z2' : w3.cell? ⟨g6, 2, none⟩ = some (.int .u8 (kindN c.y)) := z2
    clear z2
    have hrow7' := Lib.hid hrow7
    clear hrow7 hho
    rcases (by omega : kindN c.y = 0 ∨ kindN c.y = 1 ∨ (kindN c.y ≠ 0 ∧ kindN c.y ≠ 1)) with hk | hk | hk
    · have hk' := Lib.hid hk
      rw [hk] at z2'
      rw [hk] at hrow7'
      clear hk hkb
      have R1 := HR.out _ hg3
      go_wp2_with (refine wpList_value rfl (exec_load (T := 30) (x := .tmp 33) (a := ⟨w.heap.size, 7, none⟩) rfl (by kernel_rfl) (chg_style R1 hc'.out)) ?_; simp only [Act.put, List.setIfInBounds_toArray, List.set_cons_zero, List.set_cons_succ])
      refine (stymay_node hc'.out.y w3).mono ?_; rintro r w3b ⟨rfl, hgs⟩
      have hrow8 := hrow7'.out.kept0 hgs
      replace hg3 := grown_trans hg3 hgs
      clear hgs R1 z2' hrow7'
      cases hs : styB c.y with
      | false =>
        have hs' := Lib.hid hs
        clear hs
        go_wp2_with fail
        refine (must_no 60 w3b).mono ?_; rintro r w4 ⟨rfl, rfl⟩
        go_wp2_with fail
        refine ⟨rfl, ?_⟩
        rw [hspec.out, if_pos hk'.out, if_neg (by rw [hs'.out]; simp)]
        exact (OpPost.err rfl (HD.out _ hg3) (Mut.ofGrown hg3 (.inl rfl))).widen hg0'.out
      | true =>
        have hs' := Lib.hid hs
        clear hs
        go_wp2_with fail
        refine (must_yes 60 w3b).mono ?_; rintro r w4 ⟨rfl, rfl⟩
        have R1 := HR.out _ hg3
        have hrow9 : Row (w4.setCells g6 3 (styN c.y)) g6 32 (boxOf x dv c.y).toArray := by
          have h1 := hrow8.setCells (styN c.y) 3
          rw [layL_sty _ _ (head_len _ _ _) (styN_len hc'.out.y), head_box] at h1
          exact h1
        have hg4 := grown_new hg3 (grownBy_setCells (styN c.y) 3 w4) (fun g e => by cases e; exact hg6)
        have hrow9' := Lib.hid hrow9
        have hg4' := Lib.hid hg4
        clear hrow9 hg4
        go_wp2_with (first
          | (refine wpList_value rfl (exec_load (T := 30) (x := .tmp 38) (a := ⟨w.heap.size, 7, none⟩) rfl (by kernel_rfl) (chg_style R1 hc'.out)) ?_; simp only [Act.put, List.setIfInBounds_toArray, List.set_cons_zero, List.set_cons_succ])
          | (refine wpList_skip (by rfl) (exec_store_many (T := 30) (x := .tmp 40) (y := .tmp 39) (g := g6) (off := 3) (ds := styN c.y) (by rfl) (by kernel_rfl) (by kernel_rfl) (by rw [styN_len hc'.out.y]; exact infoSty) (sty_one hc'.out.y)
              (fun j hj => by
                rw [styN_len hc'.out.y] at hj
                rw [hrow8.at, List.getElem?_toArray, List.getElem?_eq_getElem (by rw [head_len]; omega)]
                rfl)
              (fun j hj => hrow8.free _)) ?_; simp only [Act.put, List.setIfInBounds_toArray, List.set_cons_zero, List.set_cons_succ]))
        have hrow := hrow9'.out
        have hgr := hg4'.out
        clear hrow8 hrow9' hg4' R1 hg3
        generalize w4.setCells g6 3 (styN c.y) = w5 at *
        have hZo := Lib.hid (box_ok (x := x) (deep := dv) (by omega) (by omega) hc'.out.y)
        have hfinP := Lib.hid (show insertL L x c.par c.num c.y = .ok (putAt L g [boxOf x dv c.y], x + 1) by rw [hspec.out, if_pos hk'.out, if_pos hs'.out])
        clear hspec hk' hs'
        generalize boxOf x dv c.y = Z at *
        refine wp_region_held (S := fun _ => True) (by kernel_rfl) ?_
        refine wpAnyH_take (i := 0) (v := .pointer (some ⟨p, 0, none⟩)) rfl (by kernel_rfl) (by kernel_rfl) (by kernel_rfl) (fun _ _ _ h => h) (Or.inl ⟨by kernel_rfl, fun V _ => by kernel_rfl⟩) trivial ?_
        simp only [Act.put, List.getElem_toArray, List.getElem_cons_succ, List.getElem_cons_zero, List.setIfInBounds_toArray, List.set_cons_zero, List.set_cons_succ]
        refine wpAnyH_take (i := 1) (v := .pointer (some ⟨p, 0, none⟩)) rfl (by kernel_rfl) (by kernel_rfl) (by kernel_rfl) (fun _ _ _ h => h) (Or.inl ⟨by kernel_rfl, fun V _ => by kernel_rfl⟩) trivial ?_
        simp only [Act.put, List.getElem_toArray, List.getElem_cons_succ, List.getElem_cons_zero, List.setIfInBounds_toArray, List.set_cons_zero, List.set_cons_succ]
        refine wpAnyH_take (i := 2) (v := .pointer (some ⟨p, 0, none⟩)) rfl (by kernel_rfl) (by kernel_rfl) (by kernel_rfl) (fun _ _ _ h => h) (Or.inl ⟨by kernel_rfl, fun V _ => by kernel_rfl⟩) trivial ?_
        simp only [Act.put, List.getElem_toArray, List.getElem_cons_succ, List.getElem_cons_zero, List.setIfInBounds_toArray, List.set_cons_zero, List.set_cons_succ]
        refine wpAnyH_take (i := 3) (v := .pointer (some ⟨p, 0, none⟩)) rfl (by kernel_rfl) (by kernel_rfl) (by kernel_rfl) (fun _ _ _ h => h) (Or.inl ⟨by kernel_rfl, fun V _ => by kernel_rfl⟩) trivial ?_
        simp only [Act.put, List.getElem_toArray, List.getElem_cons_succ, List.getElem_cons_zero, List.setIfInBounds_toArray, List.set_cons_zero, List.set_cons_succ]
        refine wpAnyH_take (i := 5) (v := .int .i64 (g : Int)) rfl (by kernel_rfl) (by kernel_rfl) (by kernel_rfl) (fun _ _ _ h => h) (Or.inl ⟨by kernel_rfl, fun V _ => by kernel_rfl⟩) trivial ?_
        simp only [Act.put, List.getElem_toArray, List.getElem_cons_succ, List.getElem_cons_zero, List.setIfInBounds_toArray, List.set_cons_zero, List.set_cons_succ]
        refine Grow.wpAnyH_from (w0 := w5.drew) [0, 1, 2, 3, 5] [4, 6, 7] #[true, true, true, true, true, true, true, true, false, false, false, false] [(some 51, 4), (some 53, 6), (some 54, 7)] 4 (TG (fun j lo => match j with | 4 => .slice A n k | 6 => .agg Z.toArray | _ => .slice (some ⟨lo, 0, none⟩) 1 1) (fun j => match j with | 7 => some (32, Z.toArray) | _ => none)) (by kernel_rfl) (by kernel_rfl) (by kernel_rfl) (by decide) (by kernel_rfl) (by kernel_rfl) (by kernel_rfl) (fun _ _ => trivial) (TG.mono _ _) ?_ ?_
        · refine Grow.StepsD.cons [] [] rfl (by kernel_rfl) (by kernel_rfl) (fun vs lo up W hg hT K hK => ?_) ?_
          · obtain ⟨⟨⟨c0, c1⟩, e2, e3⟩, e6⟩ := HB.out _ (grown_trans hgr (grown_undrew hg))
            simp only [Grow.putL] at hK ⊢
            go_simp
            exact hK _ _ (World.grownBy.refl _ _) (TG.plain rfl rfl)
          refine Grow.StepsD.cons [] [] rfl (by kernel_rfl) (by kernel_rfl) (fun vs lo up W hg hT K hK => ?_) ?_
          · have hrW := hrow.kept0 (grown_undrew hg)
            simp only [Grow.putL] at hK ⊢
            refine wp_value (exec_load_row bigN (x := .tmp 6) rfl (by kernel_rfl) W hrW (by rw [List.size_toArray]; exact hZo.out.len)) ?_
            exact hK _ _ (World.grownBy.refl _ _) (TG.plain rfl rfl)
          refine Grow.StepsD.cons [6] [(some 53, 6)] rfl (by kernel_rfl) (by kernel_rfl) (fun vs lo up W hg hT K hK => ?_) Grow.StepsD.nil
          · have t6 : vs 6 = .agg Z.toArray := hT.1
            simp only [Grow.putL, t6] at hK ⊢
            refine wp_value (exec_buildSlice (parts := #[(0, .agg Z.toArray)]) rfl (by kernel_rfl) (run_one W Z hZo.out.len)) ?_
            exact hK _ _ (World.grownBy_alloc _ _ _) ⟨rfl, fun T cs e => by cases e; exact ⟨Row.new _ _ _, World.size_alloc _ _⟩⟩
        intro vs lo up V hgV hT hbb hap
        have hgW := grown_undrew hgV
        obtain ⟨t4, t6, t7⟩ := hT
        have q4 : vs 4 = .slice A n k := t4.1
        have q6 : vs 6 = .agg Z.toArray := t6.1
        have q7 : vs 7 = .slice (some ⟨lo 7, 0, none⟩) 1 1 := t7.1
        have hrow7 := (t7.2 _ _ rfl).1
        have hlo7 := (hbb 7 (by simp)).1
        simp only [Grow.putL, q4, q6, q7, Act.put, List.getElem_toArray, List.getElem_cons_succ, List.getElem_cons_zero, List.setIfInBounds_toArray, List.set_cons_zero, List.set_cons_succ]
        clear hbb hap q4 q6 q7 t4 t6 t7 hgV
        generalize lo 7 = g7 at *
        have hg7 : W0.heap.size ≤ g7 := by
          have h1 : w5.drew.heap.size ≤ g7 := hlo7
          have h2 : w5.drew.heap.size = w5.heap.size := rfl
          have h3 := hgr.size
          omega
        have hgV := grown_trans hgr hgW
        obtain ⟨_, nrow⟩ := hfar.out g7 hg7
        have DV := HD.out _ hgV
        have hownZ : Own V W0.heap.size 32 51 (some ⟨g7, 0, none⟩) 1 1 [Z].flatten := by
          have hl51 := hZo.out.len
          rw [nodeLs_len] at hl51
          refine ⟨by simp [hl51], Nat.le_refl _, by unfold maxLen; omega, .inr ⟨g7, Z.toArray, rfl, hg7, hrow7, by simp [hl51], ?_⟩⟩
          simp only [List.flatten_cons, List.flatten_nil, List.append_nil]
          rw [List.take_of_length_le (by omega)]
        have hokZ : ∀ y ∈ [Z], OkAll nodeLs y := fun y hy => by
          rw [List.mem_singleton.1 hy]
          exact hZo.out
        have CI := Lib.hid (ins_nodes V B n k g 1 1 W0.heap.size A (some ⟨g7, 0, none⟩) L [Z] (by have := hB0.out; have := hgV.size; omega) DV.ok hokZ DV.own hownZ (fun e => nrow (by rw [← e]; rfl)) hgn (by omega) (by omega))
        have DV' := Lib.hid DV
        have hgV' := Lib.hid hgV
        clear DV hownZ hrow7 hlo7 hrow hgW hgr
        refine wpAnyH_ready (rs := [8]) (by kernel_rfl) (by simp) ?_
        refine AllReadyH.cons rfl (fun K hK => ?_) AllReadyH.nil
        go_simp
        refine CI.out.mono ?_; rintro r w6 ⟨A6, c6, rfl, hown6, hg6'⟩
        refine hK.out _ _ trivial (fun _ => ?_)
        clear hK K
        simp only [Act.put, List.getElem_toArray, List.getElem_cons_succ, List.getElem_cons_zero, List.setIfInBounds_toArray, List.set_cons_zero, List.set_cons_succ]
        refine wpAnyH_take (i := 9) (v := .pointer (some ⟨p, 0, none⟩)) rfl (by kernel_rfl) (by kernel_rfl) (by kernel_rfl) (fun _ _ _ h => h) (Or.inl ⟨by kernel_rfl, fun V _ => by kernel_rfl⟩) trivial ?_
        simp only [Act.put, List.getElem_toArray, List.getElem_cons_succ, List.getElem_cons_zero, List.setIfInBounds_toArray, List.set_cons_zero, List.set_cons_succ]
        refine wpAnyH_take (i := 10) (v := .pointer (some ⟨p, 0, none⟩)) rfl (by kernel_rfl) (by kernel_rfl) (by kernel_rfl) (fun _ _ _ h => h) (Or.inl ⟨by kernel_rfl, fun V _ => by kernel_rfl⟩) trivial ?_
        simp only [Act.put, List.getElem_toArray, List.getElem_cons_succ, List.getElem_cons_zero, List.setIfInBounds_toArray, List.set_cons_zero, List.set_cons_succ]
        have hokp : ∀ y ∈ L.take g ++ [Z] ++ L.drop g, OkAll nodeLs y := fun y hy => by
          rcases List.mem_append.1 hy with hy | hy
          · rcases List.mem_append.1 hy with hy | hy
            · exact DV'.out.ok y (List.mem_of_mem_take hy)
            · exact hokZ y hy
          · exact DV'.out.ok y (List.mem_of_mem_drop hy)
        have hp6 := DV'.out.put hg6' hown6 hokp (by omega)
        have hb5 := DV'.out.two.kept hg6' (Ne.symm DV'.out.row_ne)
        have f0 := hb5.f 0
        have c0'' := hb5.c0
        have hp6' := Lib.hid hp6
        clear hp6 hb5 hown6 hg6' hokp CI
        refine wpAnyH_ready (rs := [11]) (by kernel_rfl) (by simp) ?_
        refine AllReadyH.cons rfl (fun K hK => ?_) AllReadyH.nil
        go_simp
        refine hK.out _ _ trivial (fun _ => ?_)
        clear hK K
        refine wpAnyH_done (by kernel_rfl) ?_ _
        clear f0 c0''
        obtain ⟨DX, MX⟩ := hp6'.out
        generalize w6.setCell ⟨p, 0, none⟩ (.slice A6 (n + 1) c6) = w7 at *
        have d1 := DX.two.c1
        have f1 := DX.two.f 1
        have hwx : IntKind.i64.wrap (x + 1) = x + 1 := by rw [IntKind.wrap_i64]; omega
        have hfin : OpPost w B p (rowOf A k) (insertL L x c.par c.num c.y) (.returned (.tuple #[])) (w7.setCell ⟨p, 1, none⟩ (.int .i64 (x + 1))) := by
          rw [hfinP.out]
          refine (OpPost.fine rfl ⟨DX.two.s1 _, DX.own.kept_ (grownBy_setCell _ _ _ _) DX.two (by decide), DX.ok, DX.few⟩ (((Mut.ofGrown hgV'.out (.inl rfl)).trans MX (.inl rfl)).trans (Mut.ofGrown (grownBy_setCell _ _ _ _) (.inr (.inl rfl))) (.inl rfl))).widen hg0'.out
        have hfin' := Lib.hid hfin
        clear hfin DX MX hp6'
        go_wp2_with fail
        go_end0
        exact hfin'.out
    · have hk' := Lib.hid hk
      rw [hk] at z2'
      rw [hk] at hrow7'
      clear hk hkb
      obtain ⟨s, hs1, hs2, hs3⟩ := okAll_text hc'.out.y
      have R1 := (HR.out _ hg3).at 54
      rw [show 54 = 4 + 50 by rfl, Chg.cy, hs1] at R1
      have z4 := hrow7'.out.at 50
      have z4' : w3.cell? ⟨g6, 50, none⟩ = some (.string ByteArray.empty) := z4
      have z5 := hrow7'.out.free 50
      have hrow9 : Row (w3.setCell ⟨g6, 50, none⟩ (.string s)) g6 32 (textOf x dv c.y).toArray := by
        have h1 := hrow7'.out.set 50 (.string s)
        rw [List.setIfInBounds_toArray] at h1
        rw [← head_text, hs1]
        exact h1
      have hg4 := grown_put hg3 hg6 50 (.string s)
      have hrow9' := Lib.hid hrow9
      have hg4' := Lib.hid hg4
      clear hrow9 hg4 z4 hs1 hs2 hs3
      go_wp2_with fail
      have hrow := hrow9'.out
      have hgr := hg4'.out
      clear hrow7' hrow9' hg4' R1 hg3 z2' z4' z5
      generalize w3.setCell ⟨g6, 50, none⟩ (.string s) = w5 at *
      have hZo := Lib.hid (text_ok (x := x) (deep := dv) (by omega) (by omega) hc'.out.y)
      have hfinP := Lib.hid (show insertL L x c.par c.num c.y = .ok (putAt L g [textOf x dv c.y], x + 1) by rw [hspec.out, if_neg (by rw [hk'.out]; decide), if_pos hk'.out])
      clear hspec hk'
      generalize textOf x dv c.y = Z at *
      refine wp_region_held (S := fun _ => True) (by kernel_rfl) ?_
      refine wpAnyH_take (i := 0) (v := .pointer (some ⟨p, 0, none⟩)) rfl (by kernel_rfl) (by kernel_rfl) (by kernel_rfl) (fun _ _ _ h => h) (Or.inl ⟨by kernel_rfl, fun V _ => by kernel_rfl⟩) trivial ?_
      simp only [Act.put, List.getElem_toArray, List.getElem_cons_succ, List.getElem_cons_zero, List.setIfInBounds_toArray, List.set_cons_zero, List.set_cons_succ]
      refine wpAnyH_take (i := 1) (v := .pointer (some ⟨p, 0, none⟩)) rfl (by kernel_rfl) (by kernel_rfl) (by kernel_rfl) (fun _ _ _ h => h) (Or.inl ⟨by kernel_rfl, fun V _ => by kernel_rfl⟩) trivial ?_
      simp only [Act.put, List.getElem_toArray, List.getElem_cons_succ, List.getElem_cons_zero, List.setIfInBounds_toArray, List.set_cons_zero, List.set_cons_succ]
      refine wpAnyH_take (i := 2) (v := .pointer (some ⟨p, 0, none⟩)) rfl (by kernel_rfl) (by kernel_rfl) (by kernel_rfl) (fun _ _ _ h => h) (Or.inl ⟨by kernel_rfl, fun V _ => by kernel_rfl⟩) trivial ?_
      simp only [Act.put, List.getElem_toArray, List.getElem_cons_succ, List.getElem_cons_zero, List.setIfInBounds_toArray, List.set_cons_zero, List.set_cons_succ]
      refine wpAnyH_take (i := 3) (v := .pointer (some ⟨p, 0, none⟩)) rfl (by kernel_rfl) (by kernel_rfl) (by kernel_rfl) (fun _ _ _ h => h) (Or.inl ⟨by kernel_rfl, fun V _ => by kernel_rfl⟩) trivial ?_
      simp only [Act.put, List.getElem_toArray, List.getElem_cons_succ, List.getElem_cons_zero, List.setIfInBounds_toArray, List.set_cons_zero, List.set_cons_succ]
      refine wpAnyH_take (i := 5) (v := .int .i64 (g : Int)) rfl (by kernel_rfl) (by kernel_rfl) (by kernel_rfl) (fun _ _ _ h => h) (Or.inl ⟨by kernel_rfl, fun V _ => by kernel_rfl⟩) trivial ?_
      simp only [Act.put, List.getElem_toArray, List.getElem_cons_succ, List.getElem_cons_zero, List.setIfInBounds_toArray, List.set_cons_zero, List.set_cons_succ]
      refine Grow.wpAnyH_from (w0 := w5.drew) [0, 1, 2, 3, 5] [4, 6, 7] #[true, true, true, true, true, true, true, true, false, false, false, false] [(some 51, 4), (some 53, 6), (some 54, 7)] 4 (TG (fun j lo => match j with | 4 => .slice A n k | 6 => .agg Z.toArray | _ => .slice (some ⟨lo, 0, none⟩) 1 1) (fun j => match j with | 7 => some (32, Z.toArray) | _ => none)) (by kernel_rfl) (by kernel_rfl) (by kernel_rfl) (by decide) (by kernel_rfl) (by kernel_rfl) (by kernel_rfl) (fun _ _ => trivial) (TG.mono _ _) ?_ ?_
      · refine Grow.StepsD.cons [] [] rfl (by kernel_rfl) (by kernel_rfl) (fun vs lo up W hg hT K hK => ?_) ?_
        · obtain ⟨⟨⟨c0, c1⟩, e2, e3⟩, e6⟩ := HB.out _ (grown_trans hgr (grown_undrew hg))
          simp only [Grow.putL] at hK ⊢
          go_simp
          exact hK _ _ (World.grownBy.refl _ _) (TG.plain rfl rfl)
        refine Grow.StepsD.cons [] [] rfl (by kernel_rfl) (by kernel_rfl) (fun vs lo up W hg hT K hK => ?_) ?_
        · have hrW := hrow.kept0 (grown_undrew hg)
          simp only [Grow.putL] at hK ⊢
          refine wp_value (exec_load_row bigN (x := .tmp 6) rfl (by kernel_rfl) W hrW (by rw [List.size_toArray]; exact hZo.out.len)) ?_
          exact hK _ _ (World.grownBy.refl _ _) (TG.plain rfl rfl)
        refine Grow.StepsD.cons [6] [(some 53, 6)] rfl (by kernel_rfl) (by kernel_rfl) (fun vs lo up W hg hT K hK => ?_) Grow.StepsD.nil
        · have t6 : vs 6 = .agg Z.toArray := hT.1
          simp only [Grow.putL, t6] at hK ⊢
          refine wp_value (exec_buildSlice (parts := #[(0, .agg Z.toArray)]) rfl (by kernel_rfl) (run_one W Z hZo.out.len)) ?_
          exact hK _ _ (World.grownBy_alloc _ _ _) ⟨rfl, fun T cs e => by cases e; exact ⟨Row.new _ _ _, World.size_alloc _ _⟩⟩
      intro vs lo up V hgV hT hbb hap
      have hgW := grown_undrew hgV
      obtain ⟨t4, t6, t7⟩ := hT
      have q4 : vs 4 = .slice A n k := t4.1
      have q6 : vs 6 = .agg Z.toArray := t6.1
      have q7 : vs 7 = .slice (some ⟨lo 7, 0, none⟩) 1 1 := t7.1
      have hrow7 := (t7.2 _ _ rfl).1
      have hlo7 := (hbb 7 (by simp)).1
      simp only [Grow.putL, q4, q6, q7, Act.put, List.getElem_toArray, List.getElem_cons_succ, List.getElem_cons_zero, List.setIfInBounds_toArray, List.set_cons_zero, List.set_cons_succ]
      clear hbb hap q4 q6 q7 t4 t6 t7 hgV
      generalize lo 7 = g7 at *
      have hg7 : W0.heap.size ≤ g7 := by
        have h1 : w5.drew.heap.size ≤ g7 := hlo7
        have h2 : w5.drew.heap.size = w5.heap.size := rfl
        have h3 := hgr.size
        omega
      have hgV := grown_trans hgr hgW
      obtain ⟨_, nrow⟩ := hfar.out g7 hg7
      have DV := HD.out _ hgV
      have hownZ : Own V W0.heap.size 32 51 (some ⟨g7, 0, none⟩) 1 1 [Z].flatten := by
        have hl51 := hZo.out.len
        rw [nodeLs_len] at hl51
        refine ⟨by simp [hl51], Nat.le_refl _, by unfold maxLen; omega, .inr ⟨g7, Z.toArray, rfl, hg7, hrow7, by simp [hl51], ?_⟩⟩
        simp only [List.flatten_cons, List.flatten_nil, List.append_nil]
        rw [List.take_of_length_le (by omega)]
      have hokZ : ∀ y ∈ [Z], OkAll nodeLs y := fun y hy => by
        rw [List.mem_singleton.1 hy]
        exact hZo.out
      have CI := Lib.hid (ins_nodes V B n k g 1 1 W0.heap.size A (some ⟨g7, 0, none⟩) L [Z] (by have := hB0.out; have := hgV.size; omega) DV.ok hokZ DV.own hownZ (fun e => nrow (by rw [← e]; rfl)) hgn (by omega) (by omega))
      have DV' := Lib.hid DV
      have hgV' := Lib.hid hgV
      clear DV hownZ hrow7 hlo7 hrow hgW hgr
      refine wpAnyH_ready (rs := [8]) (by kernel_rfl) (by simp) ?_
      refine AllReadyH.cons rfl (fun K hK => ?_) AllReadyH.nil
      go_simp
      refine CI.out.mono ?_; rintro r w6 ⟨A6, c6, rfl, hown6, hg6'⟩
      refine hK.out _ _ trivial (fun _ => ?_)
      clear hK K
      simp only [Act.put, List.getElem_toArray, List.getElem_cons_succ, List.getElem_cons_zero, List.setIfInBounds_toArray, List.set_cons_zero, List.set_cons_succ]
      refine wpAnyH_take (i := 9) (v := .pointer (some ⟨p, 0, none⟩)) rfl (by kernel_rfl) (by kernel_rfl) (by kernel_rfl) (fun _ _ _ h => h) (Or.inl ⟨by kernel_rfl, fun V _ => by kernel_rfl⟩) trivial ?_
      simp only [Act.put, List.getElem_toArray, List.getElem_cons_succ, List.getElem_cons_zero, List.setIfInBounds_toArray, List.set_cons_zero, List.set_cons_succ]
      refine wpAnyH_take (i := 10) (v := .pointer (some ⟨p, 0, none⟩)) rfl (by kernel_rfl) (by kernel_rfl) (by kernel_rfl) (fun _ _ _ h => h) (Or.inl ⟨by kernel_rfl, fun V _ => by kernel_rfl⟩) trivial ?_
      simp only [Act.put, List.getElem_toArray, List.getElem_cons_succ, List.getElem_cons_zero, List.setIfInBounds_toArray, List.set_cons_zero, List.set_cons_succ]
      have hokp : ∀ y ∈ L.take g ++ [Z] ++ L.drop g, OkAll nodeLs y := fun y hy => by
        rcases List.mem_append.1 hy with hy | hy
        · rcases List.mem_append.1 hy with hy | hy
          · exact DV'.out.ok y (List.mem_of_mem_take hy)
          · exact hokZ y hy
        · exact DV'.out.ok y (List.mem_of_mem_drop hy)
      have hp6 := DV'.out.put hg6' hown6 hokp (by omega)
      have hb5 := DV'.out.two.kept hg6' (Ne.symm DV'.out.row_ne)
      have f0 := hb5.f 0
      have c0'' := hb5.c0
      have hp6' := Lib.hid hp6
      clear hp6 hb5 hown6 hg6' hokp CI
      refine wpAnyH_ready (rs := [11]) (by kernel_rfl) (by simp) ?_
      refine AllReadyH.cons rfl (fun K hK => ?_) AllReadyH.nil
      go_simp
      refine hK.out _ _ trivial (fun _ => ?_)
      clear hK K
      refine wpAnyH_done (by kernel_rfl) ?_ _
      clear f0 c0''
      obtain ⟨DX, MX⟩ := hp6'.out
      generalize w6.setCell ⟨p, 0, none⟩ (.slice A6 (n + 1) c6) = w7 at *
      have d1 := DX.two.c1
      have f1 := DX.two.f 1
      have hwx : IntKind.i64.wrap (x + 1) = x + 1 := by rw [IntKind.wrap_i64]; omega
      have hfin : OpPost w B p (rowOf A k) (insertL L x c.par c.num c.y) (.returned (.tuple #[])) (w7.setCell ⟨p, 1, none⟩ (.int .i64 (x + 1))) := by
        rw [hfinP.out]
        refine (OpPost.fine rfl ⟨DX.two.s1 _, DX.own.kept_ (grownBy_setCell _ _ _ _) DX.two (by decide), DX.ok, DX.few⟩ (((Mut.ofGrown hgV'.out (.inl rfl)).trans MX (.inl rfl)).trans (Mut.ofGrown (grownBy_setCell _ _ _ _) (.inr (.inl rfl))) (.inl rfl))).widen hg0'.out
      have hfin' := Lib.hid hfin
      clear hfin DX MX hp6'
      go_wp2_with fail
      go_end0
      exact hfin'.out
    · have b1 : (kindN c.y == 0) = false := by simpa using hk.1
      have b2 : (kindN c.y == 1) = false := by simpa using hk.2
      have hk' := Lib.hid hk
      clear hk hkb
      go_wp2_with fail
      refine (must_no 70 w3).mono ?_; rintro r w4 ⟨rfl, rfl⟩
      go_wp2_with fail
      refine ⟨rfl, ?_⟩
      rw [hspec.out, if_neg hk'.out.1, if_neg hk'.out.2]
      exact (OpPost.err rfl (HD.out _ hg3) (Mut.ofGrown hg3 (.inl rfl))).widen hg0'.out
  · have CG := Lib.hid (gap_no (c := k) (x := x) (HD.out _ hgd).nodes hdp hy)
    have hgE := Lib.hid (gapE_no hy)
    have hfin : ∀ w2, W0.grownBy w2 none → OpPost w B p (rowOf A k) (insertL L x c.par c.num c.y) (.panicked [{ v := wrongV 70, recovered := false }]) w2 := fun w2 hg => by
      unfold insertL
      rw [hgE.out]
      exact (OpPost.err rfl (HD.out _ hg) (Mut.ofGrown hg (.inl rfl))).widen hg0'.out
    have hfin' := Lib.hid hfin
    clear hfin hy hdp
    refine wp_region_held (S := (fun W => (W.cell? ⟨p, 0, none⟩ = some (.slice A n k) ∧ W.cell? ⟨p, 1, none⟩ = some (.int .i64 x)) ∧ W.cell? ⟨w.heap.size, 2, none⟩ = some (.int .i64 c.par) ∧ W.cell? ⟨w.heap.size, 3, none⟩ = some (.int .i64 c.num))) (by kernel_rfl) ?_
    refine wpAnyH_take (i := 0) (v := .pointer (some ⟨p, 0, none⟩)) rfl (by kernel_rfl) (by kernel_rfl) (by kernel_rfl) (fun _ _ _ h => h) (Or.inl ⟨by kernel_rfl, fun V _ => by kernel_rfl⟩) ⟨⟨c0, c1⟩, e2, e3⟩ ?_
    simp only [Act.put, List.getElem_toArray, List.getElem_cons_succ, List.getElem_cons_zero, List.setIfInBounds_toArray, List.set_cons_zero, List.set_cons_succ]
    refine wpAnyH_take (i := 1) (v := .pointer (some ⟨p, 0, none⟩)) rfl (by kernel_rfl) (by kernel_rfl) (by kernel_rfl) (fun _ _ _ h => h) (Or.inl ⟨by kernel_rfl, fun V _ => by kernel_rfl⟩) ⟨⟨c0, c1⟩, e2, e3⟩ ?_
    simp only [Act.put, List.getElem_toArray, List.getElem_cons_succ, List.getElem_cons_zero, List.setIfInBounds_toArray, List.set_cons_zero, List.set_cons_succ]
    refine wpAnyH_take (i := 2) (v := .agg #[.slice A n k, .int .i64 x]) rfl (by kernel_rfl) (by kernel_rfl) (by kernel_rfl) (fun _ _ _ h => h) (Or.inl ⟨by kernel_rfl, fun V hV => by obtain ⟨⟨a0, a1⟩, a2, a3⟩ := hV; go_simp⟩) ⟨⟨c0, c1⟩, e2, e3⟩ ?_
    simp only [Act.put, List.getElem_toArray, List.getElem_cons_succ, List.getElem_cons_zero, List.setIfInBounds_toArray, List.set_cons_zero, List.set_cons_succ]
    refine wpAnyH_take (i := 3) (v := .pointer (some ⟨w.heap.size, 2, none⟩)) rfl (by kernel_rfl) (by kernel_rfl) (by kernel_rfl) (fun _ _ _ h => h) (Or.inl ⟨by kernel_rfl, fun V _ => by kernel_rfl⟩) ⟨⟨c0, c1⟩, e2, e3⟩ ?_
    simp only [Act.put, List.getElem_toArray, List.getElem_cons_succ, List.getElem_cons_zero, List.setIfInBounds_toArray, List.set_cons_zero, List.set_cons_succ]
    refine wpAnyH_take (i := 4) (v := .int .i64 c.par) rfl (by kernel_rfl) (by kernel_rfl) (by kernel_rfl) (fun _ _ _ h => h) (Or.inl ⟨by kernel_rfl, fun V hV => by obtain ⟨⟨a0, a1⟩, a2, a3⟩ := hV; go_simp⟩) ⟨⟨c0, c1⟩, e2, e3⟩ ?_
    simp only [Act.put, List.getElem_toArray, List.getElem_cons_succ, List.getElem_cons_zero, List.setIfInBounds_toArray, List.set_cons_zero, List.set_cons_succ]
    refine wpAnyH_take (i := 5) (v := .pointer (some ⟨w.heap.size, 3, none⟩)) rfl (by kernel_rfl) (by kernel_rfl) (by kernel_rfl) (fun _ _ _ h => h) (Or.inl ⟨by kernel_rfl, fun V _ => by kernel_rfl⟩) ⟨⟨c0, c1⟩, e2, e3⟩ ?_
    simp only [Act.put, List.getElem_toArray, List.getElem_cons_succ, List.getElem_cons_zero, List.setIfInBounds_toArray, List.set_cons_zero, List.set_cons_succ]
    refine wpAnyH_take (i := 6) (v := .int .i64 c.num) rfl (by kernel_rfl) (by kernel_rfl) (by kernel_rfl) (fun _ _ _ h => h) (Or.inl ⟨by kernel_rfl, fun V hV => by obtain ⟨⟨a0, a1⟩, a2, a3⟩ := hV; go_simp⟩) ⟨⟨c0, c1⟩, e2, e3⟩ ?_
    simp only [Act.put, List.getElem_toArray, List.getElem_cons_succ, List.getElem_cons_zero, List.setIfInBounds_toArray, List.set_cons_zero, List.set_cons_succ]
    refine wpAnyH_ready (rs := [7]) (by kernel_rfl) (by simp) ?_
    refine AllReadyH.cons rfl (fun K hK => ?_) AllReadyH.nil
    go_simp
    refine CG.out.mono ?_; rintro r w2 ⟨rfl, hg2⟩
    exact ⟨rfl, hfin'.out _ (grown_trans hgd hg2)⟩
end Go.Proofs.Ytjnbfgogmhfbiaa
