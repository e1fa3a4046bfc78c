/- The walk of StyleTurned. -/
import Derived.Test.YtkpfhhfecjeflaaAk
import Derived.Deep.RegionHeld3
import Derived.KernelRfl
namespace Go.Proofs.Ytkpfhhfecjeflaa
open Go Go.RowKit
/-- A style with its sides exchanged. -/
def turn1 (s : Sty) : Sty := (((s.put 20 (s.n 16)).put 21 (s.n 17)).put 16 (s.n 20)).put 17 (s.n 21)
def turn2 (s : Sty) : Sty := ((turn1 s).put 25 (s.n 27)).put 27 (s.n 25)
def turnS (s : Sty) : Sty := ((turn2 s).put 22 (s.n 24)).put 24 (s.n 22)
theorem turnS_ok {s : Sty} (h : s.ok) : (turnS s).ok :=
  Sty.put_ok (Sty.put_ok (Sty.put_ok (Sty.put_ok (Sty.put_ok (Sty.put_ok (Sty.put_ok (Sty.put_ok h (fun k hk => by cases hk; exact h 16 _ rfl)) (fun k hk => by cases hk; exact h 17 _ rfl)) (fun k hk => by cases hk; exact h 20 _ rfl)) (fun k hk => by cases hk; exact h 21 _ rfl)) (fun k hk => by cases hk; exact h 27 _ rfl)) (fun k hk => by cases hk; exact h 25 _ rfl)) (fun k hk => by cases hk; exact h 24 _ rfl)) (fun k hk => by cases hk; exact h 22 _ rfl)
theorem side_turn (s : Sty) : r6 (turnS s) = r6 s := by
  have e0 : side (turnS s) 0 = (lengthB (s.n 14) (s.n 15) (-274877906944) && (amongB (s.n 24) 0 274877906944 && amongB (s.n 26) 0 274877906944)) := rfl
  have e1 : side (turnS s) 1 = (lengthB (s.n 20) (s.n 21) (-274877906944) && (amongB (s.n 23) 0 274877906944 && amongB (s.n 25) 0 274877906944)) := rfl
  have e2 : side (turnS s) 2 = (lengthB (s.n 18) (s.n 19) (-274877906944) && (amongB (s.n 22) 0 274877906944 && amongB (s.n 28) 0 274877906944)) := rfl
  have e3 : side (turnS s) 3 = (lengthB (s.n 16) (s.n 17) (-274877906944) && (amongB (s.n 27) 0 274877906944 && amongB (s.n 29) 0 274877906944)) := rfl
  have f0 : side s 0 = (lengthB (s.n 14) (s.n 15) (-274877906944) && (amongB (s.n 22) 0 274877906944 && amongB (s.n 26) 0 274877906944)) := rfl
  have f1 : side s 1 = (lengthB (s.n 16) (s.n 17) (-274877906944) && (amongB (s.n 23) 0 274877906944 && amongB (s.n 27) 0 274877906944)) := rfl
  have f2 : side s 2 = (lengthB (s.n 18) (s.n 19) (-274877906944) && (amongB (s.n 24) 0 274877906944 && amongB (s.n 28) 0 274877906944)) := rfl
  have f3 : side s 3 = (lengthB (s.n 20) (s.n 21) (-274877906944) && (amongB (s.n 25) 0 274877906944 && amongB (s.n 29) 0 274877906944)) := rfl
  unfold r6
  rw [e0, e1, e2, e3, f0, f1, f2, f3]
  generalize lengthB (s.n 14) (s.n 15) (-274877906944) = a1
  generalize lengthB (s.n 16) (s.n 17) (-274877906944) = a2
  generalize lengthB (s.n 18) (s.n 19) (-274877906944) = a3
  generalize lengthB (s.n 20) (s.n 21) (-274877906944) = a4
  generalize amongB (s.n 22) 0 274877906944 = b1
  generalize amongB (s.n 23) 0 274877906944 = b2
  generalize amongB (s.n 24) 0 274877906944 = b3
  generalize amongB (s.n 25) 0 274877906944 = b4
  generalize amongB (s.n 26) 0 274877906944 = b5
  generalize amongB (s.n 27) 0 274877906944 = b6
  generalize amongB (s.n 28) 0 274877906944 = b7
  generalize amongB (s.n 29) 0 274877906944 = b8
  cases a1 <;> cases a2 <;> cases a3 <;> cases a4 <;> cases b1 <;> cases b2 <;> cases b3 <;> cases b4 <;> cases b5 <;> cases b6 <;> cases b7 <;> simp
theorem may_turn (s : Sty) : mayB (turnS s) = mayB s := by
  unfold mayB
  rw [side_turn]
  rfl
theorem across_turn (s : Sty) : acrossV (turnS s) = acrossV s := by
  show s.n 27 + s.n 29 + s.n 23 + s.n 25 = s.n 25 + s.n 29 + s.n 23 + s.n 27
  omega
theorem up_turn (s : Sty) : upV (turnS s) = upV s := by
  show s.n 24 + s.n 26 + s.n 22 + s.n 28 = s.n 22 + s.n 26 + s.n 24 + s.n 28
  omega
theorem edges_turn (s : Sty) : edgesV (turnS s) = edgesV s := by
  unfold edgesV
  rw [may_turn, across_turn, up_turn]
theorem width_turn (s : Sty) (of : Int) : widthV (turnS s) of = widthV s of := by
  unfold widthV
  rw [may_turn, across_turn]
  rfl
theorem height_turn (s : Sty) : heightV (turnS s) = heightV s := by
  unfold heightV
  rw [may_turn, up_turn]
  rfl
set_option maxRecDepth 100000 in
set_option maxHeartbeats 2000000 in
theorem StyleTurned_walk (w : World) (cs : List Value) (ok : OkAll styL cs) (of : Int) (wo : (Lit.int .i64 of).wf = true) :
    Calls Try.prog 7 #[.agg ⟨cs⟩, .int .i64 of] w fun e w' => e = .returned (.bool true) ∧ Below w.heap.size w w' := by
  obtain ⟨s, hs, rfl⟩ := Sty.open ok
  have ho := swf_i64 wo
  obtain ⟨x0, y0, e0, hE⟩ : ∃ x y e, edgesV s = .tuple #[.int .i64 x, .int .i64 y, .int .i64 e] := by
    unfold edgesV
    split
    · exact ⟨_, _, _, rfl⟩
    · exact ⟨_, _, _, rfl⟩
  have CE := (fun W => edges_any s W hs)
  have CF := (fun W => edges_any (turnS s) W (turnS_ok hs))
  have CW := (fun W => width_any s of W hs ho)
  have CX := (fun W => width_any (turnS s) of W (turnS_ok hs) ho)
  have CH := (fun W => height_any s W hs)
  have CY := (fun W => height_any (turnS s) W (turnS_ok hs))
  have CM := (fun W => may_any s W hs)
  have CN := (fun W => may_any (turnS s) W (turnS_ok hs))
  rw [edges_turn] at CF
  rw [width_turn] at CX
  rw [height_turn] at CY
  rw [may_turn] at CN
  rw [hE] at CE CF
  generalize widthV s of = gw at *
  generalize heightV s = gh at *
  generalize mayB s = qm at *
  obtain ⟨n1, is1, e1⟩ := gw
  obtain ⟨n2, is2, e2⟩ := gh
  simp only [Got.val] at CW CX CH CY
  replace CE := Lib.hid CE
  replace CF := Lib.hid CF
  replace CW := Lib.hid CW
  replace CX := Lib.hid CX
  replace CH := Lib.hid CH
  replace CY := Lib.hid CY
  replace CM := Lib.hid CM
  replace CN := Lib.hid CN
  clear hE ho wo ok
  have r0 : Row (w.alloc (.cells s.cells 33)) w.heap.size 33 s.cells := Row.new _ _ _
  have hg := World.grownBy_alloc w (.cells s.cells 33) none
  have hgle := Nat.le_refl w.heap.size
  obtain ⟨gs, hge⟩ : ∃ g, g = w.heap.size := ⟨_, rfl⟩
  rw [← hge] at r0
  rw [show w.heap.size ≤ w.heap.size ↔ w.heap.size ≤ gs by rw [hge]] at hgle
  go_enter Try.func7, Try.ntmps7
  go_wp2_with fail
  rw [← hge]
  clear hge
  refine (sawake_any _).mono ?_; rintro e w1 ⟨rfl, hx⟩
  replace r0 := r0.kept0 hx
  replace hg := grown_trans hg hx
  clear hx
  go_upto_region 4 with (first | (refine wpList_row bigS r0 (Sty.size _) rfl rfl rfl ?_; simp only [Act.put, List.setIfInBounds_toArray, List.set_cons_zero, List.set_cons_succ]) | (refine wpList_fresh bigS (Sty.size _) rfl rfl rfl _ _ rfl s.cells (Sty.size _) (sty_one _) rfl rfl ?_; intro w2 hgN hrN; simp only [Act.put, List.setIfInBounds_toArray, List.set_cons_zero, List.set_cons_succ]))
  have hlt := r0.lt
  have hgl := hg.size
  have nst : gs ≠ w1.heap.size := by omega
  have rt := hrN
  have rs := r0.kept0 hgN
  replace hg := grown_trans hg hgN
  have hgt : w.heap.size ≤ w1.heap.size := hgl
  clear r0 hrN hgN hlt hgl
  generalize w1.heap.size = gt at *
  have nts : gt ≠ gs := Ne.symm nst
  have c16 := (rs.at 16).trans s.c16
  have c17 := (rs.at 17).trans s.c17
  have c20 := (rs.at 20).trans s.c20
  have c21 := (rs.at 21).trans s.c21
  have d16 := (rt.at 16).trans s.c16
  have d17 := (rt.at 17).trans s.c17
  have d20 := (rt.at 20).trans s.c20
  have d21 := (rt.at 21).trans s.c21
  have f16 := rt.free 16
  have f17 := rt.free 17
  have f20 := rt.free 20
  have f21 := rt.free 21
  go_region_held3 (fun V => V.cell? ⟨gs, 16, none⟩ = some (.int .u8 (s.n 16)) ∧ V.cell? ⟨gs, 17, none⟩ = some (.int .i64 (s.n 17)) ∧ V.cell? ⟨gs, 20, none⟩ = some (.int .u8 (s.n 20)) ∧ V.cell? ⟨gs, 21, none⟩ = some (.int .i64 (s.n 21))) (go_keep) (fail)
  go_upto_region 5 with fail
  have ru0 := rt.set 20 (.int .u8 (s.n 16))
  have rv0 := rs.keptNe (grownBy_setCell w2 gt 20 (.int .u8 (s.n 16))) nst
  have hh0 := grown_new hg (grownBy_setCell w2 gt 20 (.int .u8 (s.n 16))) (fun e h => by cases h; exact hgt)
  have ru1 := ru0.set 21 (.int .i64 (s.n 17))
  have rv1 := rv0.keptNe (grownBy_setCell _ gt 21 (.int .i64 (s.n 17))) nst
  have hh1 := grown_new hh0 (grownBy_setCell _ gt 21 (.int .i64 (s.n 17))) (fun e h => by cases h; exact hgt)
  have ru2 := ru1.set 16 (.int .u8 (s.n 20))
  have rv2 := rv1.keptNe (grownBy_setCell _ gt 16 (.int .u8 (s.n 20))) nst
  have hh2 := grown_new hh1 (grownBy_setCell _ gt 16 (.int .u8 (s.n 20))) (fun e h => by cases h; exact hgt)
  have ru3 := ru2.set 17 (.int .i64 (s.n 21))
  have rv3 := rv2.keptNe (grownBy_setCell _ gt 17 (.int .i64 (s.n 21))) nst
  have hh3 := grown_new hh2 (grownBy_setCell _ gt 17 (.int .i64 (s.n 21))) (fun e h => by cases h; exact hgt)
  have rt' : Row ((((w2.setCell ⟨gt, 20, none⟩ (.int .u8 (s.n 16))).setCell ⟨gt, 21, none⟩ (.int .i64 (s.n 17))).setCell ⟨gt, 16, none⟩ (.int .u8 (s.n 20))).setCell ⟨gt, 17, none⟩ (.int .i64 (s.n 21))).drew gt 33 (turn1 s).cells := ru3.named (turn1 s) (by kernel_rfl)
  have rs' : Row ((((w2.setCell ⟨gt, 20, none⟩ (.int .u8 (s.n 16))).setCell ⟨gt, 21, none⟩ (.int .i64 (s.n 17))).setCell ⟨gt, 16, none⟩ (.int .u8 (s.n 20))).setCell ⟨gt, 17, none⟩ (.int .i64 (s.n 21))).drew gs 33 s.cells := rv3
  have hg' := grown_drew hh3
  clear ru0 rv0 hh0 ru1 rv1 hh1 ru2 rv2 hh2 ru3 rv3 hh3 rt rs hg c16 c17 c20 c21 d16 d17 d20 d21 f16 f17 f20 f21
  generalize ((((w2.setCell ⟨gt, 20, none⟩ (.int .u8 (s.n 16))).setCell ⟨gt, 21, none⟩ (.int .i64 (s.n 17))).setCell ⟨gt, 16, none⟩ (.int .u8 (s.n 20))).setCell ⟨gt, 17, none⟩ (.int .i64 (s.n 21))).drew = w2' at *
  have rt := rt'
  have rs := rs'
  have hg := hg'
  clear rt' rs' hg'
  have c27 := (rs.at 27).trans s.c27
  have c25 := (rs.at 25).trans s.c25
  have d27 := (rt.at 27).trans (turn1 s).c27
  have d25 := (rt.at 25).trans (turn1 s).c25
  have f27 := rt.free 27
  have f25 := rt.free 25
  go_region_held3 (fun V => V.cell? ⟨gs, 27, none⟩ = some (.int .i64 (s.n 27)) ∧ V.cell? ⟨gs, 25, none⟩ = some (.int .i64 (s.n 25))) (go_keep) (fail)
  go_upto_region 6 with fail
  have ru0 := rt.set 25 (.int .i64 (s.n 27))
  have rv0 := rs.keptNe (grownBy_setCell w2' gt 25 (.int .i64 (s.n 27))) nst
  have hh0 := grown_new hg (grownBy_setCell w2' gt 25 (.int .i64 (s.n 27))) (fun e h => by cases h; exact hgt)
  have ru1 := ru0.set 27 (.int .i64 (s.n 25))
  have rv1 := rv0.keptNe (grownBy_setCell _ gt 27 (.int .i64 (s.n 25))) nst
  have hh1 := grown_new hh0 (grownBy_setCell _ gt 27 (.int .i64 (s.n 25))) (fun e h => by cases h; exact hgt)
  have rt' : Row ((w2'.setCell ⟨gt, 25, none⟩ (.int .i64 (s.n 27))).setCell ⟨gt, 27, none⟩ (.int .i64 (s.n 25))).drew gt 33 (turn2 s).cells := ru1.named (turn2 s) (by kernel_rfl)
  have rs' : Row ((w2'.setCell ⟨gt, 25, none⟩ (.int .i64 (s.n 27))).setCell ⟨gt, 27, none⟩ (.int .i64 (s.n 25))).drew gs 33 s.cells := rv1
  have hg' := grown_drew hh1
  clear ru0 rv0 hh0 ru1 rv1 hh1 rt rs hg c27 c25 d27 d25 f27 f25
  generalize ((w2'.setCell ⟨gt, 25, none⟩ (.int .i64 (s.n 27))).setCell ⟨gt, 27, none⟩ (.int .i64 (s.n 25))).drew = w2'' at *
  have rt := rt'
  have rs := rs'
  have hg := hg'
  clear rt' rs' hg'
  have c24 := (rs.at 24).trans s.c24
  have c22 := (rs.at 22).trans s.c22
  have d24 := (rt.at 24).trans (turn2 s).c24
  have d22 := (rt.at 22).trans (turn2 s).c22
  have f24 := rt.free 24
  have f22 := rt.free 22
  go_region_held3 (fun V => V.cell? ⟨gs, 24, none⟩ = some (.int .i64 (s.n 24)) ∧ V.cell? ⟨gs, 22, none⟩ = some (.int .i64 (s.n 22))) (go_keep) (fail)
  go_upto_region 7 with fail
  have ru0 := rt.set 22 (.int .i64 (s.n 24))
  have rv0 := rs.keptNe (grownBy_setCell w2'' gt 22 (.int .i64 (s.n 24))) nst
  have hh0 := grown_new hg (grownBy_setCell w2'' gt 22 (.int .i64 (s.n 24))) (fun e h => by cases h; exact hgt)
  have ru1 := ru0.set 24 (.int .i64 (s.n 22))
  have rv1 := rv0.keptNe (grownBy_setCell _ gt 24 (.int .i64 (s.n 22))) nst
  have hh1 := grown_new hh0 (grownBy_setCell _ gt 24 (.int .i64 (s.n 22))) (fun e h => by cases h; exact hgt)
  have rt' : Row ((w2''.setCell ⟨gt, 22, none⟩ (.int .i64 (s.n 24))).setCell ⟨gt, 24, none⟩ (.int .i64 (s.n 22))).drew gt 33 (turnS s).cells := ru1.named (turnS s) (by kernel_rfl)
  have rs' : Row ((w2''.setCell ⟨gt, 22, none⟩ (.int .i64 (s.n 24))).setCell ⟨gt, 24, none⟩ (.int .i64 (s.n 22))).drew gs 33 s.cells := rv1
  have hg' := grown_drew hh1
  clear ru0 rv0 hh0 ru1 rv1 hh1 rt rs hg c24 c22 d24 d22 f24 f22
  generalize ((w2''.setCell ⟨gt, 22, none⟩ (.int .i64 (s.n 24))).setCell ⟨gt, 24, none⟩ (.int .i64 (s.n 22))).drew = w2''' at *
  have rt := rt'
  have rs := rs'
  have hg := hg'
  clear rt' rs' hg'
  go_wp2_with (refine wpList_row bigS rs (Sty.size _) rfl rfl rfl ?_; simp only [Act.put, List.setIfInBounds_toArray, List.set_cons_zero, List.set_cons_succ])
  refine (CE.out _).mono ?_; rintro e V1 ⟨rfl, hx⟩
  replace rs := rs.kept0 hx
  replace rt := rt.kept0 hx
  replace hg := grown_trans hg hx
  clear hx
  go_wp2_with (refine wpList_row bigS rt (Sty.size _) rfl rfl rfl ?_; simp only [Act.put, List.setIfInBounds_toArray, List.set_cons_zero, List.set_cons_succ])
  refine (CF.out _).mono ?_; rintro e V2 ⟨rfl, hx⟩
  replace rs := rs.kept0 hx
  replace rt := rt.kept0 hx
  replace hg := grown_trans hg hx
  clear hx
  go_wp2_with (refine wpList_row bigS rs (Sty.size _) rfl rfl rfl ?_; simp only [Act.put, List.setIfInBounds_toArray, List.set_cons_zero, List.set_cons_succ])
  refine (CW.out _).mono ?_; rintro e V3 ⟨rfl, hx⟩
  replace rs := rs.kept0 hx
  replace rt := rt.kept0 hx
  replace hg := grown_trans hg hx
  clear hx
  go_wp2_with (refine wpList_row bigS rt (Sty.size _) rfl rfl rfl ?_; simp only [Act.put, List.setIfInBounds_toArray, List.set_cons_zero, List.set_cons_succ])
  refine (CX.out _).mono ?_; rintro e V4 ⟨rfl, hx⟩
  replace rs := rs.kept0 hx
  replace rt := rt.kept0 hx
  replace hg := grown_trans hg hx
  clear hx
  go_wp2_with (refine wpList_row bigS rs (Sty.size _) rfl rfl rfl ?_; simp only [Act.put, List.setIfInBounds_toArray, List.set_cons_zero, List.set_cons_succ])
  refine (CH.out _).mono ?_; rintro e V5 ⟨rfl, hx⟩
  replace rs := rs.kept0 hx
  replace rt := rt.kept0 hx
  replace hg := grown_trans hg hx
  clear hx
  go_wp2_with (refine wpList_row bigS rt (Sty.size _) rfl rfl rfl ?_; simp only [Act.put, List.setIfInBounds_toArray, List.set_cons_zero, List.set_cons_succ])
  refine (CY.out _).mono ?_; rintro e V6 ⟨rfl, hx⟩
  replace rs := rs.kept0 hx
  replace rt := rt.kept0 hx
  replace hg := grown_trans hg hx
  clear hx
  go_wp2_with fail
  have hH : Row V6.drew gs 33 s.cells ∧ Row V6.drew gt 33 (turnS s).cells := ⟨rs, rt⟩
  replace hg := grown_drew hg
  refine wp_region_held_drew (S := fun V => Row V gs 33 s.cells ∧ Row V gt 33 (turnS s).cells) (by kernel_rfl) hH (fun hH => ?_)
  refine wpAnyH_load_row bigS 0 (.tmp 2) 95 gs (s).cells (by kernel_rfl) (by kernel_rfl) (by kernel_rfl) (by kernel_rfl) (fun _ _ _ h => h) (by kernel_rfl) (Sty.size _) hH (fun _ h => h.1) ?_
  try simp only [Act.put, List.getElem_toArray, List.getElem_cons_succ, List.getElem_cons_zero, List.setIfInBounds_toArray, List.set_cons_zero, List.set_cons_succ]
  refine wpAnyH_load_row bigS 2 (.tmp 5) 97 gt (turnS s).cells (by kernel_rfl) (by kernel_rfl) (by kernel_rfl) (by kernel_rfl) (fun _ _ _ h => h) (by kernel_rfl) (Sty.size _) hH (fun _ h => h.2) ?_
  try simp only [Act.put, List.getElem_toArray, List.getElem_cons_succ, List.getElem_cons_zero, List.setIfInBounds_toArray, List.set_cons_zero, List.set_cons_succ]
  refine wpAnyH_ready (rs := [1]) (by kernel_rfl) (by simp) ?_
  refine AllReadyH.cons rfl (fun K hK => ?_) AllReadyH.nil
  go_simp
  refine (CM.out _).mono ?_; rintro e w1 ⟨rfl, hx⟩
  replace hg := grown_trans hg hx
  refine hK.out _ _ (⟨hH.1.kept0 hx, hH.2.kept0 hx⟩) (fun hH => ?_)
  clear hK K
  try simp only [Act.put, List.getElem_toArray, List.getElem_cons_succ, List.getElem_cons_zero, List.setIfInBounds_toArray, List.set_cons_zero, List.set_cons_succ]
  refine wpAnyH_ready (rs := [3]) (by kernel_rfl) (by simp) ?_
  refine AllReadyH.cons rfl (fun K hK => ?_) AllReadyH.nil
  go_simp
  refine (CN.out _).mono ?_; rintro e w1 ⟨rfl, hx⟩
  replace hg := grown_trans hg hx
  refine hK.out _ _ (⟨hH.1.kept0 hx, hH.2.kept0 hx⟩) (fun hH => ?_)
  clear hK K
  try simp only [Act.put, List.getElem_toArray, List.getElem_cons_succ, List.getElem_cons_zero, List.setIfInBounds_toArray, List.set_cons_zero, List.set_cons_succ]
  refine wpAnyH_take (i := 4) (v := ?_) rfl (by kernel_rfl) (by kernel_rfl) (by kernel_rfl) (fun _ _ _ h => h) (Or.inl ⟨by kernel_rfl, ?_⟩) hH ?_
  rotate_left
  · (intro W hS; clear hS; go_simp) <;> with_reducible rfl
  try simp only [Act.put, List.getElem_toArray, List.getElem_cons_succ, List.getElem_cons_zero, List.setIfInBounds_toArray, List.set_cons_zero, List.set_cons_succ]
  refine wpAnyH_take (i := 5) (v := ?_) rfl (by kernel_rfl) (by kernel_rfl) (by kernel_rfl) (fun _ _ _ h => h) (Or.inl ⟨by kernel_rfl, ?_⟩) hH ?_
  rotate_left
  · (intro W hS; clear hS; go_simp) <;> with_reducible rfl
  try simp only [Act.put, List.getElem_toArray, List.getElem_cons_succ, List.getElem_cons_zero, List.setIfInBounds_toArray, List.set_cons_zero, List.set_cons_succ]
  refine wpAnyH_take (i := 6) (v := ?_) rfl (by kernel_rfl) (by kernel_rfl) (by kernel_rfl) (fun _ _ _ h => h) (Or.inl ⟨by kernel_rfl, ?_⟩) hH ?_
  rotate_left
  · (intro W hS; clear hS; go_simp) <;> with_reducible rfl
  try simp only [Act.put, List.getElem_toArray, List.getElem_cons_succ, List.getElem_cons_zero, List.setIfInBounds_toArray, List.set_cons_zero, List.set_cons_succ]
  refine wpAnyH_take (i := 7) (v := ?_) rfl (by kernel_rfl) (by kernel_rfl) (by kernel_rfl) (fun _ _ _ h => h) (Or.inl ⟨by kernel_rfl, ?_⟩) hH ?_
  rotate_left
  · (intro W hS; clear hS; go_simp) <;> with_reducible rfl
  try simp only [Act.put, List.getElem_toArray, List.getElem_cons_succ, List.getElem_cons_zero, List.setIfInBounds_toArray, List.set_cons_zero, List.set_cons_succ]
  refine wpAnyH_take (i := 8) (v := ?_) rfl (by kernel_rfl) (by kernel_rfl) (by kernel_rfl) (fun _ _ _ h => h) (Or.inl ⟨by kernel_rfl, ?_⟩) hH ?_
  rotate_left
  · (intro W hS; clear hS; go_simp) <;> with_reducible rfl
  try simp only [Act.put, List.getElem_toArray, List.getElem_cons_succ, List.getElem_cons_zero, List.setIfInBounds_toArray, List.set_cons_zero, List.set_cons_succ]
  refine wpAnyH_take (i := 9) (v := ?_) rfl (by kernel_rfl) (by kernel_rfl) (by kernel_rfl) (fun _ _ _ h => h) (Or.inl ⟨by kernel_rfl, ?_⟩) hH ?_
  rotate_left
  · (intro W hS; clear hS; go_simp) <;> with_reducible rfl
  try simp only [Act.put, List.getElem_toArray, List.getElem_cons_succ, List.getElem_cons_zero, List.setIfInBounds_toArray, List.set_cons_zero, List.set_cons_succ]
  refine wpAnyH_take (i := 10) (v := ?_) rfl (by kernel_rfl) (by kernel_rfl) (by kernel_rfl) (fun _ _ _ h => h) (Or.inl ⟨by kernel_rfl, ?_⟩) hH ?_
  rotate_left
  · (intro W hS; clear hS; go_simp) <;> with_reducible rfl
  try simp only [Act.put, List.getElem_toArray, List.getElem_cons_succ, List.getElem_cons_zero, List.setIfInBounds_toArray, List.set_cons_zero, List.set_cons_succ]
  refine wpAnyH_take (i := 11) (v := ?_) rfl (by kernel_rfl) (by kernel_rfl) (by kernel_rfl) (fun _ _ _ h => h) (Or.inl ⟨by kernel_rfl, ?_⟩) hH ?_
  rotate_left
  · (intro W hS; clear hS; go_simp) <;> with_reducible rfl
  try simp only [Act.put, List.getElem_toArray, List.getElem_cons_succ, List.getElem_cons_zero, List.setIfInBounds_toArray, List.set_cons_zero, List.set_cons_succ]
  refine wpAnyH_take (i := 12) (v := ?_) rfl (by kernel_rfl) (by kernel_rfl) (by kernel_rfl) (fun _ _ _ h => h) (Or.inl ⟨by kernel_rfl, ?_⟩) hH ?_
  rotate_left
  · (intro W hS; clear hS; go_simp) <;> with_reducible rfl
  try simp only [Act.put, List.getElem_toArray, List.getElem_cons_succ, List.getElem_cons_zero, List.setIfInBounds_toArray, List.set_cons_zero, List.set_cons_succ]
  refine wpAnyH_take (i := 13) (v := ?_) rfl (by kernel_rfl) (by kernel_rfl) (by kernel_rfl) (fun _ _ _ h => h) (Or.inl ⟨by kernel_rfl, ?_⟩) hH ?_
  rotate_left
  · (intro W hS; clear hS; go_simp) <;> with_reducible rfl
  try simp only [Act.put, List.getElem_toArray, List.getElem_cons_succ, List.getElem_cons_zero, List.setIfInBounds_toArray, List.set_cons_zero, List.set_cons_succ]
  refine wpAnyH_take (i := 14) (v := ?_) rfl (by kernel_rfl) (by kernel_rfl) (by kernel_rfl) (fun _ _ _ h => h) (Or.inl ⟨by kernel_rfl, ?_⟩) hH ?_
  rotate_left
  · (intro W hS; clear hS; go_simp) <;> with_reducible rfl
  try simp only [Act.put, List.getElem_toArray, List.getElem_cons_succ, List.getElem_cons_zero, List.setIfInBounds_toArray, List.set_cons_zero, List.set_cons_succ]
  refine wpAnyH_take (i := 15) (v := ?_) rfl (by kernel_rfl) (by kernel_rfl) (by kernel_rfl) (fun _ _ _ h => h) (Or.inl ⟨by kernel_rfl, ?_⟩) hH ?_
  rotate_left
  · (intro W hS; clear hS; go_simp) <;> with_reducible rfl
  try simp only [Act.put, List.getElem_toArray, List.getElem_cons_succ, List.getElem_cons_zero, List.setIfInBounds_toArray, List.set_cons_zero, List.set_cons_succ]
  refine wpAnyH_take (i := 16) (v := ?_) rfl (by kernel_rfl) (by kernel_rfl) (by kernel_rfl) (fun _ _ _ h => h) (Or.inl ⟨by kernel_rfl, ?_⟩) hH ?_
  rotate_left
  · (intro W hS; clear hS; go_simp) <;> with_reducible rfl
  try simp only [Act.put, List.getElem_toArray, List.getElem_cons_succ, List.getElem_cons_zero, List.setIfInBounds_toArray, List.set_cons_zero, List.set_cons_succ]
  refine wpAnyH_take (i := 17) (v := ?_) rfl (by kernel_rfl) (by kernel_rfl) (by kernel_rfl) (fun _ _ _ h => h) (Or.inl ⟨by kernel_rfl, ?_⟩) hH ?_
  rotate_left
  · (intro W hS; clear hS; go_simp) <;> with_reducible rfl
  try simp only [Act.put, List.getElem_toArray, List.getElem_cons_succ, List.getElem_cons_zero, List.setIfInBounds_toArray, List.set_cons_zero, List.set_cons_succ]
  refine wpAnyH_take (i := 18) (v := ?_) rfl (by kernel_rfl) (by kernel_rfl) (by kernel_rfl) (fun _ _ _ h => h) (Or.inl ⟨by kernel_rfl, ?_⟩) hH ?_
  rotate_left
  · (intro W hS; clear hS; go_simp) <;> with_reducible rfl
  try simp only [Act.put, List.getElem_toArray, List.getElem_cons_succ, List.getElem_cons_zero, List.setIfInBounds_toArray, List.set_cons_zero, List.set_cons_succ]
  refine wpAnyH_take (i := 19) (v := ?_) rfl (by kernel_rfl) (by kernel_rfl) (by kernel_rfl) (fun _ _ _ h => h) (Or.inl ⟨by kernel_rfl, ?_⟩) hH ?_
  rotate_left
  · (intro W hS; clear hS; go_simp) <;> with_reducible rfl
  try simp only [Act.put, List.getElem_toArray, List.getElem_cons_succ, List.getElem_cons_zero, List.setIfInBounds_toArray, List.set_cons_zero, List.set_cons_succ]
  refine wpAnyH_take (i := 20) (v := ?_) rfl (by kernel_rfl) (by kernel_rfl) (by kernel_rfl) (fun _ _ _ h => h) (Or.inl ⟨by kernel_rfl, ?_⟩) hH ?_
  rotate_left
  · (intro W hS; clear hS; go_simp) <;> with_reducible rfl
  try simp only [Act.put, List.getElem_toArray, List.getElem_cons_succ, List.getElem_cons_zero, List.setIfInBounds_toArray, List.set_cons_zero, List.set_cons_succ]
  refine wpAnyH_take (i := 21) (v := ?_) rfl (by kernel_rfl) (by kernel_rfl) (by kernel_rfl) (fun _ _ _ h => h) (Or.inl ⟨by kernel_rfl, ?_⟩) hH ?_
  rotate_left
  · (intro W hS; clear hS; go_simp) <;> with_reducible rfl
  try simp only [Act.put, List.getElem_toArray, List.getElem_cons_succ, List.getElem_cons_zero, List.setIfInBounds_toArray, List.set_cons_zero, List.set_cons_succ]
  refine wpAnyH_take (i := 22) (v := ?_) rfl (by kernel_rfl) (by kernel_rfl) (by kernel_rfl) (fun _ _ _ h => h) (Or.inl ⟨by kernel_rfl, ?_⟩) hH ?_
  rotate_left
  · (intro W hS; clear hS; go_simp) <;> with_reducible rfl
  try simp only [Act.put, List.getElem_toArray, List.getElem_cons_succ, List.getElem_cons_zero, List.setIfInBounds_toArray, List.set_cons_zero, List.set_cons_succ]
  refine wpAnyH_take (i := 23) (v := ?_) rfl (by kernel_rfl) (by kernel_rfl) (by kernel_rfl) (fun _ _ _ h => h) (Or.inl ⟨by kernel_rfl, ?_⟩) hH ?_
  rotate_left
  · (intro W hS; clear hS; go_simp) <;> with_reducible rfl
  try simp only [Act.put, List.getElem_toArray, List.getElem_cons_succ, List.getElem_cons_zero, List.setIfInBounds_toArray, List.set_cons_zero, List.set_cons_succ]
  refine wpAnyH_take (i := 24) (v := ?_) rfl (by kernel_rfl) (by kernel_rfl) (by kernel_rfl) (fun _ _ _ h => h) (Or.inl ⟨by kernel_rfl, ?_⟩) hH ?_
  rotate_left
  · (intro W hS; clear hS; go_simp) <;> with_reducible rfl
  try simp only [Act.put, List.getElem_toArray, List.getElem_cons_succ, List.getElem_cons_zero, List.setIfInBounds_toArray, List.set_cons_zero, List.set_cons_succ]
  refine wpAnyH_take (i := 25) (v := ?_) rfl (by kernel_rfl) (by kernel_rfl) (by kernel_rfl) (fun _ _ _ h => h) (Or.inl ⟨by kernel_rfl, ?_⟩) hH ?_
  rotate_left
  · (intro W hS; clear hS; go_simp) <;> with_reducible rfl
  try simp only [Act.put, List.getElem_toArray, List.getElem_cons_succ, List.getElem_cons_zero, List.setIfInBounds_toArray, List.set_cons_zero, List.set_cons_succ]
  refine wpAnyH_take (i := 26) (v := ?_) rfl (by kernel_rfl) (by kernel_rfl) (by kernel_rfl) (fun _ _ _ h => h) (Or.inl ⟨by kernel_rfl, ?_⟩) hH ?_
  rotate_left
  · (intro W hS; clear hS; go_simp) <;> with_reducible rfl
  try simp only [Act.put, List.getElem_toArray, List.getElem_cons_succ, List.getElem_cons_zero, List.setIfInBounds_toArray, List.set_cons_zero, List.set_cons_succ]
  refine wpAnyH_take (i := 27) (v := ?_) rfl (by kernel_rfl) (by kernel_rfl) (by kernel_rfl) (fun _ _ _ h => h) (Or.inl ⟨by kernel_rfl, ?_⟩) hH ?_
  rotate_left
  · (intro W hS; clear hS; go_simp) <;> with_reducible rfl
  try simp only [Act.put, List.getElem_toArray, List.getElem_cons_succ, List.getElem_cons_zero, List.setIfInBounds_toArray, List.set_cons_zero, List.set_cons_succ]
  refine wpAnyH_take (i := 28) (v := ?_) rfl (by kernel_rfl) (by kernel_rfl) (by kernel_rfl) (fun _ _ _ h => h) (Or.inl ⟨by kernel_rfl, ?_⟩) hH ?_
  rotate_left
  · (intro W hS; clear hS; go_simp) <;> with_reducible rfl
  try simp only [Act.put, List.getElem_toArray, List.getElem_cons_succ, List.getElem_cons_zero, List.setIfInBounds_toArray, List.set_cons_zero, List.set_cons_succ]
  refine wpAnyH_take (i := 29) (v := ?_) rfl (by kernel_rfl) (by kernel_rfl) (by kernel_rfl) (fun _ _ _ h => h) (Or.inl ⟨by kernel_rfl, ?_⟩) hH ?_
  rotate_left
  · (intro W hS; clear hS; go_simp) <;> with_reducible rfl
  try simp only [Act.put, List.getElem_toArray, List.getElem_cons_succ, List.getElem_cons_zero, List.setIfInBounds_toArray, List.set_cons_zero, List.set_cons_succ]
  refine wpAnyH_take (i := 30) (v := ?_) rfl (by kernel_rfl) (by kernel_rfl) (by kernel_rfl) (fun _ _ _ h => h) (Or.inl ⟨by kernel_rfl, ?_⟩) hH ?_
  rotate_left
  · (intro W hS; clear hS; go_simp) <;> with_reducible rfl
  try simp only [Act.put, List.getElem_toArray, List.getElem_cons_succ, List.getElem_cons_zero, List.setIfInBounds_toArray, List.set_cons_zero, List.set_cons_succ]
  refine wpAnyH_take (i := 31) (v := ?_) rfl (by kernel_rfl) (by kernel_rfl) (by kernel_rfl) (fun _ _ _ h => h) (Or.inl ⟨by kernel_rfl, ?_⟩) hH ?_
  rotate_left
  · (intro W hS; clear hS; go_simp) <;> with_reducible rfl
  try simp only [Act.put, List.getElem_toArray, List.getElem_cons_succ, List.getElem_cons_zero, List.setIfInBounds_toArray, List.set_cons_zero, List.set_cons_succ]
  refine wpAnyH_take (i := 32) (v := ?_) rfl (by kernel_rfl) (by kernel_rfl) (by kernel_rfl) (fun _ _ _ h => h) (Or.inl ⟨by kernel_rfl, ?_⟩) hH ?_
  rotate_left
  · (intro W hS; clear hS; go_simp) <;> with_reducible rfl
  try simp only [Act.put, List.getElem_toArray, List.getElem_cons_succ, List.getElem_cons_zero, List.setIfInBounds_toArray, List.set_cons_zero, List.set_cons_succ]
  refine wpAnyH_take (i := 33) (v := ?_) rfl (by kernel_rfl) (by kernel_rfl) (by kernel_rfl) (fun _ _ _ h => h) (Or.inl ⟨by kernel_rfl, ?_⟩) hH ?_
  rotate_left
  · (intro W hS; clear hS; go_simp) <;> with_reducible rfl
  try simp only [Act.put, List.getElem_toArray, List.getElem_cons_succ, List.getElem_cons_zero, List.setIfInBounds_toArray, List.set_cons_zero, List.set_cons_succ]
  refine wpAnyH_take (i := 34) (v := ?_) rfl (by kernel_rfl) (by kernel_rfl) (by kernel_rfl) (fun _ _ _ h => h) (Or.inl ⟨by kernel_rfl, ?_⟩) hH ?_
  rotate_left
  · (intro W hS; clear hS; go_simp) <;> with_reducible rfl
  try simp only [Act.put, List.getElem_toArray, List.getElem_cons_succ, List.getElem_cons_zero, List.setIfInBounds_toArray, List.set_cons_zero, List.set_cons_succ]
  refine wpAnyH_take (i := 35) (v := ?_) rfl (by kernel_rfl) (by kernel_rfl) (by kernel_rfl) (fun _ _ _ h => h) (Or.inl ⟨by kernel_rfl, ?_⟩) hH ?_
  rotate_left
  · (intro W hS; clear hS; go_simp) <;> with_reducible rfl
  try simp only [Act.put, List.getElem_toArray, List.getElem_cons_succ, List.getElem_cons_zero, List.setIfInBounds_toArray, List.set_cons_zero, List.set_cons_succ]
  refine wpAnyH_take (i := 36) (v := ?_) rfl (by kernel_rfl) (by kernel_rfl) (by kernel_rfl) (fun _ _ _ h => h) (Or.inl ⟨by kernel_rfl, ?_⟩) hH ?_
  rotate_left
  · (intro W hS; clear hS; go_simp) <;> with_reducible rfl
  try simp only [Act.put, List.getElem_toArray, List.getElem_cons_succ, List.getElem_cons_zero, List.setIfInBounds_toArray, List.set_cons_zero, List.set_cons_succ]
  refine wpAnyH_take (i := 37) (v := ?_) rfl (by kernel_rfl) (by kernel_rfl) (by kernel_rfl) (fun _ _ _ h => h) (Or.inl ⟨by kernel_rfl, ?_⟩) hH ?_
  rotate_left
  · (intro W hS; clear hS; go_simp) <;> with_reducible rfl
  try simp only [Act.put, List.getElem_toArray, List.getElem_cons_succ, List.getElem_cons_zero, List.setIfInBounds_toArray, List.set_cons_zero, List.set_cons_succ]
  refine wpAnyH_take (i := 38) (v := ?_) rfl (by kernel_rfl) (by kernel_rfl) (by kernel_rfl) (fun _ _ _ h => h) (Or.inl ⟨by kernel_rfl, ?_⟩) hH ?_
  rotate_left
  · (intro W hS; clear hS; go_simp) <;> with_reducible rfl
  try simp only [Act.put, List.getElem_toArray, List.getElem_cons_succ, List.getElem_cons_zero, List.setIfInBounds_toArray, List.set_cons_zero, List.set_cons_succ]
  refine wpAnyH_take (i := 39) (v := ?_) rfl (by kernel_rfl) (by kernel_rfl) (by kernel_rfl) (fun _ _ _ h => h) (Or.inl ⟨by kernel_rfl, ?_⟩) hH ?_
  rotate_left
  · (intro W hS; clear hS; go_simp) <;> with_reducible rfl
  try simp only [Act.put, List.getElem_toArray, List.getElem_cons_succ, List.getElem_cons_zero, List.setIfInBounds_toArray, List.set_cons_zero, List.set_cons_succ]
  refine wpAnyH_take (i := 40) (v := ?_) rfl (by kernel_rfl) (by kernel_rfl) (by kernel_rfl) (fun _ _ _ h => h) (Or.inl ⟨by kernel_rfl, ?_⟩) hH ?_
  rotate_left
  · (intro W hS; clear hS; go_simp) <;> with_reducible rfl
  try simp only [Act.put, List.getElem_toArray, List.getElem_cons_succ, List.getElem_cons_zero, List.setIfInBounds_toArray, List.set_cons_zero, List.set_cons_succ]
  refine wpAnyH_take (i := 41) (v := ?_) rfl (by kernel_rfl) (by kernel_rfl) (by kernel_rfl) (fun _ _ _ h => h) (Or.inl ⟨by kernel_rfl, ?_⟩) hH ?_
  rotate_left
  · (intro W hS; clear hS; go_simp) <;> with_reducible rfl
  try simp only [Act.put, List.getElem_toArray, List.getElem_cons_succ, List.getElem_cons_zero, List.setIfInBounds_toArray, List.set_cons_zero, List.set_cons_succ]
  refine wpAnyH_take (i := 42) (v := ?_) rfl (by kernel_rfl) (by kernel_rfl) (by kernel_rfl) (fun _ _ _ h => h) (Or.inl ⟨by kernel_rfl, ?_⟩) hH ?_
  rotate_left
  · (intro W hS; clear hS; go_simp) <;> with_reducible rfl
  try simp only [Act.put, List.getElem_toArray, List.getElem_cons_succ, List.getElem_cons_zero, List.setIfInBounds_toArray, List.set_cons_zero, List.set_cons_succ]
  refine wpAnyH_take (i := 43) (v := ?_) rfl (by kernel_rfl) (by kernel_rfl) (by kernel_rfl) (fun _ _ _ h => h) (Or.inl ⟨by kernel_rfl, ?_⟩) hH ?_
  rotate_left
  · (intro W hS; clear hS; go_simp) <;> with_reducible rfl
  try simp only [Act.put, List.getElem_toArray, List.getElem_cons_succ, List.getElem_cons_zero, List.setIfInBounds_toArray, List.set_cons_zero, List.set_cons_succ]
  refine wpAnyH_take (i := 44) (v := ?_) rfl (by kernel_rfl) (by kernel_rfl) (by kernel_rfl) (fun _ _ _ h => h) (Or.inl ⟨by kernel_rfl, ?_⟩) hH ?_
  rotate_left
  · (intro W hS; clear hS; go_simp) <;> with_reducible rfl
  try simp only [Act.put, List.getElem_toArray, List.getElem_cons_succ, List.getElem_cons_zero, List.setIfInBounds_toArray, List.set_cons_zero, List.set_cons_succ]
  refine wpAnyH_take (i := 45) (v := ?_) rfl (by kernel_rfl) (by kernel_rfl) (by kernel_rfl) (fun _ _ _ h => h) (Or.inl ⟨by kernel_rfl, ?_⟩) hH ?_
  rotate_left
  · (intro W hS; clear hS; go_simp) <;> with_reducible rfl
  try simp only [Act.put, List.getElem_toArray, List.getElem_cons_succ, List.getElem_cons_zero, List.setIfInBounds_toArray, List.set_cons_zero, List.set_cons_succ]
  refine wpAnyH_take (i := 46) (v := ?_) rfl (by kernel_rfl) (by kernel_rfl) (by kernel_rfl) (fun _ _ _ h => h) (Or.inl ⟨by kernel_rfl, ?_⟩) hH ?_
  rotate_left
  · (intro W hS; clear hS; go_simp) <;> with_reducible rfl
  try simp only [Act.put, List.getElem_toArray, List.getElem_cons_succ, List.getElem_cons_zero, List.setIfInBounds_toArray, List.set_cons_zero, List.set_cons_succ]
  refine wpAnyH_take (i := 47) (v := ?_) rfl (by kernel_rfl) (by kernel_rfl) (by kernel_rfl) (fun _ _ _ h => h) (Or.inl ⟨by kernel_rfl, ?_⟩) hH ?_
  rotate_left
  · (intro W hS; clear hS; go_simp) <;> with_reducible rfl
  try simp only [Act.put, List.getElem_toArray, List.getElem_cons_succ, List.getElem_cons_zero, List.setIfInBounds_toArray, List.set_cons_zero, List.set_cons_succ]
  refine wpAnyH_take (i := 48) (v := ?_) rfl (by kernel_rfl) (by kernel_rfl) (by kernel_rfl) (fun _ _ _ h => h) (Or.inl ⟨by kernel_rfl, ?_⟩) hH ?_
  rotate_left
  · (intro W hS; clear hS; go_simp) <;> with_reducible rfl
  try simp only [Act.put, List.getElem_toArray, List.getElem_cons_succ, List.getElem_cons_zero, List.setIfInBounds_toArray, List.set_cons_zero, List.set_cons_succ]
  refine wpAnyH_take (i := 49) (v := ?_) rfl (by kernel_rfl) (by kernel_rfl) (by kernel_rfl) (fun _ _ _ h => h) (Or.inl ⟨by kernel_rfl, ?_⟩) hH ?_
  rotate_left
  · (intro W hS; clear hS; go_simp) <;> with_reducible rfl
  try simp only [Act.put, List.getElem_toArray, List.getElem_cons_succ, List.getElem_cons_zero, List.setIfInBounds_toArray, List.set_cons_zero, List.set_cons_succ]
  refine wpAnyH_take (i := 50) (v := ?_) rfl (by kernel_rfl) (by kernel_rfl) (by kernel_rfl) (fun _ _ _ h => h) (Or.inl ⟨by kernel_rfl, ?_⟩) hH ?_
  rotate_left
  · (intro W hS; clear hS; go_simp) <;> with_reducible rfl
  try simp only [Act.put, List.getElem_toArray, List.getElem_cons_succ, List.getElem_cons_zero, List.setIfInBounds_toArray, List.set_cons_zero, List.set_cons_succ]
  refine wpAnyH_done (by kernel_rfl) ?_ _
  go_wp2
  go_ret
  exact ⟨rfl, grown_below hg⟩
end Go.Proofs.Ytkpfhhfecjeflaa
