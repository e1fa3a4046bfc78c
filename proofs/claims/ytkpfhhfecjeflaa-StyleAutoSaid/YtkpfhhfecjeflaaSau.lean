/- The walk of StyleAuto. -/
import Derived.Test.YtkpfhhfecjeflaaAk
namespace Go.Proofs.Ytkpfhhfecjeflaa
open Go Go.RowKit
/-- A style that asks for no size. -/
def autoS (s : Sty) : Sty := ((((((((((((s.put 2 0).put 3 0).put 4 0).put 5 0).put 6 0).put 7 0).put 8 0).put 9 0).put 10 0).put 11 0).put 12 0).put 13 0)
theorem autoS_ok {s : Sty} (h : s.ok) : (autoS s).ok := (Sty.put_ok (Sty.put_ok (Sty.put_ok (Sty.put_ok (Sty.put_ok (Sty.put_ok (Sty.put_ok (Sty.put_ok (Sty.put_ok (Sty.put_ok (Sty.put_ok (Sty.put_ok h (fun k hk => by cases hk; rfl)) (fun k hk => by cases hk; rfl)) (fun k hk => by cases hk; rfl)) (fun k hk => by cases hk; rfl)) (fun k hk => by cases hk; rfl)) (fun k hk => by cases hk; rfl)) (fun k hk => by cases hk; rfl)) (fun k hk => by cases hk; rfl)) (fun k hk => by cases hk; rfl)) (fun k hk => by cases hk; rfl)) (fun k hk => by cases hk; rfl)) (fun k hk => by cases hk; rfl))
theorem cont_none (wh : Bool) (of ed : Int) : contV wh 0 0 of ed = ⟨0, false, 0⟩ := by simp [contV, resV]
theorem lim_none (wh : Bool) (of ed : Int) : limV wh 0 0 0 0 of ed = ⟨0, 1099511627776, 0⟩ := by simp [limV, cont_none]
theorem auto_width (s : Sty) (of : Int) : widthV (autoS s) of = if mayB (autoS s) then ⟨0, false, 0⟩ else ⟨0, false, 60⟩ := by
  unfold widthV
  rw [show (autoS s).n 2 = 0 from rfl, show (autoS s).n 3 = 0 from rfl, cont_none]
theorem auto_height (s : Sty) : heightV (autoS s) = if mayB (autoS s) then ⟨0, false, 0⟩ else ⟨0, false, 60⟩ := by
  unfold heightV
  rw [show (autoS s).n 8 = 0 from rfl, show (autoS s).n 9 = 0 from rfl, cont_none]
theorem auto_widths (s : Sty) (of : Int) : widthsV (autoS s) of = if mayB (autoS s) then ⟨0, 1099511627776, 0⟩ else ⟨0, 0, 60⟩ := by
  unfold widthsV
  rw [show (autoS s).n 4 = 0 from rfl, show (autoS s).n 5 = 0 from rfl, show (autoS s).n 6 = 0 from rfl, show (autoS s).n 7 = 0 from rfl, lim_none]
theorem auto_heights (s : Sty) : heightsV (autoS s) = if mayB (autoS s) then ⟨0, 1099511627776, 0⟩ else ⟨0, 0, 60⟩ := by
  unfold heightsV
  rw [show (autoS s).n 10 = 0 from rfl, show (autoS s).n 11 = 0 from rfl, show (autoS s).n 12 = 0 from rfl, show (autoS s).n 13 = 0 from rfl, lim_none]
set_option maxRecDepth 100000 in
set_option maxHeartbeats 2000000 in
theorem StyleAuto_walk (w : World) (cs : List Value) (ok : OkAll styL cs) (around : Int) (wo : (Lit.int .i64 around).wf = true) :
    Calls Try.prog 9 #[.agg ⟨cs⟩, .int .i64 around] w fun e w' => e = .returned (.bool true) ∧ Below w.heap.size w w' := by
  obtain ⟨s, hs, rfl⟩ := Sty.open ok
  have ho := swf_i64 wo
  clear ok
  have CW := (fun W => width_any (autoS s) around W (autoS_ok hs) ho)
  have CH := (fun W => height_any (autoS s) W (autoS_ok hs))
  have CL := (fun W => widths_any (autoS s) around W (autoS_ok hs) ho)
  have CK := (fun W => heights_any (autoS s) W (autoS_ok hs))
  have CM := (fun W => may_any (autoS s) W (autoS_ok hs))
  rw [auto_width] at CW
  rw [auto_height] at CH
  rw [auto_widths] at CL
  rw [auto_heights] at CK
  cases hmq : mayB (autoS s)
  all_goals
    rw [hmq] at CW CH CL CK CM
    simp only [if_true, if_false, Bool.false_eq_true, Got.val, Three.val] at CW CH CL CK
    replace CW := Lib.hid CW
    replace CH := Lib.hid CH
    replace CL := Lib.hid CL
    replace CK := Lib.hid CK
    replace CM := Lib.hid CM
    clear hmq ho wo
    have r0 : Row (w.alloc (.cells s.cells 33)) w.heap.size 33 s.cells := Row.new _ _ _
    have hg := World.grownBy_alloc w (.cells s.cells 33) none
    go_enter Try.func9, Try.ntmps9
    go_wp2_with fail
    refine (sawake_any _).mono ?_; rintro e w1 ⟨rfl, hx⟩
    replace r0 := r0.kept0 hx
    replace hg := grown_trans hg hx
    clear hx
    have c2 := (r0.at 2).trans s.c2
    have c3 := (r0.at 3).trans s.c3
    have c4 := (r0.at 4).trans s.c4
    have c5 := (r0.at 5).trans s.c5
    have c6 := (r0.at 6).trans s.c6
    have c7 := (r0.at 7).trans s.c7
    have c8 := (r0.at 8).trans s.c8
    have c9 := (r0.at 9).trans s.c9
    have c10 := (r0.at 10).trans s.c10
    have c11 := (r0.at 11).trans s.c11
    have c12 := (r0.at 12).trans s.c12
    have c13 := (r0.at 13).trans s.c13
    have f2 := r0.free 2
    have f3 := r0.free 3
    have f4 := r0.free 4
    have f5 := r0.free 5
    have f6 := r0.free 6
    have f7 := r0.free 7
    have f8 := r0.free 8
    have f9 := r0.free 9
    have f10 := r0.free 10
    have f11 := r0.free 11
    have f12 := r0.free 12
    have f13 := r0.free 13
    have hgle := Nat.le_refl w.heap.size
    obtain ⟨g, hge⟩ : ∃ g, g = w.heap.size := ⟨_, rfl⟩
    rw [← hge] at r0 c2 c3 c4 c5 c6 c7 c8 c9 c10 c11 c12 c13 f2 f3 f4 f5 f6 f7 f8 f9 f10 f11 f12 f13
    rw [show w.heap.size ≤ w.heap.size ↔ w.heap.size ≤ g by rw [hge]] at hgle
    rw [← hge]
    clear hge
    go_upto_region 4 with fail
    have rr2 := (r0.set 2 (.int .u8 0))
    have gg2 := grown_new hg (grownBy_setCell w1 g 2 (.int .u8 0)) (fun e h => by cases h; exact hgle)
    have rr3 := (rr2.set 3 (.int .i64 0))
    have gg3 := grown_new gg2 (grownBy_setCell _ g 3 (.int .i64 0)) (fun e h => by cases h; exact hgle)
    have rr4 := (rr3.set 4 (.int .u8 0))
    have gg4 := grown_new gg3 (grownBy_setCell _ g 4 (.int .u8 0)) (fun e h => by cases h; exact hgle)
    have rr5 := (rr4.set 5 (.int .i64 0))
    have gg5 := grown_new gg4 (grownBy_setCell _ g 5 (.int .i64 0)) (fun e h => by cases h; exact hgle)
    have rr6 := (rr5.set 6 (.int .u8 0))
    have gg6 := grown_new gg5 (grownBy_setCell _ g 6 (.int .u8 0)) (fun e h => by cases h; exact hgle)
    have rr7 := (rr6.set 7 (.int .i64 0))
    have gg7 := grown_new gg6 (grownBy_setCell _ g 7 (.int .i64 0)) (fun e h => by cases h; exact hgle)
    have rr8 := (rr7.set 8 (.int .u8 0))
    have gg8 := grown_new gg7 (grownBy_setCell _ g 8 (.int .u8 0)) (fun e h => by cases h; exact hgle)
    have rr9 := (rr8.set 9 (.int .i64 0))
    have gg9 := grown_new gg8 (grownBy_setCell _ g 9 (.int .i64 0)) (fun e h => by cases h; exact hgle)
    have rr10 := (rr9.set 10 (.int .u8 0))
    have gg10 := grown_new gg9 (grownBy_setCell _ g 10 (.int .u8 0)) (fun e h => by cases h; exact hgle)
    have rr11 := (rr10.set 11 (.int .i64 0))
    have gg11 := grown_new gg10 (grownBy_setCell _ g 11 (.int .i64 0)) (fun e h => by cases h; exact hgle)
    have rr12 := (rr11.set 12 (.int .u8 0))
    have gg12 := grown_new gg11 (grownBy_setCell _ g 12 (.int .u8 0)) (fun e h => by cases h; exact hgle)
    have rr13 := (rr12.set 13 (.int .i64 0))
    have gg13 := grown_new gg12 (grownBy_setCell _ g 13 (.int .i64 0)) (fun e h => by cases h; exact hgle)
    have ra := rr13.named (autoS s) (by kernel_rfl)
    replace hg := gg13
    clear r0 rr2 rr3 rr4 rr5 rr6 rr7 rr8 rr9 rr10 rr11 rr12 rr13 gg2 gg3 gg4 gg5 gg6 gg7 gg8 gg9 gg10 gg11 gg12 gg13 c2 f2 c3 f3 c4 f4 c5 f5 c6 f6 c7 f7 c8 f8 c9 f9 c10 f10 c11 f11 c12 f12 c13 f13 hgle
    generalize (((((((((((w1.setCell ⟨g, 2, none⟩ (.int .u8 0)).setCell ⟨g, 3, none⟩ (.int .i64 0)).setCell ⟨g, 4, none⟩ (.int .u8 0)).setCell ⟨g, 5, none⟩ (.int .i64 0)).setCell ⟨g, 6, none⟩ (.int .u8 0)).setCell ⟨g, 7, none⟩ (.int .i64 0)).setCell ⟨g, 8, none⟩ (.int .u8 0)).setCell ⟨g, 9, none⟩ (.int .i64 0)).setCell ⟨g, 10, none⟩ (.int .u8 0)).setCell ⟨g, 11, none⟩ (.int .i64 0)).setCell ⟨g, 12, none⟩ (.int .u8 0)).setCell ⟨g, 13, none⟩ (.int .i64 0) = W2 at *
    go_wp2_with (refine wpList_row bigS ra (Sty.size _) rfl rfl rfl ?_; simp only [Act.put, List.setIfInBounds_toArray, List.set_cons_zero, List.set_cons_succ])
    refine (CW.out _).mono ?_; rintro e V1 ⟨rfl, hx⟩
    replace ra := ra.kept0 hx
    replace hg := grown_trans hg hx
    clear hx
    go_wp2_with (refine wpList_row bigS ra (Sty.size _) rfl rfl rfl ?_; simp only [Act.put, List.setIfInBounds_toArray, List.set_cons_zero, List.set_cons_succ])
    refine (CH.out _).mono ?_; rintro e V2 ⟨rfl, hx⟩
    replace ra := ra.kept0 hx
    replace hg := grown_trans hg hx
    clear hx
    go_wp2_with (refine wpList_row bigS ra (Sty.size _) rfl rfl rfl ?_; simp only [Act.put, List.setIfInBounds_toArray, List.set_cons_zero, List.set_cons_succ])
    refine (CL.out _).mono ?_; rintro e V3 ⟨rfl, hx⟩
    replace ra := ra.kept0 hx
    replace hg := grown_trans hg hx
    clear hx
    go_wp2_with (refine wpList_row bigS ra (Sty.size _) rfl rfl rfl ?_; simp only [Act.put, List.setIfInBounds_toArray, List.set_cons_zero, List.set_cons_succ])
    refine (CK.out _).mono ?_; rintro e V4 ⟨rfl, hx⟩
    replace ra := ra.kept0 hx
    replace hg := grown_trans hg hx
    clear hx
    go_wp2_with (refine wpList_row bigS ra (Sty.size _) rfl rfl rfl ?_; simp only [Act.put, List.setIfInBounds_toArray, List.set_cons_zero, List.set_cons_succ])
    refine (CM.out _).mono ?_; rintro e V5 ⟨rfl, hx⟩
    replace ra := ra.kept0 hx
    replace hg := grown_trans hg hx
    clear hx
    go_wp2
    go_ret
    exact ⟨rfl, grown_below hg⟩
end Go.Proofs.Ytkpfhhfecjeflaa
