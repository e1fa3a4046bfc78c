/- The walk of WidthOf. -/
import Derived.Test.YtjaeoaebkkmaaaaPar
import Derived.Test.YtjaeoaebkkmaaaaWst
import Derived.Test.YtjaeoaebkkmaaaaAw
namespace Go.Proofs.Ytjaeoaebkkmaaaa
open Go Go.RowKit
set_option linter.unusedSimpArgs false
set_option maxRecDepth 100000 in
set_option maxHeartbeats 2000000 in
theorem widthOf_main (w : World) (s : Sty) (of : Int) (is al ar : Bool) (wd least most left right edges x y z f ac wd2 z2 : Int)
    (h0 : 0 ≤ of) (h1 : of ≤ 68719476736) (hf : f = 10 ∨ f = 0 ∧ ((x + edges + y + z) != of) = false) (hb : B40 x ∧ B40 edges ∧ B40 y ∧ B40 z) (ha : 0 ≤ ac ∧ ac ≤ 1099511627776) (hw : ac ≤ of ∧ wd2 = of - ac ∧ z2 = 0 ∨ of < ac ∧ wd2 = 0 ∧ z2 = of - ac)
    (CO0 : ∀ W, Calls Try.prog 15 #[.agg s.cells, .int .i64 of] W fun e w' => e = .returned (.tuple #[.agg #[.bool is, .int .i64 wd, .int .i64 least, .int .i64 most, .int .i64 left, .int .i64 right, .bool al, .bool ar, .int .i64 edges], .int .i64 0]) ∧ W.grownBy w' none)
    (CS0 : ∀ W, Calls Try.prog 10 #[.int .i64 of, .agg #[.bool is, .int .i64 wd, .int .i64 least, .int .i64 most, .int .i64 left, .int .i64 right, .bool al, .bool ar, .int .i64 edges]] W fun e w' => e = .returned (.tuple #[.int .i64 x, .int .i64 y, .int .i64 z, .int .i64 f]) ∧ W.grownBy w' none)
    (CP0 : ∀ W, Calls Try.prog 15 #[.agg (fillS s).cells, .int .i64 of] W fun e w' => e = .returned (.tuple #[.agg #[.bool true, .int .i64 wd2, .int .i64 0, .int .i64 1099511627776, .int .i64 0, .int .i64 0, .bool true, .bool true, .int .i64 ac], .int .i64 0]) ∧ W.grownBy w' none)
    (CT0 : ∀ W, Calls Try.prog 10 #[.int .i64 of, .agg #[.bool true, .int .i64 wd2, .int .i64 0, .int .i64 1099511627776, .int .i64 0, .int .i64 0, .bool true, .bool true, .int .i64 ac]] W fun e w' => e = .returned (.tuple #[.int .i64 0, .int .i64 wd2, .int .i64 z2, .int .i64 0]) ∧ W.grownBy w' none) :
    Calls Try.prog 9 #[.agg s.cells, .int .i64 of] w fun e w' => e = .returned (.bool true) ∧ Below w.heap.size w w' := by
  unfold B40 at hb
  have CO := Lib.hid CO0
  have CS := Lib.hid CS0
  have CP := Lib.hid CP0
  have CT := Lib.hid CT0
  clear CO0 CS0 CP0 CT0
  have y1 := s.c1
  have y2 := s.c2
  have y3 := s.c3
  have y4 := s.c4
  have y5 := s.c5
  have y6 := s.c6
  have y7 := s.c7
  have y14 := s.c14
  have y15 := s.c15
  have y16 := s.c16
  have y17 := s.c17
  have y18 := s.c18
  have y19 := s.c19
  have y20 := s.c20
  have y21 := s.c21
  have hd0 : decide (of < 0) = false := by simp; omega
  have hd1 : decide (68719476736 < of) = false := by simp; omega
  have hwh := Lib.hid hw
  have hfh := Lib.hid hf
  clear hw hf
  have rs : Row (w.alloc (.cells s.cells 39)) w.heap.size 39 s.cells := Row.new _ _ _
  have hg := World.grownBy_alloc w (.cells s.cells 39) none
  have hgle := Nat.le_refl w.heap.size
  obtain ⟨gs, hge⟩ : ∃ g, g = w.heap.size := ⟨_, rfl⟩
  rw [← hge] at rs
  rw [show w.heap.size ≤ w.heap.size ↔ w.heap.size ≤ gs by rw [hge]] at hgle
  go_enter Try.func9, Try.ntmps9
  go_wp2_with fail
  rw [← hge]
  clear hge
  refine (awake_any _).mono ?_; rintro e w1 ⟨rfl, hx⟩
  replace rs := rs.kept0 hx
  replace hg := grown_trans hg hx
  clear hx
  go_wp2_with (refine wpList_row bigS rs (Sty.size _) rfl rfl rfl ?_; simp only [Act.put, List.setIfInBounds_toArray, List.set_cons_zero, List.set_cons_succ])
  refine (CO.out _).mono ?_; rintro e w2 ⟨rfl, hx⟩
  replace rs := rs.kept0 hx
  replace hg := grown_trans hg hx
  clear hx
  have hx := World.grownBy_alloc w2 (.cells #[.bool is, .int .i64 wd, .int .i64 least, .int .i64 most, .int .i64 left, .int .i64 right, .bool al, .bool ar, .int .i64 edges] 23) none
  have r5 := Row.new w2 23 #[.bool is, .int .i64 wd, .int .i64 least, .int .i64 most, .int .i64 left, .int .i64 right, .bool al, .bool ar, .int .i64 edges]
  replace rs := rs.kept0 hx
  replace hg := grown_trans hg hx
  clear hx
  go_wp2_with (refine wpList_row bigA r5 rfl rfl rfl rfl ?_; simp only [Act.put, List.setIfInBounds_toArray, List.set_cons_zero, List.set_cons_succ])
  refine (CS.out _).mono ?_; rintro e w3 ⟨rfl, hx⟩
  replace r5 := r5.kept0 hx
  replace rs := rs.kept0 hx
  replace hg := grown_trans hg hx
  clear hx
  have k8 : w3.cell? ⟨w2.heap.size, 8, none⟩ = some (.int .i64 edges) := r5.at 8
  have c1 := (rs.at 1).trans y1
  have f1 := rs.free 1
  have c2 := (rs.at 2).trans y2
  have f2 := rs.free 2
  have c3 := (rs.at 3).trans y3
  have f3 := rs.free 3
  have c4 := (rs.at 4).trans y4
  have f4 := rs.free 4
  have c5 := (rs.at 5).trans y5
  have f5 := rs.free 5
  have c6 := (rs.at 6).trans y6
  have f6 := rs.free 6
  have c7 := (rs.at 7).trans y7
  have f7 := rs.free 7
  have c14 := (rs.at 14).trans y14
  have f14 := rs.free 14
  have c15 := (rs.at 15).trans y15
  have f15 := rs.free 15
  have c16 := (rs.at 16).trans y16
  have f16 := rs.free 16
  have c17 := (rs.at 17).trans y17
  have f17 := rs.free 17
  have c18 := (rs.at 18).trans y18
  have f18 := rs.free 18
  have c19 := (rs.at 19).trans y19
  have f19 := rs.free 19
  have c20 := (rs.at 20).trans y20
  have f20 := rs.free 20
  have c21 := (rs.at 21).trans y21
  have f21 := rs.free 21
  have hD : ∃ W, W = ((((((((((((((w3.setCell ⟨gs, 1, none⟩ (.bool true)).setCell ⟨gs, 2, none⟩ (.int .u8 2)).setCell ⟨gs, 3, none⟩ (.int .i64 10000)).setCell ⟨gs, 4, none⟩ (.int .u8 0)).setCell ⟨gs, 5, none⟩ (.int .i64 0)).setCell ⟨gs, 6, none⟩ (.int .u8 0)).setCell ⟨gs, 7, none⟩ (.int .i64 0)).setCell ⟨gs, 14, none⟩ (.int .u8 0)).setCell ⟨gs, 15, none⟩ (.int .i64 0)).setCell ⟨gs, 16, none⟩ (.int .u8 0)).setCell ⟨gs, 17, none⟩ (.int .i64 0)).setCell ⟨gs, 18, none⟩ (.int .u8 0)).setCell ⟨gs, 19, none⟩ (.int .i64 0)).setCell ⟨gs, 20, none⟩ (.int .u8 0)).setCell ⟨gs, 21, none⟩ (.int .i64 0) ∧ Row W gs 39 (fillS s).cells ∧ w.grownBy W none := by
    have rr0 := rs.set 1 (.bool true)
    have gg0 := grown_new hg (grownBy_setCell w3 gs 1 (.bool true)) (fun e h => by cases h; exact hgle)
    have rr1 := rr0.set 2 (.int .u8 2)
    have gg1 := grown_new gg0 (grownBy_setCell _ gs 2 (.int .u8 2)) (fun e h => by cases h; exact hgle)
    have rr2 := rr1.set 3 (.int .i64 10000)
    have gg2 := grown_new gg1 (grownBy_setCell _ gs 3 (.int .i64 10000)) (fun e h => by cases h; exact hgle)
    have rr3 := rr2.set 4 (.int .u8 0)
    have gg3 := grown_new gg2 (grownBy_setCell _ gs 4 (.int .u8 0)) (fun e h => by cases h; exact hgle)
    have rr4 := rr3.set 5 (.int .i64 0)
    have gg4 := grown_new gg3 (grownBy_setCell _ gs 5 (.int .i64 0)) (fun e h => by cases h; exact hgle)
    have rr5 := rr4.set 6 (.int .u8 0)
    have gg5 := grown_new gg4 (grownBy_setCell _ gs 6 (.int .u8 0)) (fun e h => by cases h; exact hgle)
    have rr6 := rr5.set 7 (.int .i64 0)
    have gg6 := grown_new gg5 (grownBy_setCell _ gs 7 (.int .i64 0)) (fun e h => by cases h; exact hgle)
    have rr7 := rr6.set 14 (.int .u8 0)
    have gg7 := grown_new gg6 (grownBy_setCell _ gs 14 (.int .u8 0)) (fun e h => by cases h; exact hgle)
    have rr8 := rr7.set 15 (.int .i64 0)
    have gg8 := grown_new gg7 (grownBy_setCell _ gs 15 (.int .i64 0)) (fun e h => by cases h; exact hgle)
    have rr9 := rr8.set 16 (.int .u8 0)
    have gg9 := grown_new gg8 (grownBy_setCell _ gs 16 (.int .u8 0)) (fun e h => by cases h; exact hgle)
    have rr10 := rr9.set 17 (.int .i64 0)
    have gg10 := grown_new gg9 (grownBy_setCell _ gs 17 (.int .i64 0)) (fun e h => by cases h; exact hgle)
    have rr11 := rr10.set 18 (.int .u8 0)
    have gg11 := grown_new gg10 (grownBy_setCell _ gs 18 (.int .u8 0)) (fun e h => by cases h; exact hgle)
    have rr12 := rr11.set 19 (.int .i64 0)
    have gg12 := grown_new gg11 (grownBy_setCell _ gs 19 (.int .i64 0)) (fun e h => by cases h; exact hgle)
    have rr13 := rr12.set 20 (.int .u8 0)
    have gg13 := grown_new gg12 (grownBy_setCell _ gs 20 (.int .u8 0)) (fun e h => by cases h; exact hgle)
    have rr14 := rr13.set 21 (.int .i64 0)
    have gg14 := grown_new gg13 (grownBy_setCell _ gs 21 (.int .i64 0)) (fun e h => by cases h; exact hgle)
    exact ⟨_, rfl, rr14.named (fillS s) (by kernel_rfl), gg14⟩
  obtain ⟨W4, hW4, rf, hgf⟩ := hD
  have hW4' := Lib.hid hW4
  clear hW4
  rcases hfh.out with rfl | ⟨rfl, hsum⟩
  all_goals
    clear hfh
    go_upto_region 13 with fail
    rw [← hW4'.out]
    clear hW4' rs hg r5 k8 c1 f1 c2 f2 c3 f3 c4 f4 c5 f5 c6 f6 c7 f7 c14 f14 c15 f15 c16 f16 c17 f17 c18 f18 c19 f19 c20 f20 c21 f21
    go_wp2_with (refine wpList_row bigS rf (Sty.size _) rfl rfl rfl ?_; simp only [Act.put, List.setIfInBounds_toArray, List.set_cons_zero, List.set_cons_succ])
    refine (CP.out _).mono ?_; rintro e w5 ⟨rfl, hx⟩
    replace hgf := grown_trans hgf hx
    clear hx rf
    have hx := World.grownBy_alloc w5 (.cells #[.bool true, .int .i64 wd2, .int .i64 0, .int .i64 1099511627776, .int .i64 0, .int .i64 0, .bool true, .bool true, .int .i64 ac] 23) none
    have rb := Row.new w5 23 #[.bool true, .int .i64 wd2, .int .i64 0, .int .i64 1099511627776, .int .i64 0, .int .i64 0, .bool true, .bool true, .int .i64 ac]
    replace hgf := grown_trans hgf hx
    clear hx
    go_wp2_with (refine wpList_row bigA rb rfl rfl rfl rfl ?_; simp only [Act.put, List.setIfInBounds_toArray, List.set_cons_zero, List.set_cons_succ])
    refine (CT.out _).mono ?_; rintro e w6 ⟨rfl, hx⟩
    replace hgf := grown_trans hgf hx
    replace rb := rb.kept0 hx
    clear hx
    have k6 : w6.cell? ⟨w5.heap.size, 6, none⟩ = some (.bool true) := rb.at 6
    have k7 : w6.cell? ⟨w5.heap.size, 7, none⟩ = some (.bool true) := rb.at 7
    have k8 : w6.cell? ⟨w5.heap.size, 8, none⟩ = some (.int .i64 ac) := rb.at 8
    clear rb
    rcases hwh.out with ⟨g1, rfl, rfl⟩ | ⟨g1, rfl, rfl⟩
    · have q1 : ((of - ac + ac) == of) = true := by simp
      have q2 : of - ac + ac = of := by omega
      go_wp2_with fail
      all_goals
        go_ret
        exact ⟨by first | rfl | simp, grown_below hgf⟩
    · have q1 : ((of - ac) == 0) = false := by simp; omega
      have q2 : decide (of ≤ ac) = true := by simp; omega
      go_wp2_with fail
      all_goals
        go_ret
        exact ⟨by first | rfl | simp, grown_below hgf⟩
end Go.Proofs.Ytjaeoaebkkmaaaa
