/- The walk of the document's Of (printed by gen_rof.py). -/
import Derived.Test.YtjaeoaebkkmaaaaOf
namespace Go.Proofs.Ytjaeoaebkkmaaaa
open Go Go.RowKit
set_option linter.unusedSimpArgs false
theorem zero_one : ∀ v ∈ (#[.bool false, .int .i64 0, .int .i64 0, .int .i64 0, .int .i64 0, .int .i64 0, .bool false, .bool false, .int .i64 0] : Array Value).toList, v.oneCell' = true := nine_one _ _ _ _ _ _ _ _ _
set_option maxRecDepth 100000 in
set_option maxHeartbeats 2000000 in
theorem rof_raw0 (s : Sty) (of : Int) (w : World) 
    (CM0 : ∀ W, Calls Try.prog 28 #[.agg s.cells] W fun e w' => e = .returned (.bool false) ∧ W.grownBy w' none)
    : Calls Try.prog 16 #[.agg s.cells, .int .i64 of] w fun e w' => e = .returned (.tuple #[.agg #[.bool false, .int .i64 0, .int .i64 0, .int .i64 0, .int .i64 0, .int .i64 0, .bool false, .bool false, .int .i64 0], .int .i64 60]) ∧ w.grownBy w' none := by
  have CM := Lib.hid CM0
  clear CM0
  have y16 := s.c16
  have y17 := s.c17
  have y20 := s.c20
  have y21 := s.c21
  have rs := (Row.new w 39 s.cells).kept0 (World.grownBy_alloc _ (.cells #[.bool false, .int .i64 0, .int .i64 0, .int .i64 0, .int .i64 0, .int .i64 0, .bool false, .bool false, .int .i64 0] 23) none)
  have rr := Row.new (w.alloc (.cells s.cells 39)) 23 #[.bool false, .int .i64 0, .int .i64 0, .int .i64 0, .int .i64 0, .int .i64 0, .bool false, .bool false, .int .i64 0]
  have hg := grown_trans (World.grownBy_alloc w (.cells s.cells 39) none) (World.grownBy_alloc _ (.cells #[.bool false, .int .i64 0, .int .i64 0, .int .i64 0, .int .i64 0, .int .i64 0, .bool false, .bool false, .int .i64 0] 23) none)
  simp only [World.size_alloc] at rr
  go_enter Try.func16, Try.ntmps16
  go_upto_region 1 with fail
  have nsr : w.heap.size ≠ w.heap.size + 1 := by omega
  have lr : w.heap.size ≤ w.heap.size + 1 := by omega
  generalize (w.alloc (.cells s.cells 39)).alloc (.cells #[.bool false, .int .i64 0, .int .i64 0, .int .i64 0, .int .i64 0, .int .i64 0, .bool false, .bool false, .int .i64 0] 23) = W0 at *
  generalize w.heap.size + 1 = gr at *
  go_wp2_with (refine wpList_row bigS rs (Sty.size _) rfl rfl rfl ?_; simp only [Act.put, List.setIfInBounds_toArray, List.set_cons_zero, List.set_cons_succ])
  refine (CM.out _).mono ?_; rintro e V1 ⟨rfl, hx⟩
  replace rs := rs.kept0 hx
  replace rr := rr.kept0 hx
  replace hg := grown_trans hg hx
  clear hx
  go_wp2_with (first | (refine wpList_put bigA rr rfl rfl (nine_one _ _ _ _ _ _ _ _ _) rfl rfl rfl rfl ?_; simp only [Act.put, List.setIfInBounds_toArray, List.set_cons_zero, List.set_cons_succ]))
  have hr := rr.store #[.bool false, .int .i64 0, .int .i64 0, .int .i64 0, .int .i64 0, .int .i64 0, .bool false, .bool false, .int .i64 0]
  have hgF := grown_new hg (grownBy_setRow _ gr #[.bool false, .int .i64 0, .int .i64 0, .int .i64 0, .int .i64 0, .int .i64 0, .bool false, .bool false, .int .i64 0]) (fun e h => by cases h; exact lr)
  have k0 := hr.at 0
  have k1 := hr.at 1
  have k2 := hr.at 2
  have k3 := hr.at 3
  have k4 := hr.at 4
  have k5 := hr.at 5
  have k6 := hr.at 6
  have k7 := hr.at 7
  have k8 := hr.at 8
  simp only [List.getElem?_toArray, List.getElem?_cons_zero, List.getElem?_cons_succ] at k0 k1 k2 k3 k4 k5 k6 k7 k8
  exact bodyPost_ret (v := .tuple #[.agg #[.bool false, .int .i64 0, .int .i64 0, .int .i64 0, .int .i64 0, .int .i64 0, .bool false, .bool false, .int .i64 0], .int .i64 60]) (by simp [results, Try.results16, go_sem, k0, k1, k2, k3, k4, k5, k6, k7, k8]) rfl ⟨rfl, hgF⟩
set_option maxRecDepth 100000 in
set_option maxHeartbeats 2000000 in
theorem rof_raw1 (s : Sty) (of : Int) (w : World) (x0 y0 x1 e1 x2 x3 e2 x4 e3 x5 e4 : Int) (b1 b4 b5 : Bool)  (h1 : e1 ≠ 0)
    (CM0 : ∀ W, Calls Try.prog 28 #[.agg s.cells] W fun e w' => e = .returned (.bool true) ∧ W.grownBy w' none)
    (CE0 : ∀ W, Calls Try.prog 29 #[.agg s.cells] W fun e w' => e = .returned (.tuple #[.int .i64 x0, .int .i64 y0]) ∧ W.grownBy w' none)
    (CW0 : ∀ W, Calls Try.prog 30 #[.agg s.cells, .int .i64 of] W fun e w' => e = .returned (.tuple #[.int .i64 x1, .bool b1, .int .i64 e1]) ∧ W.grownBy w' none)
    (CL0 : ∀ W, Calls Try.prog 31 #[.agg s.cells, .int .i64 of] W fun e w' => e = .returned (.tuple #[.int .i64 x2, .int .i64 x3, .int .i64 e2]) ∧ W.grownBy w' none)
    (CR0 : ∀ W, Calls Try.prog 32 #[.agg #[.int .u8 (s.n 20), .int .i64 (s.n 21)], .int .i64 of] W fun e w' => e = .returned (.tuple #[.int .i64 x4, .bool b4, .int .i64 e3]) ∧ W.grownBy w' none)
    (CS0 : ∀ W, Calls Try.prog 32 #[.agg #[.int .u8 (s.n 16), .int .i64 (s.n 17)], .int .i64 of] W fun e w' => e = .returned (.tuple #[.int .i64 x5, .bool b5, .int .i64 e4]) ∧ W.grownBy w' none) 
    : Calls Try.prog 16 #[.agg s.cells, .int .i64 of] w fun e w' => e = .returned (.tuple #[.agg #[.bool false, .int .i64 0, .int .i64 0, .int .i64 0, .int .i64 0, .int .i64 0, .bool false, .bool false, .int .i64 0], .int .i64 e1]) ∧ w.grownBy w' none := by
  have hne : (e1 != 0) = true := by simp [h1]
  have heq : (e1 == 0) = false := by simp [h1]
  clear h1
  have CM := Lib.hid CM0
  clear CM0
  have CE := Lib.hid CE0
  clear CE0
  have CW := Lib.hid CW0
  clear CW0
  have CL := Lib.hid CL0
  clear CL0
  have CR := Lib.hid CR0
  clear CR0
  have CS := Lib.hid CS0
  clear CS0
  have y16 := s.c16
  have y17 := s.c17
  have y20 := s.c20
  have y21 := s.c21
  have rs := (Row.new w 39 s.cells).kept0 (World.grownBy_alloc _ (.cells #[.bool false, .int .i64 0, .int .i64 0, .int .i64 0, .int .i64 0, .int .i64 0, .bool false, .bool false, .int .i64 0] 23) none)
  have rr := Row.new (w.alloc (.cells s.cells 39)) 23 #[.bool false, .int .i64 0, .int .i64 0, .int .i64 0, .int .i64 0, .int .i64 0, .bool false, .bool false, .int .i64 0]
  have hg := grown_trans (World.grownBy_alloc w (.cells s.cells 39) none) (World.grownBy_alloc _ (.cells #[.bool false, .int .i64 0, .int .i64 0, .int .i64 0, .int .i64 0, .int .i64 0, .bool false, .bool false, .int .i64 0] 23) none)
  simp only [World.size_alloc] at rr
  go_enter Try.func16, Try.ntmps16
  go_upto_region 1 with fail
  have nsr : w.heap.size ≠ w.heap.size + 1 := by omega
  have lr : w.heap.size ≤ w.heap.size + 1 := by omega
  generalize (w.alloc (.cells s.cells 39)).alloc (.cells #[.bool false, .int .i64 0, .int .i64 0, .int .i64 0, .int .i64 0, .int .i64 0, .bool false, .bool false, .int .i64 0] 23) = W0 at *
  generalize w.heap.size + 1 = gr at *
  go_wp2_with (refine wpList_row bigS rs (Sty.size _) rfl rfl rfl ?_; simp only [Act.put, List.setIfInBounds_toArray, List.set_cons_zero, List.set_cons_succ])
  refine (CM.out _).mono ?_; rintro e V1 ⟨rfl, hx⟩
  replace rs := rs.kept0 hx
  replace rr := rr.kept0 hx
  replace hg := grown_trans hg hx
  clear hx
  go_upto_region 4 with fail
  have hlr := rr.lt
  have hls := rs.lt
  have hgs := hg.size
  have nsa : w.heap.size ≠ V1.heap.size := by omega
  have nra : gr ≠ V1.heap.size := by omega
  have la : w.heap.size ≤ V1.heap.size := hgs
  have ra := Row.new V1 23 #[.bool false, .int .i64 0, .int .i64 0, .int .i64 0, .int .i64 0, .int .i64 0, .bool false, .bool false, .int .i64 0]
  have hx := World.grownBy_alloc V1 (.cells #[.bool false, .int .i64 0, .int .i64 0, .int .i64 0, .int .i64 0, .int .i64 0, .bool false, .bool false, .int .i64 0] 23) none
  replace rs := rs.kept0 hx
  replace rr := rr.kept0 hx
  replace hg := grown_trans hg hx
  clear hlr hls hgs hx
  generalize V1.alloc (.cells #[.bool false, .int .i64 0, .int .i64 0, .int .i64 0, .int .i64 0, .int .i64 0, .bool false, .bool false, .int .i64 0] 23) = W1 at *
  generalize V1.heap.size = ga at *
  go_wp2_with (refine wpList_row bigS rs (Sty.size _) rfl rfl rfl ?_; simp only [Act.put, List.setIfInBounds_toArray, List.set_cons_zero, List.set_cons_succ])
  refine (CE.out _).mono ?_; rintro e V2 ⟨rfl, hx⟩
  replace rs := rs.kept0 hx
  replace rr := rr.kept0 hx
  replace ra := ra.kept0 hx
  replace hg := grown_trans hg hx
  clear hx
  have ca8 := ra.at 8
  have fa8 := ra.free 8
  simp only [List.getElem?_toArray, List.getElem?_cons_zero, List.getElem?_cons_succ] at ca8
  go_upto_region 5 with fail
  clear ca8 fa8
  have gy := grownBy_setCell V2 ga 8 (.int .i64 x0)
  replace rs := rs.keptNe gy nsa
  replace rr := rr.keptNe gy nra
  replace ra := (ra.set 8 (.int .i64 x0)).as #[.bool false, .int .i64 0, .int .i64 0, .int .i64 0, .int .i64 0, .int .i64 0, .bool false, .bool false, .int .i64 x0] rfl
  replace hg := grown_new hg gy (fun e h => by cases h; exact la)
  clear gy
  generalize V2.setCell ⟨ga, 8, none⟩ (.int .i64 x0) = W2 at *
  go_wp2_with (refine wpList_row bigS rs (Sty.size _) rfl rfl rfl ?_; simp only [Act.put, List.setIfInBounds_toArray, List.set_cons_zero, List.set_cons_succ])
  refine (CW.out _).mono ?_; rintro e V3 ⟨rfl, hx⟩
  replace rs := rs.kept0 hx
  replace rr := rr.kept0 hx
  replace ra := ra.kept0 hx
  replace hg := grown_trans hg hx
  clear hx
  have ca1 := ra.at 1
  have fa1 := ra.free 1
  have ca0 := ra.at 0
  have fa0 := ra.free 0
  simp only [List.getElem?_toArray, List.getElem?_cons_zero, List.getElem?_cons_succ] at ca1 ca0
  go_upto_region 7 with fail
  clear ca1 fa1 ca0 fa0
  have gy := grownBy_setCell V3 ga 1 (.int .i64 x1)
  replace rs := rs.keptNe gy nsa
  replace rr := rr.keptNe gy nra
  replace ra := (ra.set 1 (.int .i64 x1)).as #[.bool false, .int .i64 x1, .int .i64 0, .int .i64 0, .int .i64 0, .int .i64 0, .bool false, .bool false, .int .i64 x0] rfl
  replace hg := grown_new hg gy (fun e h => by cases h; exact la)
  clear gy
  have gy := grownBy_setCell (V3.setCell ⟨ga, 1, none⟩ (.int .i64 x1)) ga 0 (.bool b1)
  replace rs := rs.keptNe gy nsa
  replace rr := rr.keptNe gy nra
  replace ra := (ra.set 0 (.bool b1)).as #[.bool b1, .int .i64 x1, .int .i64 0, .int .i64 0, .int .i64 0, .int .i64 0, .bool false, .bool false, .int .i64 x0] rfl
  replace hg := grown_new hg gy (fun e h => by cases h; exact la)
  clear gy
  generalize (V3.setCell ⟨ga, 1, none⟩ (.int .i64 x1)).setCell ⟨ga, 0, none⟩ (.bool b1) = W3 at *
  go_wp2_with (first | (refine wpList_put bigA rr rfl rfl (nine_one _ _ _ _ _ _ _ _ _) rfl rfl rfl rfl ?_; simp only [Act.put, List.setIfInBounds_toArray, List.set_cons_zero, List.set_cons_succ]))
  have hr := rr.store #[.bool false, .int .i64 0, .int .i64 0, .int .i64 0, .int .i64 0, .int .i64 0, .bool false, .bool false, .int .i64 0]
  have hgF := grown_new hg (grownBy_setRow _ gr #[.bool false, .int .i64 0, .int .i64 0, .int .i64 0, .int .i64 0, .int .i64 0, .bool false, .bool false, .int .i64 0]) (fun e h => by cases h; exact lr)
  have k0 := hr.at 0
  have k1 := hr.at 1
  have k2 := hr.at 2
  have k3 := hr.at 3
  have k4 := hr.at 4
  have k5 := hr.at 5
  have k6 := hr.at 6
  have k7 := hr.at 7
  have k8 := hr.at 8
  simp only [List.getElem?_toArray, List.getElem?_cons_zero, List.getElem?_cons_succ] at k0 k1 k2 k3 k4 k5 k6 k7 k8
  exact bodyPost_ret (v := .tuple #[.agg #[.bool false, .int .i64 0, .int .i64 0, .int .i64 0, .int .i64 0, .int .i64 0, .bool false, .bool false, .int .i64 0], .int .i64 e1]) (by simp [results, Try.results16, go_sem, k0, k1, k2, k3, k4, k5, k6, k7, k8]) rfl ⟨rfl, hgF⟩
set_option maxRecDepth 100000 in
set_option maxHeartbeats 2000000 in
theorem rof_raw2 (s : Sty) (of : Int) (w : World) (x0 y0 x1 e1 x2 x3 e2 x4 e3 x5 e4 : Int) (b1 b4 b5 : Bool) (h1 : e1 = 0) (h2 : e2 ≠ 0)
    (CM0 : ∀ W, Calls Try.prog 28 #[.agg s.cells] W fun e w' => e = .returned (.bool true) ∧ W.grownBy w' none)
    (CE0 : ∀ W, Calls Try.prog 29 #[.agg s.cells] W fun e w' => e = .returned (.tuple #[.int .i64 x0, .int .i64 y0]) ∧ W.grownBy w' none)
    (CW0 : ∀ W, Calls Try.prog 30 #[.agg s.cells, .int .i64 of] W fun e w' => e = .returned (.tuple #[.int .i64 x1, .bool b1, .int .i64 e1]) ∧ W.grownBy w' none)
    (CL0 : ∀ W, Calls Try.prog 31 #[.agg s.cells, .int .i64 of] W fun e w' => e = .returned (.tuple #[.int .i64 x2, .int .i64 x3, .int .i64 e2]) ∧ W.grownBy w' none)
    (CR0 : ∀ W, Calls Try.prog 32 #[.agg #[.int .u8 (s.n 20), .int .i64 (s.n 21)], .int .i64 of] W fun e w' => e = .returned (.tuple #[.int .i64 x4, .bool b4, .int .i64 e3]) ∧ W.grownBy w' none)
    (CS0 : ∀ W, Calls Try.prog 32 #[.agg #[.int .u8 (s.n 16), .int .i64 (s.n 17)], .int .i64 of] W fun e w' => e = .returned (.tuple #[.int .i64 x5, .bool b5, .int .i64 e4]) ∧ W.grownBy w' none) 
    : Calls Try.prog 16 #[.agg s.cells, .int .i64 of] w fun e w' => e = .returned (.tuple #[.agg #[.bool false, .int .i64 0, .int .i64 0, .int .i64 0, .int .i64 0, .int .i64 0, .bool false, .bool false, .int .i64 0], .int .i64 e2]) ∧ w.grownBy w' none := by
  subst h1
  have hne : (e2 != 0) = true := by simp [h2]
  have heq : (e2 == 0) = false := by simp [h2]
  clear h2
  have CM := Lib.hid CM0
  clear CM0
  have CE := Lib.hid CE0
  clear CE0
  have CW := Lib.hid CW0
  clear CW0
  have CL := Lib.hid CL0
  clear CL0
  have CR := Lib.hid CR0
  clear CR0
  have CS := Lib.hid CS0
  clear CS0
  have y16 := s.c16
  have y17 := s.c17
  have y20 := s.c20
  have y21 := s.c21
  have rs := (Row.new w 39 s.cells).kept0 (World.grownBy_alloc _ (.cells #[.bool false, .int .i64 0, .int .i64 0, .int .i64 0, .int .i64 0, .int .i64 0, .bool false, .bool false, .int .i64 0] 23) none)
  have rr := Row.new (w.alloc (.cells s.cells 39)) 23 #[.bool false, .int .i64 0, .int .i64 0, .int .i64 0, .int .i64 0, .int .i64 0, .bool false, .bool false, .int .i64 0]
  have hg := grown_trans (World.grownBy_alloc w (.cells s.cells 39) none) (World.grownBy_alloc _ (.cells #[.bool false, .int .i64 0, .int .i64 0, .int .i64 0, .int .i64 0, .int .i64 0, .bool false, .bool false, .int .i64 0] 23) none)
  simp only [World.size_alloc] at rr
  go_enter Try.func16, Try.ntmps16
  go_upto_region 1 with fail
  have nsr : w.heap.size ≠ w.heap.size + 1 := by omega
  have lr : w.heap.size ≤ w.heap.size + 1 := by omega
  generalize (w.alloc (.cells s.cells 39)).alloc (.cells #[.bool false, .int .i64 0, .int .i64 0, .int .i64 0, .int .i64 0, .int .i64 0, .bool false, .bool false, .int .i64 0] 23) = W0 at *
  generalize w.heap.size + 1 = gr at *
  go_wp2_with (refine wpList_row bigS rs (Sty.size _) rfl rfl rfl ?_; simp only [Act.put, List.setIfInBounds_toArray, List.set_cons_zero, List.set_cons_succ])
  refine (CM.out _).mono ?_; rintro e V1 ⟨rfl, hx⟩
  replace rs := rs.kept0 hx
  replace rr := rr.kept0 hx
  replace hg := grown_trans hg hx
  clear hx
  go_upto_region 4 with fail
  have hlr := rr.lt
  have hls := rs.lt
  have hgs := hg.size
  have nsa : w.heap.size ≠ V1.heap.size := by omega
  have nra : gr ≠ V1.heap.size := by omega
  have la : w.heap.size ≤ V1.heap.size := hgs
  have ra := Row.new V1 23 #[.bool false, .int .i64 0, .int .i64 0, .int .i64 0, .int .i64 0, .int .i64 0, .bool false, .bool false, .int .i64 0]
  have hx := World.grownBy_alloc V1 (.cells #[.bool false, .int .i64 0, .int .i64 0, .int .i64 0, .int .i64 0, .int .i64 0, .bool false, .bool false, .int .i64 0] 23) none
  replace rs := rs.kept0 hx
  replace rr := rr.kept0 hx
  replace hg := grown_trans hg hx
  clear hlr hls hgs hx
  generalize V1.alloc (.cells #[.bool false, .int .i64 0, .int .i64 0, .int .i64 0, .int .i64 0, .int .i64 0, .bool false, .bool false, .int .i64 0] 23) = W1 at *
  generalize V1.heap.size = ga at *
  go_wp2_with (refine wpList_row bigS rs (Sty.size _) rfl rfl rfl ?_; simp only [Act.put, List.setIfInBounds_toArray, List.set_cons_zero, List.set_cons_succ])
  refine (CE.out _).mono ?_; rintro e V2 ⟨rfl, hx⟩
  replace rs := rs.kept0 hx
  replace rr := rr.kept0 hx
  replace ra := ra.kept0 hx
  replace hg := grown_trans hg hx
  clear hx
  have ca8 := ra.at 8
  have fa8 := ra.free 8
  simp only [List.getElem?_toArray, List.getElem?_cons_zero, List.getElem?_cons_succ] at ca8
  go_upto_region 5 with fail
  clear ca8 fa8
  have gy := grownBy_setCell V2 ga 8 (.int .i64 x0)
  replace rs := rs.keptNe gy nsa
  replace rr := rr.keptNe gy nra
  replace ra := (ra.set 8 (.int .i64 x0)).as #[.bool false, .int .i64 0, .int .i64 0, .int .i64 0, .int .i64 0, .int .i64 0, .bool false, .bool false, .int .i64 x0] rfl
  replace hg := grown_new hg gy (fun e h => by cases h; exact la)
  clear gy
  generalize V2.setCell ⟨ga, 8, none⟩ (.int .i64 x0) = W2 at *
  go_wp2_with (refine wpList_row bigS rs (Sty.size _) rfl rfl rfl ?_; simp only [Act.put, List.setIfInBounds_toArray, List.set_cons_zero, List.set_cons_succ])
  refine (CW.out _).mono ?_; rintro e V3 ⟨rfl, hx⟩
  replace rs := rs.kept0 hx
  replace rr := rr.kept0 hx
  replace ra := ra.kept0 hx
  replace hg := grown_trans hg hx
  clear hx
  have ca1 := ra.at 1
  have fa1 := ra.free 1
  have ca0 := ra.at 0
  have fa0 := ra.free 0
  simp only [List.getElem?_toArray, List.getElem?_cons_zero, List.getElem?_cons_succ] at ca1 ca0
  go_upto_region 7 with fail
  clear ca1 fa1 ca0 fa0
  have gy := grownBy_setCell V3 ga 1 (.int .i64 x1)
  replace rs := rs.keptNe gy nsa
  replace rr := rr.keptNe gy nra
  replace ra := (ra.set 1 (.int .i64 x1)).as #[.bool false, .int .i64 x1, .int .i64 0, .int .i64 0, .int .i64 0, .int .i64 0, .bool false, .bool false, .int .i64 x0] rfl
  replace hg := grown_new hg gy (fun e h => by cases h; exact la)
  clear gy
  have gy := grownBy_setCell (V3.setCell ⟨ga, 1, none⟩ (.int .i64 x1)) ga 0 (.bool b1)
  replace rs := rs.keptNe gy nsa
  replace rr := rr.keptNe gy nra
  replace ra := (ra.set 0 (.bool b1)).as #[.bool b1, .int .i64 x1, .int .i64 0, .int .i64 0, .int .i64 0, .int .i64 0, .bool false, .bool false, .int .i64 x0] rfl
  replace hg := grown_new hg gy (fun e h => by cases h; exact la)
  clear gy
  generalize (V3.setCell ⟨ga, 1, none⟩ (.int .i64 x1)).setCell ⟨ga, 0, none⟩ (.bool b1) = W3 at *
  go_wp2_with (refine wpList_row bigS rs (Sty.size _) rfl rfl rfl ?_; simp only [Act.put, List.setIfInBounds_toArray, List.set_cons_zero, List.set_cons_succ])
  refine (CL.out _).mono ?_; rintro e V4 ⟨rfl, hx⟩
  replace rs := rs.kept0 hx
  replace rr := rr.kept0 hx
  replace ra := ra.kept0 hx
  replace hg := grown_trans hg hx
  clear hx
  have ca2 := ra.at 2
  have fa2 := ra.free 2
  have ca3 := ra.at 3
  have fa3 := ra.free 3
  simp only [List.getElem?_toArray, List.getElem?_cons_zero, List.getElem?_cons_succ] at ca2 ca3
  go_upto_region 9 with fail
  clear ca2 fa2 ca3 fa3
  have gy := grownBy_setCell V4 ga 2 (.int .i64 x2)
  replace rs := rs.keptNe gy nsa
  replace rr := rr.keptNe gy nra
  replace ra := (ra.set 2 (.int .i64 x2)).as #[.bool b1, .int .i64 x1, .int .i64 x2, .int .i64 0, .int .i64 0, .int .i64 0, .bool false, .bool false, .int .i64 x0] rfl
  replace hg := grown_new hg gy (fun e h => by cases h; exact la)
  clear gy
  have gy := grownBy_setCell (V4.setCell ⟨ga, 2, none⟩ (.int .i64 x2)) ga 3 (.int .i64 x3)
  replace rs := rs.keptNe gy nsa
  replace rr := rr.keptNe gy nra
  replace ra := (ra.set 3 (.int .i64 x3)).as #[.bool b1, .int .i64 x1, .int .i64 x2, .int .i64 x3, .int .i64 0, .int .i64 0, .bool false, .bool false, .int .i64 x0] rfl
  replace hg := grown_new hg gy (fun e h => by cases h; exact la)
  clear gy
  generalize (V4.setCell ⟨ga, 2, none⟩ (.int .i64 x2)).setCell ⟨ga, 3, none⟩ (.int .i64 x3) = W4 at *
  go_wp2_with (first | (refine wpList_put bigA rr rfl rfl (nine_one _ _ _ _ _ _ _ _ _) rfl rfl rfl rfl ?_; simp only [Act.put, List.setIfInBounds_toArray, List.set_cons_zero, List.set_cons_succ]))
  have hr := rr.store #[.bool false, .int .i64 0, .int .i64 0, .int .i64 0, .int .i64 0, .int .i64 0, .bool false, .bool false, .int .i64 0]
  have hgF := grown_new hg (grownBy_setRow _ gr #[.bool false, .int .i64 0, .int .i64 0, .int .i64 0, .int .i64 0, .int .i64 0, .bool false, .bool false, .int .i64 0]) (fun e h => by cases h; exact lr)
  have k0 := hr.at 0
  have k1 := hr.at 1
  have k2 := hr.at 2
  have k3 := hr.at 3
  have k4 := hr.at 4
  have k5 := hr.at 5
  have k6 := hr.at 6
  have k7 := hr.at 7
  have k8 := hr.at 8
  simp only [List.getElem?_toArray, List.getElem?_cons_zero, List.getElem?_cons_succ] at k0 k1 k2 k3 k4 k5 k6 k7 k8
  exact bodyPost_ret (v := .tuple #[.agg #[.bool false, .int .i64 0, .int .i64 0, .int .i64 0, .int .i64 0, .int .i64 0, .bool false, .bool false, .int .i64 0], .int .i64 e2]) (by simp [results, Try.results16, go_sem, k0, k1, k2, k3, k4, k5, k6, k7, k8]) rfl ⟨rfl, hgF⟩
set_option maxRecDepth 100000 in
set_option maxHeartbeats 2000000 in
theorem rof_raw3 (s : Sty) (of : Int) (w : World) (x0 y0 x1 e1 x2 x3 e2 x4 e3 x5 e4 : Int) (b1 b4 b5 : Bool) (h1 : e1 = 0) (h2 : e2 = 0) (h3 : e3 ≠ 0)
    (CM0 : ∀ W, Calls Try.prog 28 #[.agg s.cells] W fun e w' => e = .returned (.bool true) ∧ W.grownBy w' none)
    (CE0 : ∀ W, Calls Try.prog 29 #[.agg s.cells] W fun e w' => e = .returned (.tuple #[.int .i64 x0, .int .i64 y0]) ∧ W.grownBy w' none)
    (CW0 : ∀ W, Calls Try.prog 30 #[.agg s.cells, .int .i64 of] W fun e w' => e = .returned (.tuple #[.int .i64 x1, .bool b1, .int .i64 e1]) ∧ W.grownBy w' none)
    (CL0 : ∀ W, Calls Try.prog 31 #[.agg s.cells, .int .i64 of] W fun e w' => e = .returned (.tuple #[.int .i64 x2, .int .i64 x3, .int .i64 e2]) ∧ W.grownBy w' none)
    (CR0 : ∀ W, Calls Try.prog 32 #[.agg #[.int .u8 (s.n 20), .int .i64 (s.n 21)], .int .i64 of] W fun e w' => e = .returned (.tuple #[.int .i64 x4, .bool b4, .int .i64 e3]) ∧ W.grownBy w' none)
    (CS0 : ∀ W, Calls Try.prog 32 #[.agg #[.int .u8 (s.n 16), .int .i64 (s.n 17)], .int .i64 of] W fun e w' => e = .returned (.tuple #[.int .i64 x5, .bool b5, .int .i64 e4]) ∧ W.grownBy w' none) 
    : Calls Try.prog 16 #[.agg s.cells, .int .i64 of] w fun e w' => e = .returned (.tuple #[.agg #[.bool false, .int .i64 0, .int .i64 0, .int .i64 0, .int .i64 0, .int .i64 0, .bool false, .bool false, .int .i64 0], .int .i64 e3]) ∧ w.grownBy w' none := by
  subst h1
  subst h2
  have hne : (e3 != 0) = true := by simp [h3]
  have heq : (e3 == 0) = false := by simp [h3]
  clear h3
  have CM := Lib.hid CM0
  clear CM0
  have CE := Lib.hid CE0
  clear CE0
  have CW := Lib.hid CW0
  clear CW0
  have CL := Lib.hid CL0
  clear CL0
  have CR := Lib.hid CR0
  clear CR0
  have CS := Lib.hid CS0
  clear CS0
  have y16 := s.c16
  have y17 := s.c17
  have y20 := s.c20
  have y21 := s.c21
  have rs := (Row.new w 39 s.cells).kept0 (World.grownBy_alloc _ (.cells #[.bool false, .int .i64 0, .int .i64 0, .int .i64 0, .int .i64 0, .int .i64 0, .bool false, .bool false, .int .i64 0] 23) none)
  have rr := Row.new (w.alloc (.cells s.cells 39)) 23 #[.bool false, .int .i64 0, .int .i64 0, .int .i64 0, .int .i64 0, .int .i64 0, .bool false, .bool false, .int .i64 0]
  have hg := grown_trans (World.grownBy_alloc w (.cells s.cells 39) none) (World.grownBy_alloc _ (.cells #[.bool false, .int .i64 0, .int .i64 0, .int .i64 0, .int .i64 0, .int .i64 0, .bool false, .bool false, .int .i64 0] 23) none)
  simp only [World.size_alloc] at rr
  go_enter Try.func16, Try.ntmps16
  go_upto_region 1 with fail
  have nsr : w.heap.size ≠ w.heap.size + 1 := by omega
  have lr : w.heap.size ≤ w.heap.size + 1 := by omega
  generalize (w.alloc (.cells s.cells 39)).alloc (.cells #[.bool false, .int .i64 0, .int .i64 0, .int .i64 0, .int .i64 0, .int .i64 0, .bool false, .bool false, .int .i64 0] 23) = W0 at *
  generalize w.heap.size + 1 = gr at *
  go_wp2_with (refine wpList_row bigS rs (Sty.size _) rfl rfl rfl ?_; simp only [Act.put, List.setIfInBounds_toArray, List.set_cons_zero, List.set_cons_succ])
  refine (CM.out _).mono ?_; rintro e V1 ⟨rfl, hx⟩
  replace rs := rs.kept0 hx
  replace rr := rr.kept0 hx
  replace hg := grown_trans hg hx
  clear hx
  go_upto_region 4 with fail
  have hlr := rr.lt
  have hls := rs.lt
  have hgs := hg.size
  have nsa : w.heap.size ≠ V1.heap.size := by omega
  have nra : gr ≠ V1.heap.size := by omega
  have la : w.heap.size ≤ V1.heap.size := hgs
  have ra := Row.new V1 23 #[.bool false, .int .i64 0, .int .i64 0, .int .i64 0, .int .i64 0, .int .i64 0, .bool false, .bool false, .int .i64 0]
  have hx := World.grownBy_alloc V1 (.cells #[.bool false, .int .i64 0, .int .i64 0, .int .i64 0, .int .i64 0, .int .i64 0, .bool false, .bool false, .int .i64 0] 23) none
  replace rs := rs.kept0 hx
  replace rr := rr.kept0 hx
  replace hg := grown_trans hg hx
  clear hlr hls hgs hx
  generalize V1.alloc (.cells #[.bool false, .int .i64 0, .int .i64 0, .int .i64 0, .int .i64 0, .int .i64 0, .bool false, .bool false, .int .i64 0] 23) = W1 at *
  generalize V1.heap.size = ga at *
  go_wp2_with (refine wpList_row bigS rs (Sty.size _) rfl rfl rfl ?_; simp only [Act.put, List.setIfInBounds_toArray, List.set_cons_zero, List.set_cons_succ])
  refine (CE.out _).mono ?_; rintro e V2 ⟨rfl, hx⟩
  replace rs := rs.kept0 hx
  replace rr := rr.kept0 hx
  replace ra := ra.kept0 hx
  replace hg := grown_trans hg hx
  clear hx
  have ca8 := ra.at 8
  have fa8 := ra.free 8
  simp only [List.getElem?_toArray, List.getElem?_cons_zero, List.getElem?_cons_succ] at ca8
  go_upto_region 5 with fail
  clear ca8 fa8
  have gy := grownBy_setCell V2 ga 8 (.int .i64 x0)
  replace rs := rs.keptNe gy nsa
  replace rr := rr.keptNe gy nra
  replace ra := (ra.set 8 (.int .i64 x0)).as #[.bool false, .int .i64 0, .int .i64 0, .int .i64 0, .int .i64 0, .int .i64 0, .bool false, .bool false, .int .i64 x0] rfl
  replace hg := grown_new hg gy (fun e h => by cases h; exact la)
  clear gy
  generalize V2.setCell ⟨ga, 8, none⟩ (.int .i64 x0) = W2 at *
  go_wp2_with (refine wpList_row bigS rs (Sty.size _) rfl rfl rfl ?_; simp only [Act.put, List.setIfInBounds_toArray, List.set_cons_zero, List.set_cons_succ])
  refine (CW.out _).mono ?_; rintro e V3 ⟨rfl, hx⟩
  replace rs := rs.kept0 hx
  replace rr := rr.kept0 hx
  replace ra := ra.kept0 hx
  replace hg := grown_trans hg hx
  clear hx
  have ca1 := ra.at 1
  have fa1 := ra.free 1
  have ca0 := ra.at 0
  have fa0 := ra.free 0
  simp only [List.getElem?_toArray, List.getElem?_cons_zero, List.getElem?_cons_succ] at ca1 ca0
  go_upto_region 7 with fail
  clear ca1 fa1 ca0 fa0
  have gy := grownBy_setCell V3 ga 1 (.int .i64 x1)
  replace rs := rs.keptNe gy nsa
  replace rr := rr.keptNe gy nra
  replace ra := (ra.set 1 (.int .i64 x1)).as #[.bool false, .int .i64 x1, .int .i64 0, .int .i64 0, .int .i64 0, .int .i64 0, .bool false, .bool false, .int .i64 x0] rfl
  replace hg := grown_new hg gy (fun e h => by cases h; exact la)
  clear gy
  have gy := grownBy_setCell (V3.setCell ⟨ga, 1, none⟩ (.int .i64 x1)) ga 0 (.bool b1)
  replace rs := rs.keptNe gy nsa
  replace rr := rr.keptNe gy nra
  replace ra := (ra.set 0 (.bool b1)).as #[.bool b1, .int .i64 x1, .int .i64 0, .int .i64 0, .int .i64 0, .int .i64 0, .bool false, .bool false, .int .i64 x0] rfl
  replace hg := grown_new hg gy (fun e h => by cases h; exact la)
  clear gy
  generalize (V3.setCell ⟨ga, 1, none⟩ (.int .i64 x1)).setCell ⟨ga, 0, none⟩ (.bool b1) = W3 at *
  go_wp2_with (refine wpList_row bigS rs (Sty.size _) rfl rfl rfl ?_; simp only [Act.put, List.setIfInBounds_toArray, List.set_cons_zero, List.set_cons_succ])
  refine (CL.out _).mono ?_; rintro e V4 ⟨rfl, hx⟩
  replace rs := rs.kept0 hx
  replace rr := rr.kept0 hx
  replace ra := ra.kept0 hx
  replace hg := grown_trans hg hx
  clear hx
  have ca2 := ra.at 2
  have fa2 := ra.free 2
  have ca3 := ra.at 3
  have fa3 := ra.free 3
  simp only [List.getElem?_toArray, List.getElem?_cons_zero, List.getElem?_cons_succ] at ca2 ca3
  go_upto_region 9 with fail
  clear ca2 fa2 ca3 fa3
  have gy := grownBy_setCell V4 ga 2 (.int .i64 x2)
  replace rs := rs.keptNe gy nsa
  replace rr := rr.keptNe gy nra
  replace ra := (ra.set 2 (.int .i64 x2)).as #[.bool b1, .int .i64 x1, .int .i64 x2, .int .i64 0, .int .i64 0, .int .i64 0, .bool false, .bool false, .int .i64 x0] rfl
  replace hg := grown_new hg gy (fun e h => by cases h; exact la)
  clear gy
  have gy := grownBy_setCell (V4.setCell ⟨ga, 2, none⟩ (.int .i64 x2)) ga 3 (.int .i64 x3)
  replace rs := rs.keptNe gy nsa
  replace rr := rr.keptNe gy nra
  replace ra := (ra.set 3 (.int .i64 x3)).as #[.bool b1, .int .i64 x1, .int .i64 x2, .int .i64 x3, .int .i64 0, .int .i64 0, .bool false, .bool false, .int .i64 x0] rfl
  replace hg := grown_new hg gy (fun e h => by cases h; exact la)
  clear gy
  generalize (V4.setCell ⟨ga, 2, none⟩ (.int .i64 x2)).setCell ⟨ga, 3, none⟩ (.int .i64 x3) = W4 at *
  have z0 := (rs.at 20).trans y20
  have z1 := (rs.at 21).trans y21
  go_wp2_with fail
  refine (CR.out _).mono ?_; rintro e V5 ⟨rfl, hx⟩
  clear z0 z1
  replace rs := rs.kept0 hx
  replace rr := rr.kept0 hx
  replace ra := ra.kept0 hx
  replace hg := grown_trans hg hx
  clear hx
  have ca4 := ra.at 4
  have fa4 := ra.free 4
  have ca6 := ra.at 6
  have fa6 := ra.free 6
  simp only [List.getElem?_toArray, List.getElem?_cons_zero, List.getElem?_cons_succ] at ca4 ca6
  go_upto_region 12 with fail
  clear ca4 fa4 ca6 fa6
  have gy := grownBy_setCell V5 ga 4 (.int .i64 x4)
  replace rs := rs.keptNe gy nsa
  replace rr := rr.keptNe gy nra
  replace ra := (ra.set 4 (.int .i64 x4)).as #[.bool b1, .int .i64 x1, .int .i64 x2, .int .i64 x3, .int .i64 x4, .int .i64 0, .bool false, .bool false, .int .i64 x0] rfl
  replace hg := grown_new hg gy (fun e h => by cases h; exact la)
  clear gy
  have gy := grownBy_setCell (V5.setCell ⟨ga, 4, none⟩ (.int .i64 x4)) ga 6 (.bool (!b4))
  replace rs := rs.keptNe gy nsa
  replace rr := rr.keptNe gy nra
  replace ra := (ra.set 6 (.bool (!b4))).as #[.bool b1, .int .i64 x1, .int .i64 x2, .int .i64 x3, .int .i64 x4, .int .i64 0, .bool (!b4), .bool false, .int .i64 x0] rfl
  replace hg := grown_new hg gy (fun e h => by cases h; exact la)
  clear gy
  generalize (V5.setCell ⟨ga, 4, none⟩ (.int .i64 x4)).setCell ⟨ga, 6, none⟩ (.bool (!b4)) = W5 at *
  go_wp2_with (first | (refine wpList_put bigA rr rfl rfl (nine_one _ _ _ _ _ _ _ _ _) rfl rfl rfl rfl ?_; simp only [Act.put, List.setIfInBounds_toArray, List.set_cons_zero, List.set_cons_succ]))
  have hr := rr.store #[.bool false, .int .i64 0, .int .i64 0, .int .i64 0, .int .i64 0, .int .i64 0, .bool false, .bool false, .int .i64 0]
  have hgF := grown_new hg (grownBy_setRow _ gr #[.bool false, .int .i64 0, .int .i64 0, .int .i64 0, .int .i64 0, .int .i64 0, .bool false, .bool false, .int .i64 0]) (fun e h => by cases h; exact lr)
  have k0 := hr.at 0
  have k1 := hr.at 1
  have k2 := hr.at 2
  have k3 := hr.at 3
  have k4 := hr.at 4
  have k5 := hr.at 5
  have k6 := hr.at 6
  have k7 := hr.at 7
  have k8 := hr.at 8
  simp only [List.getElem?_toArray, List.getElem?_cons_zero, List.getElem?_cons_succ] at k0 k1 k2 k3 k4 k5 k6 k7 k8
  exact bodyPost_ret (v := .tuple #[.agg #[.bool false, .int .i64 0, .int .i64 0, .int .i64 0, .int .i64 0, .int .i64 0, .bool false, .bool false, .int .i64 0], .int .i64 e3]) (by simp [results, Try.results16, go_sem, k0, k1, k2, k3, k4, k5, k6, k7, k8]) rfl ⟨rfl, hgF⟩
set_option maxRecDepth 100000 in
set_option maxHeartbeats 2000000 in
theorem rof_raw4 (s : Sty) (of : Int) (w : World) (x0 y0 x1 e1 x2 x3 e2 x4 e3 x5 e4 : Int) (b1 b4 b5 : Bool) (h1 : e1 = 0) (h2 : e2 = 0) (h3 : e3 = 0) (h4 : e4 ≠ 0)
    (CM0 : ∀ W, Calls Try.prog 28 #[.agg s.cells] W fun e w' => e = .returned (.bool true) ∧ W.grownBy w' none)
    (CE0 : ∀ W, Calls Try.prog 29 #[.agg s.cells] W fun e w' => e = .returned (.tuple #[.int .i64 x0, .int .i64 y0]) ∧ W.grownBy w' none)
    (CW0 : ∀ W, Calls Try.prog 30 #[.agg s.cells, .int .i64 of] W fun e w' => e = .returned (.tuple #[.int .i64 x1, .bool b1, .int .i64 e1]) ∧ W.grownBy w' none)
    (CL0 : ∀ W, Calls Try.prog 31 #[.agg s.cells, .int .i64 of] W fun e w' => e = .returned (.tuple #[.int .i64 x2, .int .i64 x3, .int .i64 e2]) ∧ W.grownBy w' none)
    (CR0 : ∀ W, Calls Try.prog 32 #[.agg #[.int .u8 (s.n 20), .int .i64 (s.n 21)], .int .i64 of] W fun e w' => e = .returned (.tuple #[.int .i64 x4, .bool b4, .int .i64 e3]) ∧ W.grownBy w' none)
    (CS0 : ∀ W, Calls Try.prog 32 #[.agg #[.int .u8 (s.n 16), .int .i64 (s.n 17)], .int .i64 of] W fun e w' => e = .returned (.tuple #[.int .i64 x5, .bool b5, .int .i64 e4]) ∧ W.grownBy w' none) 
    : Calls Try.prog 16 #[.agg s.cells, .int .i64 of] w fun e w' => e = .returned (.tuple #[.agg #[.bool false, .int .i64 0, .int .i64 0, .int .i64 0, .int .i64 0, .int .i64 0, .bool false, .bool false, .int .i64 0], .int .i64 e4]) ∧ w.grownBy w' none := by
  subst h1
  subst h2
  subst h3
  have hne : (e4 != 0) = true := by simp [h4]
  have heq : (e4 == 0) = false := by simp [h4]
  clear h4
  have CM := Lib.hid CM0
  clear CM0
  have CE := Lib.hid CE0
  clear CE0
  have CW := Lib.hid CW0
  clear CW0
  have CL := Lib.hid CL0
  clear CL0
  have CR := Lib.hid CR0
  clear CR0
  have CS := Lib.hid CS0
  clear CS0
  have y16 := s.c16
  have y17 := s.c17
  have y20 := s.c20
  have y21 := s.c21
  have rs := (Row.new w 39 s.cells).kept0 (World.grownBy_alloc _ (.cells #[.bool false, .int .i64 0, .int .i64 0, .int .i64 0, .int .i64 0, .int .i64 0, .bool false, .bool false, .int .i64 0] 23) none)
  have rr := Row.new (w.alloc (.cells s.cells 39)) 23 #[.bool false, .int .i64 0, .int .i64 0, .int .i64 0, .int .i64 0, .int .i64 0, .bool false, .bool false, .int .i64 0]
  have hg := grown_trans (World.grownBy_alloc w (.cells s.cells 39) none) (World.grownBy_alloc _ (.cells #[.bool false, .int .i64 0, .int .i64 0, .int .i64 0, .int .i64 0, .int .i64 0, .bool false, .bool false, .int .i64 0] 23) none)
  simp only [World.size_alloc] at rr
  go_enter Try.func16, Try.ntmps16
  go_upto_region 1 with fail
  have nsr : w.heap.size ≠ w.heap.size + 1 := by omega
  have lr : w.heap.size ≤ w.heap.size + 1 := by omega
  generalize (w.alloc (.cells s.cells 39)).alloc (.cells #[.bool false, .int .i64 0, .int .i64 0, .int .i64 0, .int .i64 0, .int .i64 0, .bool false, .bool false, .int .i64 0] 23) = W0 at *
  generalize w.heap.size + 1 = gr at *
  go_wp2_with (refine wpList_row bigS rs (Sty.size _) rfl rfl rfl ?_; simp only [Act.put, List.setIfInBounds_toArray, List.set_cons_zero, List.set_cons_succ])
  refine (CM.out _).mono ?_; rintro e V1 ⟨rfl, hx⟩
  replace rs := rs.kept0 hx
  replace rr := rr.kept0 hx
  replace hg := grown_trans hg hx
  clear hx
  go_upto_region 4 with fail
  have hlr := rr.lt
  have hls := rs.lt
  have hgs := hg.size
  have nsa : w.heap.size ≠ V1.heap.size := by omega
  have nra : gr ≠ V1.heap.size := by omega
  have la : w.heap.size ≤ V1.heap.size := hgs
  have ra := Row.new V1 23 #[.bool false, .int .i64 0, .int .i64 0, .int .i64 0, .int .i64 0, .int .i64 0, .bool false, .bool false, .int .i64 0]
  have hx := World.grownBy_alloc V1 (.cells #[.bool false, .int .i64 0, .int .i64 0, .int .i64 0, .int .i64 0, .int .i64 0, .bool false, .bool false, .int .i64 0] 23) none
  replace rs := rs.kept0 hx
  replace rr := rr.kept0 hx
  replace hg := grown_trans hg hx
  clear hlr hls hgs hx
  generalize V1.alloc (.cells #[.bool false, .int .i64 0, .int .i64 0, .int .i64 0, .int .i64 0, .int .i64 0, .bool false, .bool false, .int .i64 0] 23) = W1 at *
  generalize V1.heap.size = ga at *
  go_wp2_with (refine wpList_row bigS rs (Sty.size _) rfl rfl rfl ?_; simp only [Act.put, List.setIfInBounds_toArray, List.set_cons_zero, List.set_cons_succ])
  refine (CE.out _).mono ?_; rintro e V2 ⟨rfl, hx⟩
  replace rs := rs.kept0 hx
  replace rr := rr.kept0 hx
  replace ra := ra.kept0 hx
  replace hg := grown_trans hg hx
  clear hx
  have ca8 := ra.at 8
  have fa8 := ra.free 8
  simp only [List.getElem?_toArray, List.getElem?_cons_zero, List.getElem?_cons_succ] at ca8
  go_upto_region 5 with fail
  clear ca8 fa8
  have gy := grownBy_setCell V2 ga 8 (.int .i64 x0)
  replace rs := rs.keptNe gy nsa
  replace rr := rr.keptNe gy nra
  replace ra := (ra.set 8 (.int .i64 x0)).as #[.bool false, .int .i64 0, .int .i64 0, .int .i64 0, .int .i64 0, .int .i64 0, .bool false, .bool false, .int .i64 x0] rfl
  replace hg := grown_new hg gy (fun e h => by cases h; exact la)
  clear gy
  generalize V2.setCell ⟨ga, 8, none⟩ (.int .i64 x0) = W2 at *
  go_wp2_with (refine wpList_row bigS rs (Sty.size _) rfl rfl rfl ?_; simp only [Act.put, List.setIfInBounds_toArray, List.set_cons_zero, List.set_cons_succ])
  refine (CW.out _).mono ?_; rintro e V3 ⟨rfl, hx⟩
  replace rs := rs.kept0 hx
  replace rr := rr.kept0 hx
  replace ra := ra.kept0 hx
  replace hg := grown_trans hg hx
  clear hx
  have ca1 := ra.at 1
  have fa1 := ra.free 1
  have ca0 := ra.at 0
  have fa0 := ra.free 0
  simp only [List.getElem?_toArray, List.getElem?_cons_zero, List.getElem?_cons_succ] at ca1 ca0
  go_upto_region 7 with fail
  clear ca1 fa1 ca0 fa0
  have gy := grownBy_setCell V3 ga 1 (.int .i64 x1)
  replace rs := rs.keptNe gy nsa
  replace rr := rr.keptNe gy nra
  replace ra := (ra.set 1 (.int .i64 x1)).as #[.bool false, .int .i64 x1, .int .i64 0, .int .i64 0, .int .i64 0, .int .i64 0, .bool false, .bool false, .int .i64 x0] rfl
  replace hg := grown_new hg gy (fun e h => by cases h; exact la)
  clear gy
  have gy := grownBy_setCell (V3.setCell ⟨ga, 1, none⟩ (.int .i64 x1)) ga 0 (.bool b1)
  replace rs := rs.keptNe gy nsa
  replace rr := rr.keptNe gy nra
  replace ra := (ra.set 0 (.bool b1)).as #[.bool b1, .int .i64 x1, .int .i64 0, .int .i64 0, .int .i64 0, .int .i64 0, .bool false, .bool false, .int .i64 x0] rfl
  replace hg := grown_new hg gy (fun e h => by cases h; exact la)
  clear gy
  generalize (V3.setCell ⟨ga, 1, none⟩ (.int .i64 x1)).setCell ⟨ga, 0, none⟩ (.bool b1) = W3 at *
  go_wp2_with (refine wpList_row bigS rs (Sty.size _) rfl rfl rfl ?_; simp only [Act.put, List.setIfInBounds_toArray, List.set_cons_zero, List.set_cons_succ])
  refine (CL.out _).mono ?_; rintro e V4 ⟨rfl, hx⟩
  replace rs := rs.kept0 hx
  replace rr := rr.kept0 hx
  replace ra := ra.kept0 hx
  replace hg := grown_trans hg hx
  clear hx
  have ca2 := ra.at 2
  have fa2 := ra.free 2
  have ca3 := ra.at 3
  have fa3 := ra.free 3
  simp only [List.getElem?_toArray, List.getElem?_cons_zero, List.getElem?_cons_succ] at ca2 ca3
  go_upto_region 9 with fail
  clear ca2 fa2 ca3 fa3
  have gy := grownBy_setCell V4 ga 2 (.int .i64 x2)
  replace rs := rs.keptNe gy nsa
  replace rr := rr.keptNe gy nra
  replace ra := (ra.set 2 (.int .i64 x2)).as #[.bool b1, .int .i64 x1, .int .i64 x2, .int .i64 0, .int .i64 0, .int .i64 0, .bool false, .bool false, .int .i64 x0] rfl
  replace hg := grown_new hg gy (fun e h => by cases h; exact la)
  clear gy
  have gy := grownBy_setCell (V4.setCell ⟨ga, 2, none⟩ (.int .i64 x2)) ga 3 (.int .i64 x3)
  replace rs := rs.keptNe gy nsa
  replace rr := rr.keptNe gy nra
  replace ra := (ra.set 3 (.int .i64 x3)).as #[.bool b1, .int .i64 x1, .int .i64 x2, .int .i64 x3, .int .i64 0, .int .i64 0, .bool false, .bool false, .int .i64 x0] rfl
  replace hg := grown_new hg gy (fun e h => by cases h; exact la)
  clear gy
  generalize (V4.setCell ⟨ga, 2, none⟩ (.int .i64 x2)).setCell ⟨ga, 3, none⟩ (.int .i64 x3) = W4 at *
  have z0 := (rs.at 20).trans y20
  have z1 := (rs.at 21).trans y21
  go_wp2_with fail
  refine (CR.out _).mono ?_; rintro e V5 ⟨rfl, hx⟩
  clear z0 z1
  replace rs := rs.kept0 hx
  replace rr := rr.kept0 hx
  replace ra := ra.kept0 hx
  replace hg := grown_trans hg hx
  clear hx
  have ca4 := ra.at 4
  have fa4 := ra.free 4
  have ca6 := ra.at 6
  have fa6 := ra.free 6
  simp only [List.getElem?_toArray, List.getElem?_cons_zero, List.getElem?_cons_succ] at ca4 ca6
  go_upto_region 12 with fail
  clear ca4 fa4 ca6 fa6
  have gy := grownBy_setCell V5 ga 4 (.int .i64 x4)
  replace rs := rs.keptNe gy nsa
  replace rr := rr.keptNe gy nra
  replace ra := (ra.set 4 (.int .i64 x4)).as #[.bool b1, .int .i64 x1, .int .i64 x2, .int .i64 x3, .int .i64 x4, .int .i64 0, .bool false, .bool false, .int .i64 x0] rfl
  replace hg := grown_new hg gy (fun e h => by cases h; exact la)
  clear gy
  have gy := grownBy_setCell (V5.setCell ⟨ga, 4, none⟩ (.int .i64 x4)) ga 6 (.bool (!b4))
  replace rs := rs.keptNe gy nsa
  replace rr := rr.keptNe gy nra
  replace ra := (ra.set 6 (.bool (!b4))).as #[.bool b1, .int .i64 x1, .int .i64 x2, .int .i64 x3, .int .i64 x4, .int .i64 0, .bool (!b4), .bool false, .int .i64 x0] rfl
  replace hg := grown_new hg gy (fun e h => by cases h; exact la)
  clear gy
  generalize (V5.setCell ⟨ga, 4, none⟩ (.int .i64 x4)).setCell ⟨ga, 6, none⟩ (.bool (!b4)) = W5 at *
  have z0 := (rs.at 16).trans y16
  have z1 := (rs.at 17).trans y17
  go_wp2_with fail
  refine (CS.out _).mono ?_; rintro e V6 ⟨rfl, hx⟩
  clear z0 z1
  replace rs := rs.kept0 hx
  replace rr := rr.kept0 hx
  replace ra := ra.kept0 hx
  replace hg := grown_trans hg hx
  clear hx
  have ca5 := ra.at 5
  have fa5 := ra.free 5
  have ca7 := ra.at 7
  have fa7 := ra.free 7
  simp only [List.getElem?_toArray, List.getElem?_cons_zero, List.getElem?_cons_succ] at ca5 ca7
  go_upto_region 15 with fail
  clear ca5 fa5 ca7 fa7
  have gy := grownBy_setCell V6 ga 5 (.int .i64 x5)
  replace rs := rs.keptNe gy nsa
  replace rr := rr.keptNe gy nra
  replace ra := (ra.set 5 (.int .i64 x5)).as #[.bool b1, .int .i64 x1, .int .i64 x2, .int .i64 x3, .int .i64 x4, .int .i64 x5, .bool (!b4), .bool false, .int .i64 x0] rfl
  replace hg := grown_new hg gy (fun e h => by cases h; exact la)
  clear gy
  have gy := grownBy_setCell (V6.setCell ⟨ga, 5, none⟩ (.int .i64 x5)) ga 7 (.bool (!b5))
  replace rs := rs.keptNe gy nsa
  replace rr := rr.keptNe gy nra
  replace ra := (ra.set 7 (.bool (!b5))).as #[.bool b1, .int .i64 x1, .int .i64 x2, .int .i64 x3, .int .i64 x4, .int .i64 x5, .bool (!b4), .bool (!b5), .int .i64 x0] rfl
  replace hg := grown_new hg gy (fun e h => by cases h; exact la)
  clear gy
  generalize (V6.setCell ⟨ga, 5, none⟩ (.int .i64 x5)).setCell ⟨ga, 7, none⟩ (.bool (!b5)) = W6 at *
  go_wp2_with (first | (refine wpList_put bigA rr rfl rfl (nine_one _ _ _ _ _ _ _ _ _) rfl rfl rfl rfl ?_; simp only [Act.put, List.setIfInBounds_toArray, List.set_cons_zero, List.set_cons_succ]))
  have hr := rr.store #[.bool false, .int .i64 0, .int .i64 0, .int .i64 0, .int .i64 0, .int .i64 0, .bool false, .bool false, .int .i64 0]
  have hgF := grown_new hg (grownBy_setRow _ gr #[.bool false, .int .i64 0, .int .i64 0, .int .i64 0, .int .i64 0, .int .i64 0, .bool false, .bool false, .int .i64 0]) (fun e h => by cases h; exact lr)
  have k0 := hr.at 0
  have k1 := hr.at 1
  have k2 := hr.at 2
  have k3 := hr.at 3
  have k4 := hr.at 4
  have k5 := hr.at 5
  have k6 := hr.at 6
  have k7 := hr.at 7
  have k8 := hr.at 8
  simp only [List.getElem?_toArray, List.getElem?_cons_zero, List.getElem?_cons_succ] at k0 k1 k2 k3 k4 k5 k6 k7 k8
  exact bodyPost_ret (v := .tuple #[.agg #[.bool false, .int .i64 0, .int .i64 0, .int .i64 0, .int .i64 0, .int .i64 0, .bool false, .bool false, .int .i64 0], .int .i64 e4]) (by simp [results, Try.results16, go_sem, k0, k1, k2, k3, k4, k5, k6, k7, k8]) rfl ⟨rfl, hgF⟩
set_option maxRecDepth 100000 in
set_option maxHeartbeats 2000000 in
theorem rof_raw5 (s : Sty) (of : Int) (w : World) (x0 y0 x1 e1 x2 x3 e2 x4 e3 x5 e4 : Int) (b1 b4 b5 : Bool) (h1 : e1 = 0) (h2 : e2 = 0) (h3 : e3 = 0) (h4 : e4 = 0)
    (CM0 : ∀ W, Calls Try.prog 28 #[.agg s.cells] W fun e w' => e = .returned (.bool true) ∧ W.grownBy w' none)
    (CE0 : ∀ W, Calls Try.prog 29 #[.agg s.cells] W fun e w' => e = .returned (.tuple #[.int .i64 x0, .int .i64 y0]) ∧ W.grownBy w' none)
    (CW0 : ∀ W, Calls Try.prog 30 #[.agg s.cells, .int .i64 of] W fun e w' => e = .returned (.tuple #[.int .i64 x1, .bool b1, .int .i64 e1]) ∧ W.grownBy w' none)
    (CL0 : ∀ W, Calls Try.prog 31 #[.agg s.cells, .int .i64 of] W fun e w' => e = .returned (.tuple #[.int .i64 x2, .int .i64 x3, .int .i64 e2]) ∧ W.grownBy w' none)
    (CR0 : ∀ W, Calls Try.prog 32 #[.agg #[.int .u8 (s.n 20), .int .i64 (s.n 21)], .int .i64 of] W fun e w' => e = .returned (.tuple #[.int .i64 x4, .bool b4, .int .i64 e3]) ∧ W.grownBy w' none)
    (CS0 : ∀ W, Calls Try.prog 32 #[.agg #[.int .u8 (s.n 16), .int .i64 (s.n 17)], .int .i64 of] W fun e w' => e = .returned (.tuple #[.int .i64 x5, .bool b5, .int .i64 e4]) ∧ W.grownBy w' none) 
    : Calls Try.prog 16 #[.agg s.cells, .int .i64 of] w fun e w' => e = .returned (.tuple #[.agg #[.bool b1, .int .i64 x1, .int .i64 x2, .int .i64 x3, .int .i64 x4, .int .i64 x5, .bool (!b4), .bool (!b5), .int .i64 x0], .int .i64 0]) ∧ w.grownBy w' none := by
  subst h1
  subst h2
  subst h3
  subst h4
  have CM := Lib.hid CM0
  clear CM0
  have CE := Lib.hid CE0
  clear CE0
  have CW := Lib.hid CW0
  clear CW0
  have CL := Lib.hid CL0
  clear CL0
  have CR := Lib.hid CR0
  clear CR0
  have CS := Lib.hid CS0
  clear CS0
  have y16 := s.c16
  have y17 := s.c17
  have y20 := s.c20
  have y21 := s.c21
  have rs := (Row.new w 39 s.cells).kept0 (World.grownBy_alloc _ (.cells #[.bool false, .int .i64 0, .int .i64 0, .int .i64 0, .int .i64 0, .int .i64 0, .bool false, .bool false, .int .i64 0] 23) none)
  have rr := Row.new (w.alloc (.cells s.cells 39)) 23 #[.bool false, .int .i64 0, .int .i64 0, .int .i64 0, .int .i64 0, .int .i64 0, .bool false, .bool false, .int .i64 0]
  have hg := grown_trans (World.grownBy_alloc w (.cells s.cells 39) none) (World.grownBy_alloc _ (.cells #[.bool false, .int .i64 0, .int .i64 0, .int .i64 0, .int .i64 0, .int .i64 0, .bool false, .bool false, .int .i64 0] 23) none)
  simp only [World.size_alloc] at rr
  go_enter Try.func16, Try.ntmps16
  go_upto_region 1 with fail
  have nsr : w.heap.size ≠ w.heap.size + 1 := by omega
  have lr : w.heap.size ≤ w.heap.size + 1 := by omega
  generalize (w.alloc (.cells s.cells 39)).alloc (.cells #[.bool false, .int .i64 0, .int .i64 0, .int .i64 0, .int .i64 0, .int .i64 0, .bool false, .bool false, .int .i64 0] 23) = W0 at *
  generalize w.heap.size + 1 = gr at *
  go_wp2_with (refine wpList_row bigS rs (Sty.size _) rfl rfl rfl ?_; simp only [Act.put, List.setIfInBounds_toArray, List.set_cons_zero, List.set_cons_succ])
  refine (CM.out _).mono ?_; rintro e V1 ⟨rfl, hx⟩
  replace rs := rs.kept0 hx
  replace rr := rr.kept0 hx
  replace hg := grown_trans hg hx
  clear hx
  go_upto_region 4 with fail
  have hlr := rr.lt
  have hls := rs.lt
  have hgs := hg.size
  have nsa : w.heap.size ≠ V1.heap.size := by omega
  have nra : gr ≠ V1.heap.size := by omega
  have la : w.heap.size ≤ V1.heap.size := hgs
  have ra := Row.new V1 23 #[.bool false, .int .i64 0, .int .i64 0, .int .i64 0, .int .i64 0, .int .i64 0, .bool false, .bool false, .int .i64 0]
  have hx := World.grownBy_alloc V1 (.cells #[.bool false, .int .i64 0, .int .i64 0, .int .i64 0, .int .i64 0, .int .i64 0, .bool false, .bool false, .int .i64 0] 23) none
  replace rs := rs.kept0 hx
  replace rr := rr.kept0 hx
  replace hg := grown_trans hg hx
  clear hlr hls hgs hx
  generalize V1.alloc (.cells #[.bool false, .int .i64 0, .int .i64 0, .int .i64 0, .int .i64 0, .int .i64 0, .bool false, .bool false, .int .i64 0] 23) = W1 at *
  generalize V1.heap.size = ga at *
  go_wp2_with (refine wpList_row bigS rs (Sty.size _) rfl rfl rfl ?_; simp only [Act.put, List.setIfInBounds_toArray, List.set_cons_zero, List.set_cons_succ])
  refine (CE.out _).mono ?_; rintro e V2 ⟨rfl, hx⟩
  replace rs := rs.kept0 hx
  replace rr := rr.kept0 hx
  replace ra := ra.kept0 hx
  replace hg := grown_trans hg hx
  clear hx
  have ca8 := ra.at 8
  have fa8 := ra.free 8
  simp only [List.getElem?_toArray, List.getElem?_cons_zero, List.getElem?_cons_succ] at ca8
  go_upto_region 5 with fail
  clear ca8 fa8
  have gy := grownBy_setCell V2 ga 8 (.int .i64 x0)
  replace rs := rs.keptNe gy nsa
  replace rr := rr.keptNe gy nra
  replace ra := (ra.set 8 (.int .i64 x0)).as #[.bool false, .int .i64 0, .int .i64 0, .int .i64 0, .int .i64 0, .int .i64 0, .bool false, .bool false, .int .i64 x0] rfl
  replace hg := grown_new hg gy (fun e h => by cases h; exact la)
  clear gy
  generalize V2.setCell ⟨ga, 8, none⟩ (.int .i64 x0) = W2 at *
  go_wp2_with (refine wpList_row bigS rs (Sty.size _) rfl rfl rfl ?_; simp only [Act.put, List.setIfInBounds_toArray, List.set_cons_zero, List.set_cons_succ])
  refine (CW.out _).mono ?_; rintro e V3 ⟨rfl, hx⟩
  replace rs := rs.kept0 hx
  replace rr := rr.kept0 hx
  replace ra := ra.kept0 hx
  replace hg := grown_trans hg hx
  clear hx
  have ca1 := ra.at 1
  have fa1 := ra.free 1
  have ca0 := ra.at 0
  have fa0 := ra.free 0
  simp only [List.getElem?_toArray, List.getElem?_cons_zero, List.getElem?_cons_succ] at ca1 ca0
  go_upto_region 7 with fail
  clear ca1 fa1 ca0 fa0
  have gy := grownBy_setCell V3 ga 1 (.int .i64 x1)
  replace rs := rs.keptNe gy nsa
  replace rr := rr.keptNe gy nra
  replace ra := (ra.set 1 (.int .i64 x1)).as #[.bool false, .int .i64 x1, .int .i64 0, .int .i64 0, .int .i64 0, .int .i64 0, .bool false, .bool false, .int .i64 x0] rfl
  replace hg := grown_new hg gy (fun e h => by cases h; exact la)
  clear gy
  have gy := grownBy_setCell (V3.setCell ⟨ga, 1, none⟩ (.int .i64 x1)) ga 0 (.bool b1)
  replace rs := rs.keptNe gy nsa
  replace rr := rr.keptNe gy nra
  replace ra := (ra.set 0 (.bool b1)).as #[.bool b1, .int .i64 x1, .int .i64 0, .int .i64 0, .int .i64 0, .int .i64 0, .bool false, .bool false, .int .i64 x0] rfl
  replace hg := grown_new hg gy (fun e h => by cases h; exact la)
  clear gy
  generalize (V3.setCell ⟨ga, 1, none⟩ (.int .i64 x1)).setCell ⟨ga, 0, none⟩ (.bool b1) = W3 at *
  go_wp2_with (refine wpList_row bigS rs (Sty.size _) rfl rfl rfl ?_; simp only [Act.put, List.setIfInBounds_toArray, List.set_cons_zero, List.set_cons_succ])
  refine (CL.out _).mono ?_; rintro e V4 ⟨rfl, hx⟩
  replace rs := rs.kept0 hx
  replace rr := rr.kept0 hx
  replace ra := ra.kept0 hx
  replace hg := grown_trans hg hx
  clear hx
  have ca2 := ra.at 2
  have fa2 := ra.free 2
  have ca3 := ra.at 3
  have fa3 := ra.free 3
  simp only [List.getElem?_toArray, List.getElem?_cons_zero, List.getElem?_cons_succ] at ca2 ca3
  go_upto_region 9 with fail
  clear ca2 fa2 ca3 fa3
  have gy := grownBy_setCell V4 ga 2 (.int .i64 x2)
  replace rs := rs.keptNe gy nsa
  replace rr := rr.keptNe gy nra
  replace ra := (ra.set 2 (.int .i64 x2)).as #[.bool b1, .int .i64 x1, .int .i64 x2, .int .i64 0, .int .i64 0, .int .i64 0, .bool false, .bool false, .int .i64 x0] rfl
  replace hg := grown_new hg gy (fun e h => by cases h; exact la)
  clear gy
  have gy := grownBy_setCell (V4.setCell ⟨ga, 2, none⟩ (.int .i64 x2)) ga 3 (.int .i64 x3)
  replace rs := rs.keptNe gy nsa
  replace rr := rr.keptNe gy nra
  replace ra := (ra.set 3 (.int .i64 x3)).as #[.bool b1, .int .i64 x1, .int .i64 x2, .int .i64 x3, .int .i64 0, .int .i64 0, .bool false, .bool false, .int .i64 x0] rfl
  replace hg := grown_new hg gy (fun e h => by cases h; exact la)
  clear gy
  generalize (V4.setCell ⟨ga, 2, none⟩ (.int .i64 x2)).setCell ⟨ga, 3, none⟩ (.int .i64 x3) = W4 at *
  have z0 := (rs.at 20).trans y20
  have z1 := (rs.at 21).trans y21
  go_wp2_with fail
  refine (CR.out _).mono ?_; rintro e V5 ⟨rfl, hx⟩
  clear z0 z1
  replace rs := rs.kept0 hx
  replace rr := rr.kept0 hx
  replace ra := ra.kept0 hx
  replace hg := grown_trans hg hx
  clear hx
  have ca4 := ra.at 4
  have fa4 := ra.free 4
  have ca6 := ra.at 6
  have fa6 := ra.free 6
  simp only [List.getElem?_toArray, List.getElem?_cons_zero, List.getElem?_cons_succ] at ca4 ca6
  go_upto_region 12 with fail
  clear ca4 fa4 ca6 fa6
  have gy := grownBy_setCell V5 ga 4 (.int .i64 x4)
  replace rs := rs.keptNe gy nsa
  replace rr := rr.keptNe gy nra
  replace ra := (ra.set 4 (.int .i64 x4)).as #[.bool b1, .int .i64 x1, .int .i64 x2, .int .i64 x3, .int .i64 x4, .int .i64 0, .bool false, .bool false, .int .i64 x0] rfl
  replace hg := grown_new hg gy (fun e h => by cases h; exact la)
  clear gy
  have gy := grownBy_setCell (V5.setCell ⟨ga, 4, none⟩ (.int .i64 x4)) ga 6 (.bool (!b4))
  replace rs := rs.keptNe gy nsa
  replace rr := rr.keptNe gy nra
  replace ra := (ra.set 6 (.bool (!b4))).as #[.bool b1, .int .i64 x1, .int .i64 x2, .int .i64 x3, .int .i64 x4, .int .i64 0, .bool (!b4), .bool false, .int .i64 x0] rfl
  replace hg := grown_new hg gy (fun e h => by cases h; exact la)
  clear gy
  generalize (V5.setCell ⟨ga, 4, none⟩ (.int .i64 x4)).setCell ⟨ga, 6, none⟩ (.bool (!b4)) = W5 at *
  have z0 := (rs.at 16).trans y16
  have z1 := (rs.at 17).trans y17
  go_wp2_with fail
  refine (CS.out _).mono ?_; rintro e V6 ⟨rfl, hx⟩
  clear z0 z1
  replace rs := rs.kept0 hx
  replace rr := rr.kept0 hx
  replace ra := ra.kept0 hx
  replace hg := grown_trans hg hx
  clear hx
  have ca5 := ra.at 5
  have fa5 := ra.free 5
  have ca7 := ra.at 7
  have fa7 := ra.free 7
  simp only [List.getElem?_toArray, List.getElem?_cons_zero, List.getElem?_cons_succ] at ca5 ca7
  go_upto_region 15 with fail
  clear ca5 fa5 ca7 fa7
  have gy := grownBy_setCell V6 ga 5 (.int .i64 x5)
  replace rs := rs.keptNe gy nsa
  replace rr := rr.keptNe gy nra
  replace ra := (ra.set 5 (.int .i64 x5)).as #[.bool b1, .int .i64 x1, .int .i64 x2, .int .i64 x3, .int .i64 x4, .int .i64 x5, .bool (!b4), .bool false, .int .i64 x0] rfl
  replace hg := grown_new hg gy (fun e h => by cases h; exact la)
  clear gy
  have gy := grownBy_setCell (V6.setCell ⟨ga, 5, none⟩ (.int .i64 x5)) ga 7 (.bool (!b5))
  replace rs := rs.keptNe gy nsa
  replace rr := rr.keptNe gy nra
  replace ra := (ra.set 7 (.bool (!b5))).as #[.bool b1, .int .i64 x1, .int .i64 x2, .int .i64 x3, .int .i64 x4, .int .i64 x5, .bool (!b4), .bool (!b5), .int .i64 x0] rfl
  replace hg := grown_new hg gy (fun e h => by cases h; exact la)
  clear gy
  generalize (V6.setCell ⟨ga, 5, none⟩ (.int .i64 x5)).setCell ⟨ga, 7, none⟩ (.bool (!b5)) = W6 at *
  go_wp2_with (first | (refine wpList_row bigA ra rfl rfl rfl rfl ?_; simp only [Act.put, List.setIfInBounds_toArray, List.set_cons_zero, List.set_cons_succ]) | (refine wpList_put bigA rr rfl rfl (nine_one _ _ _ _ _ _ _ _ _) rfl rfl rfl rfl ?_; simp only [Act.put, List.setIfInBounds_toArray, List.set_cons_zero, List.set_cons_succ]))
  have hr := rr.store #[.bool b1, .int .i64 x1, .int .i64 x2, .int .i64 x3, .int .i64 x4, .int .i64 x5, .bool (!b4), .bool (!b5), .int .i64 x0]
  have hgF := grown_new hg (grownBy_setRow _ gr #[.bool b1, .int .i64 x1, .int .i64 x2, .int .i64 x3, .int .i64 x4, .int .i64 x5, .bool (!b4), .bool (!b5), .int .i64 x0]) (fun e h => by cases h; exact lr)
  have k0 := hr.at 0
  have k1 := hr.at 1
  have k2 := hr.at 2
  have k3 := hr.at 3
  have k4 := hr.at 4
  have k5 := hr.at 5
  have k6 := hr.at 6
  have k7 := hr.at 7
  have k8 := hr.at 8
  simp only [List.getElem?_toArray, List.getElem?_cons_zero, List.getElem?_cons_succ] at k0 k1 k2 k3 k4 k5 k6 k7 k8
  exact bodyPost_ret (v := .tuple #[.agg #[.bool b1, .int .i64 x1, .int .i64 x2, .int .i64 x3, .int .i64 x4, .int .i64 x5, .bool (!b4), .bool (!b5), .int .i64 x0], .int .i64 0]) (by simp [results, Try.results16, go_sem, k0, k1, k2, k3, k4, k5, k6, k7, k8]) rfl ⟨rfl, hgF⟩
end Go.Proofs.Ytjaeoaebkkmaaaa
