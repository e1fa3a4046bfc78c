/- The law's own examples: awake, walked. -/
import Derived.Test.YtjnbfgogmhfbiaaWb
namespace Go.Proofs.Ytjnbfgogmhfbiaa
open Go Go.RowKit
/-- A document in a box. -/
structure DB (w : World) (p : Nat) (A : Option Addr) (n k : Nat) (L : List (List Value)) (x : Int) : Prop where
  two : Two w p 24 (.slice A n k) (.int .i64 x)
  nodes : NodesAt w w.heap.size A n L
theorem DB.grow {w w' : World} {p : Nat} {A : Option Addr} {n k : Nat} {L : List (List Value)} {x : Int} (h : DB w p A n k L x) (hg : w.grownBy w' none) : DB w' p A n k L x := ⟨h.two.kept hg (by simp), h.nodes.grow hg⟩
theorem DB.new {w : World} {A : Option Addr} {n k : Nat} {L : List (List Value)} {x : Int} (h : NodesAt w w.heap.size A n L) : DB (w.alloc (.cells #[.slice A n k, .int .i64 x] 24)) w.heap.size A n k L x := ⟨Two.new _ _ _ _, h.grow (World.grownBy_alloc _ _ _)⟩
theorem reads_row {w : World} {g : Nat} {T : TypeId} {cs : Array Value} (h : Row w g T cs) {xs : List Value} (hx : cs.toList = xs) : Reads w w.heap.size (some ⟨g, 0, none⟩) xs := fun _ =>
  ⟨_, rfl, h.lt, fun j u hu => by rw [Addr.add_lit, Nat.zero_add, h.at, ← Array.getElem?_toList, hx]; exact hu⟩
set_option maxRecDepth 100000 in
set_option maxHeartbeats 8000000 in
theorem awake_any (w : World) : Calls Try.prog 8 #[] w fun e w' => e = .returned (.bool true) ∧ w.grownBy w' none := by
  go_enter Try.func8, Try.ntmps8
  go_wp2_with fail
  refine (four_any w).mono ?_; rintro e v0 ⟨rfl, own, hg⟩
  have hN0 : NodesAt v0 v0.heap.size (some ⟨w.heap.size + 1, 0, none⟩) 4 fourL := ⟨four_ok, rfl, own.reads, by omega⟩
  clear own
  have ga := World.grownBy_alloc v0 (.cells #[.slice (some ⟨w.heap.size + 1, 0, none⟩) 4 4, .int .i64 5] 24) none
  have Dd := Lib.hid (DB.new (k := 4) (x := 5) hN0)
  replace hg := grown_trans hg ga
  clear ga hN0
  have c0 := Dd.out.two.c0
  have c1 := Dd.out.two.c1
  go_wp2_with (first
    | (refine wpList_build (o := ⟨some 25, _, _, _, _, _⟩) rfl (T := 34) rfl ch1.cells (by kernel_rfl) ?_; simp only [Act.put, List.setIfInBounds_toArray, List.set_cons_zero, List.set_cons_succ]))
  generalize v0.alloc (.cells #[.slice (some ⟨w.heap.size + 1, 0, none⟩) 4 4, .int .i64 5] 24) = W1 at *
  refine (apply_ok Dd.out.nodes four_len ch1_ok (by decide) ap1 (by decide)).mono ?_; rintro r v1 ⟨A1, k1, rfl, N1, g1⟩
  clear c0 c1
  have ga := World.grownBy_alloc v1 (.cells #[.slice A1 doc1.length k1, .int .i64 6] 24) none
  replace Dd := Lib.hid ((Dd.out.grow g1).grow ga)
  have Da := Lib.hid (DB.new (k := k1) (x := 6) N1)
  clear N1
  replace hg := grown_trans hg (grown_trans g1 ga)
  clear ga g1
  have c0 := Dd.out.two.c0
  have c1 := Dd.out.two.c1
  go_wp2_with (first
    | (refine wpList_build (o := ⟨some 32, _, _, _, _, _⟩) rfl (T := 34) rfl ch2.cells (by kernel_rfl) ?_; simp only [Act.put, List.setIfInBounds_toArray, List.set_cons_zero, List.set_cons_succ])
    | (refine wpList_build (o := ⟨some 31, _, _, _, _, _⟩) rfl (T := 32) rfl txtNode.toArray (by kernel_rfl) ?_; simp only [Act.put, List.setIfInBounds_toArray, List.set_cons_zero, List.set_cons_succ]))
  generalize v1.alloc (.cells #[.slice A1 doc1.length k1, .int .i64 6] 24) = W2 at *
  refine (apply_ok Dd.out.nodes four_len ch2_ok (by decide) ap2 (by decide)).mono ?_; rintro r v2 ⟨A2, k2, rfl, N2, g2⟩
  clear c0 c1
  have ga := World.grownBy_alloc v2 (.cells #[.slice A2 doc2.length k2, .int .i64 6] 24) none
  replace Dd := Lib.hid ((Dd.out.grow g2).grow ga)
  replace Da := Lib.hid ((Da.out.grow g2).grow ga)
  have Db := Lib.hid (DB.new (k := k2) (x := 6) N2)
  clear N2
  replace hg := grown_trans hg (grown_trans g2 ga)
  clear ga g2
  have c0 := Dd.out.two.c0
  have c1 := Dd.out.two.c1
  go_wp2_with (first
    | (refine wpList_build (o := ⟨some 38, _, _, _, _, _⟩) rfl (T := 34) rfl ch3.cells (by kernel_rfl) ?_; simp only [Act.put, List.setIfInBounds_toArray, List.set_cons_zero, List.set_cons_succ]))
  generalize v2.alloc (.cells #[.slice A2 doc2.length k2, .int .i64 6] 24) = W3 at *
  refine (apply_err Dd.out.nodes four_len ch3_ok (by decide) ap3).mono ?_; rintro r v3 ⟨rfl, g3⟩
  clear c0 c1
  have ga := World.grownBy_alloc v3 (.cells #[.slice none 0 0, .int .i64 0] 24) none
  replace Dd := Lib.hid ((Dd.out.grow g3).grow ga)
  replace Da := Lib.hid ((Da.out.grow g3).grow ga)
  replace Db := Lib.hid ((Db.out.grow g3).grow ga)
  replace hg := grown_trans hg (grown_trans g3 ga)
  clear ga g3
  have c0 := Dd.out.two.c0
  have c1 := Dd.out.two.c1
  go_wp2_with (first
    | (refine wpList_build (o := ⟨some 44, _, _, _, _, _⟩) rfl (T := 34) rfl ch4.cells (by kernel_rfl) ?_; simp only [Act.put, List.setIfInBounds_toArray, List.set_cons_zero, List.set_cons_succ]))
  generalize v3.alloc (.cells #[.slice none 0 0, .int .i64 0] 24) = W4 at *
  refine (apply_ok Dd.out.nodes four_len ch4_ok (by decide) ap4 (by decide)).mono ?_; rintro r v4 ⟨A4, k4, rfl, N4, g4⟩
  clear c0 c1
  have ga := World.grownBy_alloc v4 (.cells #[.slice A4 doc4.length k4, .int .i64 5] 24) none
  replace Dd := Lib.hid ((Dd.out.grow g4).grow ga)
  replace Da := Lib.hid ((Da.out.grow g4).grow ga)
  replace Db := Lib.hid ((Db.out.grow g4).grow ga)
  have Dc := Lib.hid (DB.new (k := k4) (x := 5) N4)
  clear N4
  replace hg := grown_trans hg (grown_trans g4 ga)
  clear ga g4
  have c0 := Dd.out.two.c0
  have c1 := Dd.out.two.c1
  go_wp2_with (first
    | (refine wpList_build (o := ⟨some 50, _, _, _, _, _⟩) rfl (T := 34) rfl ch5.cells (by kernel_rfl) ?_; simp only [Act.put, List.setIfInBounds_toArray, List.set_cons_zero, List.set_cons_succ]))
  generalize v4.alloc (.cells #[.slice A4 doc4.length k4, .int .i64 5] 24) = W5 at *
  refine (apply_err Dd.out.nodes four_len ch5_ok (by decide) ap5).mono ?_; rintro r v5 ⟨rfl, g5⟩
  clear c0 c1
  have ga := World.grownBy_alloc v5 (.cells #[.slice none 0 0, .int .i64 0] 24) none
  replace Dd := Lib.hid ((Dd.out.grow g5).grow ga)
  replace Da := Lib.hid ((Da.out.grow g5).grow ga)
  replace Db := Lib.hid ((Db.out.grow g5).grow ga)
  replace Dc := Lib.hid ((Dc.out.grow g5).grow ga)
  replace hg := grown_trans hg (grown_trans g5 ga)
  clear ga g5
  have c0 := Dd.out.two.c0
  have c1 := Dd.out.two.c1
  go_wp2_with (first
    | (refine wpList_build (o := ⟨some 56, _, _, _, _, _⟩) rfl (T := 34) rfl ch6.cells (by kernel_rfl) ?_; simp only [Act.put, List.setIfInBounds_toArray, List.set_cons_zero, List.set_cons_succ]))
  generalize v5.alloc (.cells #[.slice none 0 0, .int .i64 0] 24) = W6 at *
  refine (apply_ok Dd.out.nodes four_len ch6_ok (by decide) ap6 (by decide)).mono ?_; rintro r v6 ⟨A6, k6, rfl, N6, g6⟩
  clear c0 c1
  have ga := World.grownBy_alloc v6 (.cells #[.slice A6 doc6.length k6, .int .i64 5] 24) none
  replace Dd := Lib.hid ((Dd.out.grow g6).grow ga)
  replace Da := Lib.hid ((Da.out.grow g6).grow ga)
  replace Db := Lib.hid ((Db.out.grow g6).grow ga)
  replace Dc := Lib.hid ((Dc.out.grow g6).grow ga)
  have Dm := Lib.hid (DB.new (k := k6) (x := 5) N6)
  clear N6
  replace hg := grown_trans hg (grown_trans g6 ga)
  clear ga g6
  have c0 := Dd.out.two.c0
  have c1 := Dd.out.two.c1
  go_wp2_with (first
    | (refine wpList_build (o := ⟨some 62, _, _, _, _, _⟩) rfl (T := 34) rfl ch7.cells (by kernel_rfl) ?_; simp only [Act.put, List.setIfInBounds_toArray, List.set_cons_zero, List.set_cons_succ]))
  generalize v6.alloc (.cells #[.slice A6 doc6.length k6, .int .i64 5] 24) = W7 at *
  refine (apply_err Dd.out.nodes four_len ch7_ok (by decide) ap7).mono ?_; rintro r v7 ⟨rfl, g7⟩
  clear c0 c1
  have ga := World.grownBy_alloc v7 (.cells #[.slice none 0 0, .int .i64 0] 24) none
  replace Dd := Lib.hid ((Dd.out.grow g7).grow ga)
  replace Da := Lib.hid ((Da.out.grow g7).grow ga)
  replace Db := Lib.hid ((Db.out.grow g7).grow ga)
  replace Dc := Lib.hid ((Dc.out.grow g7).grow ga)
  replace Dm := Lib.hid ((Dm.out.grow g7).grow ga)
  replace hg := grown_trans hg (grown_trans g7 ga)
  clear ga g7
  have c0 := Dd.out.two.c0
  have c1 := Dd.out.two.c1
  go_wp2_with (first
    | (refine wpList_build (o := ⟨some 68, _, _, _, _, _⟩) rfl (T := 34) rfl ch8.cells (by kernel_rfl) ?_; simp only [Act.put, List.setIfInBounds_toArray, List.set_cons_zero, List.set_cons_succ]))
  generalize v7.alloc (.cells #[.slice none 0 0, .int .i64 0] 24) = W8 at *
  refine (apply_ok Dd.out.nodes four_len ch8_ok (by decide) ap8 (by decide)).mono ?_; rintro r v8 ⟨A8, k8, rfl, N8, g8⟩
  clear c0 c1
  have ga := World.grownBy_alloc v8 (.cells #[.slice A8 doc8.length k8, .int .i64 5] 24) none
  replace Dd := Lib.hid ((Dd.out.grow g8).grow ga)
  replace Da := Lib.hid ((Da.out.grow g8).grow ga)
  replace Db := Lib.hid ((Db.out.grow g8).grow ga)
  replace Dc := Lib.hid ((Dc.out.grow g8).grow ga)
  replace Dm := Lib.hid ((Dm.out.grow g8).grow ga)
  have Dn := Lib.hid (DB.new (k := k8) (x := 5) N8)
  clear N8
  replace hg := grown_trans hg (grown_trans g8 ga)
  clear ga g8
  have c0 := Dd.out.two.c0
  have c1 := Dd.out.two.c1
  go_wp2_with (first
    | (refine wpList_build (o := ⟨some 74, _, _, _, _, _⟩) rfl (T := 34) rfl ch9.cells (by kernel_rfl) ?_; simp only [Act.put, List.setIfInBounds_toArray, List.set_cons_zero, List.set_cons_succ]))
  generalize v8.alloc (.cells #[.slice A8 doc8.length k8, .int .i64 5] 24) = W9 at *
  refine (apply_err Dd.out.nodes four_len ch9_ok (by decide) ap9).mono ?_; rintro r v9 ⟨rfl, g9⟩
  clear c0 c1
  have ga := World.grownBy_alloc v9 (.cells #[.slice none 0 0, .int .i64 0] 24) none
  replace Dd := Lib.hid ((Dd.out.grow g9).grow ga)
  replace Da := Lib.hid ((Da.out.grow g9).grow ga)
  replace Db := Lib.hid ((Db.out.grow g9).grow ga)
  replace Dc := Lib.hid ((Dc.out.grow g9).grow ga)
  replace Dm := Lib.hid ((Dm.out.grow g9).grow ga)
  replace Dn := Lib.hid ((Dn.out.grow g9).grow ga)
  replace hg := grown_trans hg (grown_trans g9 ga)
  clear ga g9
  have c0 := Dd.out.two.c0
  have c1 := Dd.out.two.c1
  go_wp2_with (first
    | (refine wpList_build (o := ⟨some 82, _, _, _, _, _⟩) rfl (T := 34) rfl ch10.cells (by kernel_rfl) ?_; simp only [Act.put, List.setIfInBounds_toArray, List.set_cons_zero, List.set_cons_succ])
    | (refine wpList_build (o := ⟨some 80, _, _, _, _, _⟩) rfl (T := 30) rfl (styN badNode).toArray (by kernel_rfl) ?_; simp only [Act.put, List.setIfInBounds_toArray, List.set_cons_zero, List.set_cons_succ])
    | (refine wpList_build (o := ⟨some 81, _, _, _, _, _⟩) rfl (T := 32) rfl badNode.toArray (by kernel_rfl) ?_; simp only [Act.put, List.setIfInBounds_toArray, List.set_cons_zero, List.set_cons_succ]))
  generalize v9.alloc (.cells #[.slice none 0 0, .int .i64 0] 24) = W10 at *
  refine (apply_err Dd.out.nodes four_len ch10_ok (by decide) ap10).mono ?_; rintro r v10 ⟨rfl, g10⟩
  clear c0 c1
  have ga := World.grownBy_alloc v10 (.cells #[.slice none 0 0, .int .i64 0] 24) none
  replace Dd := Lib.hid ((Dd.out.grow g10).grow ga)
  replace Da := Lib.hid ((Da.out.grow g10).grow ga)
  replace Db := Lib.hid ((Db.out.grow g10).grow ga)
  replace Dc := Lib.hid ((Dc.out.grow g10).grow ga)
  replace Dm := Lib.hid ((Dm.out.grow g10).grow ga)
  replace Dn := Lib.hid ((Dn.out.grow g10).grow ga)
  replace hg := grown_trans hg (grown_trans g10 ga)
  clear ga g10
  have c0 := Da.out.two.c0
  have c1 := Da.out.two.c1
  go_upto_region 14 with fail
  generalize v10.alloc (.cells #[.slice none 0 0, .int .i64 0] 24) = W11 at *
  go_wp2_with fail
  have ga := World.grownBy_alloc W11 (.cells #[.int .i64 1, .int .i64 0, .int .i64 2, .int .i64 1, .int .i64 3, .int .i64 2, .int .i64 5, .int .i64 1, .int .i64 4, .int .i64 1] 3) none
  have hS : Reads (W11.alloc (.cells #[.int .i64 1, .int .i64 0, .int .i64 2, .int .i64 1, .int .i64 3, .int .i64 2, .int .i64 5, .int .i64 1, .int .i64 4, .int .i64 1] 3)) (W11.alloc (.cells #[.int .i64 1, .int .i64 0, .int .i64 2, .int .i64 1, .int .i64 3, .int .i64 2, .int .i64 5, .int .i64 1, .int .i64 4, .int .i64 1] 3)).heap.size (some ⟨W11.heap.size, 0, none⟩) (([1, 0, 2, 1, 3, 2, 5, 1, 4, 1] : List Int).map fun v => .int .i64 v) := reads_row (Row.new W11 3 #[.int .i64 1, .int .i64 0, .int .i64 2, .int .i64 1, .int .i64 3, .int .i64 2, .int .i64 5, .int .i64 1, .int .i64 4, .int .i64 1]) rfl
  have NN := (Da.out.grow ga).nodes
  generalize W11.alloc (.cells #[.int .i64 1, .int .i64 0, .int .i64 2, .int .i64 1, .int .i64 3, .int .i64 2, .int .i64 5, .int .i64 1, .int .i64 4, .int .i64 1] 3) = V1 at *
  refine (told_yes _ _ _ doc1 _ _ _ _ [1, 0, 2, 1, 3, 2, 5, 1, 4, 1] V1 NN hS rfl told1).mono ?_; rintro r U1 ⟨rfl, g1⟩
  clear c0 c1 NN hS
  replace Dd := Lib.hid ((Dd.out.grow ga).grow g1)
  replace Db := Lib.hid ((Db.out.grow ga).grow g1)
  replace Dc := Lib.hid ((Dc.out.grow ga).grow g1)
  replace Dm := Lib.hid ((Dm.out.grow ga).grow g1)
  replace Dn := Lib.hid ((Dn.out.grow ga).grow g1)
  replace hg := grown_trans hg (grown_trans ga g1)
  clear ga g1 Da
  have c0 := Db.out.two.c0
  have c1 := Db.out.two.c1
  go_wp2_with fail
  have ga := World.grownBy_alloc U1 (.cells #[.int .i64 1, .int .i64 0, .int .i64 2, .int .i64 1, .int .i64 3, .int .i64 2, .int .i64 4, .int .i64 1, .int .i64 5, .int .i64 2] 3) none
  have hS : Reads (U1.alloc (.cells #[.int .i64 1, .int .i64 0, .int .i64 2, .int .i64 1, .int .i64 3, .int .i64 2, .int .i64 4, .int .i64 1, .int .i64 5, .int .i64 2] 3)) (U1.alloc (.cells #[.int .i64 1, .int .i64 0, .int .i64 2, .int .i64 1, .int .i64 3, .int .i64 2, .int .i64 4, .int .i64 1, .int .i64 5, .int .i64 2] 3)).heap.size (some ⟨U1.heap.size, 0, none⟩) (([1, 0, 2, 1, 3, 2, 4, 1, 5, 2] : List Int).map fun v => .int .i64 v) := reads_row (Row.new U1 3 #[.int .i64 1, .int .i64 0, .int .i64 2, .int .i64 1, .int .i64 3, .int .i64 2, .int .i64 4, .int .i64 1, .int .i64 5, .int .i64 2]) rfl
  have NN := (Db.out.grow ga).nodes
  generalize U1.alloc (.cells #[.int .i64 1, .int .i64 0, .int .i64 2, .int .i64 1, .int .i64 3, .int .i64 2, .int .i64 4, .int .i64 1, .int .i64 5, .int .i64 2] 3) = V2 at *
  refine (told_yes _ _ _ doc2 _ _ _ _ [1, 0, 2, 1, 3, 2, 4, 1, 5, 2] V2 NN hS rfl told2).mono ?_; rintro r U2 ⟨rfl, g2⟩
  clear c0 c1 NN hS
  replace Dd := Lib.hid ((Dd.out.grow ga).grow g2)
  replace Dc := Lib.hid ((Dc.out.grow ga).grow g2)
  replace Dm := Lib.hid ((Dm.out.grow ga).grow g2)
  replace Dn := Lib.hid ((Dn.out.grow ga).grow g2)
  replace hg := grown_trans hg (grown_trans ga g2)
  clear ga g2 Db
  have c0 := Dc.out.two.c0
  have c1 := Dc.out.two.c1
  go_wp2_with fail
  have ga := World.grownBy_alloc U2 (.cells #[.int .i64 1, .int .i64 0, .int .i64 4, .int .i64 1] 3) none
  have hS : Reads (U2.alloc (.cells #[.int .i64 1, .int .i64 0, .int .i64 4, .int .i64 1] 3)) (U2.alloc (.cells #[.int .i64 1, .int .i64 0, .int .i64 4, .int .i64 1] 3)).heap.size (some ⟨U2.heap.size, 0, none⟩) (([1, 0, 4, 1] : List Int).map fun v => .int .i64 v) := reads_row (Row.new U2 3 #[.int .i64 1, .int .i64 0, .int .i64 4, .int .i64 1]) rfl
  have NN := (Dc.out.grow ga).nodes
  generalize U2.alloc (.cells #[.int .i64 1, .int .i64 0, .int .i64 4, .int .i64 1] 3) = V4 at *
  refine (told_yes _ _ _ doc4 _ _ _ _ [1, 0, 4, 1] V4 NN hS rfl told4).mono ?_; rintro r U4 ⟨rfl, g4⟩
  clear c0 c1 NN hS
  replace Dd := Lib.hid ((Dd.out.grow ga).grow g4)
  replace Dm := Lib.hid ((Dm.out.grow ga).grow g4)
  replace Dn := Lib.hid ((Dn.out.grow ga).grow g4)
  replace hg := grown_trans hg (grown_trans ga g4)
  clear ga g4 Dc
  have c0 := Dm.out.two.c0
  have c1 := Dm.out.two.c1
  go_wp2_with fail
  have ga := World.grownBy_alloc U4 (.cells #[.int .i64 1, .int .i64 0, .int .i64 4, .int .i64 1, .int .i64 2, .int .i64 2, .int .i64 3, .int .i64 3] 3) none
  have hS : Reads (U4.alloc (.cells #[.int .i64 1, .int .i64 0, .int .i64 4, .int .i64 1, .int .i64 2, .int .i64 2, .int .i64 3, .int .i64 3] 3)) (U4.alloc (.cells #[.int .i64 1, .int .i64 0, .int .i64 4, .int .i64 1, .int .i64 2, .int .i64 2, .int .i64 3, .int .i64 3] 3)).heap.size (some ⟨U4.heap.size, 0, none⟩) (([1, 0, 4, 1, 2, 2, 3, 3] : List Int).map fun v => .int .i64 v) := reads_row (Row.new U4 3 #[.int .i64 1, .int .i64 0, .int .i64 4, .int .i64 1, .int .i64 2, .int .i64 2, .int .i64 3, .int .i64 3]) rfl
  have NN := (Dm.out.grow ga).nodes
  generalize U4.alloc (.cells #[.int .i64 1, .int .i64 0, .int .i64 4, .int .i64 1, .int .i64 2, .int .i64 2, .int .i64 3, .int .i64 3] 3) = V6 at *
  refine (told_yes _ _ _ doc6 _ _ _ _ [1, 0, 4, 1, 2, 2, 3, 3] V6 NN hS rfl told6).mono ?_; rintro r U6 ⟨rfl, g6⟩
  clear c0 c1 NN hS
  replace Dd := Lib.hid ((Dd.out.grow ga).grow g6)
  replace Dn := Lib.hid ((Dn.out.grow ga).grow g6)
  replace hg := grown_trans hg (grown_trans ga g6)
  clear ga g6 Dm
  have c0 := Dn.out.two.c0
  have c1 := Dn.out.two.c1
  go_wp2_with fail
  have ga := World.grownBy_alloc U6 (.cells #[.int .i64 1, .int .i64 0, .int .i64 4, .int .i64 1, .int .i64 2, .int .i64 1, .int .i64 3, .int .i64 2] 3) none
  have hS : Reads (U6.alloc (.cells #[.int .i64 1, .int .i64 0, .int .i64 4, .int .i64 1, .int .i64 2, .int .i64 1, .int .i64 3, .int .i64 2] 3)) (U6.alloc (.cells #[.int .i64 1, .int .i64 0, .int .i64 4, .int .i64 1, .int .i64 2, .int .i64 1, .int .i64 3, .int .i64 2] 3)).heap.size (some ⟨U6.heap.size, 0, none⟩) (([1, 0, 4, 1, 2, 1, 3, 2] : List Int).map fun v => .int .i64 v) := reads_row (Row.new U6 3 #[.int .i64 1, .int .i64 0, .int .i64 4, .int .i64 1, .int .i64 2, .int .i64 1, .int .i64 3, .int .i64 2]) rfl
  have NN := (Dn.out.grow ga).nodes
  generalize U6.alloc (.cells #[.int .i64 1, .int .i64 0, .int .i64 4, .int .i64 1, .int .i64 2, .int .i64 1, .int .i64 3, .int .i64 2] 3) = V8 at *
  refine (told_yes _ _ _ doc8 _ _ _ _ [1, 0, 4, 1, 2, 1, 3, 2] V8 NN hS rfl told8).mono ?_; rintro r U8 ⟨rfl, g8⟩
  clear c0 c1 NN hS
  replace Dd := Lib.hid ((Dd.out.grow ga).grow g8)
  replace hg := grown_trans hg (grown_trans ga g8)
  clear ga g8 Dn
  have c0 := Dd.out.two.c0
  have c1 := Dd.out.two.c1
  go_wp2_with fail
  refine (may_ok Dd.out.nodes four_len four_may).mono ?_; rintro r X1 ⟨rfl, g1⟩
  replace hg := grown_trans hg g1
  clear c0 c1 Dd g1
  go_wp2_with fail
  refine (may_not (A := none) (n := 0) (k := 0) (x := 0) (L := []) (w := X1) ⟨by simp, rfl, Reads.nil_, by omega⟩ (fun i hi => absurd hi (by omega)) none_may).mono ?_; rintro r X2 ⟨rfl, g2⟩
  go_wp2_with fail
  go_ret
  exact ⟨rfl, grown_trans hg g2⟩
end Go.Proofs.Ytjnbfgogmhfbiaa
