/- Texts of the claim MutateOthers, joined (part 2). -/
import Derived.Test.YtjnbfgogmhfbiaaZMutateOthers1
import Derived.Test.YtjnbfgogmhfbiaaNs
/- The law's own examples: awake, walked. -/
namespace Go.Proofs.Ytjnbfgogmhfbiaa
open Go Go.RowKit
/-- A document in a box. -/
structure DB (w : World) (p : Nat) (A : Option Addr) (n k : Nat) (L : List (List Value)) (x : Int) : Prop where
  two : Two w p 24 (.slice A n k) (.int .i64 x)
  nodes : NodesAt w w.heap.size A n L
theorem DB.grow {w w' : World} {p : Nat} {A : Option Addr} {n k : Nat} {L : List (List Value)} {x : Int} (h : DB w p A n k L x) (hg : w.grownBy w' none) : DB w' p A n k L x := ⟨h.two.kept hg (by simp), h.nodes.grow hg⟩
theorem DB.new {w : World} {A : Option Addr} {n k : Nat} {L : List (List Value)} {x : Int} (h : NodesAt w w.heap.size A n L) : DB (w.alloc (.cells #[.slice A n k, .int .i64 x] 24)) w.heap.size A n k L x := ⟨Two.new _ _ _ _, h.grow (World.grownBy_alloc _ _ _)⟩
theorem reads_row {w : World} {g : Nat} {T : TypeId} {cs : Array Value} (h : Row w g T cs) {xs : List Value} (hx : cs.toList = xs) : Reads w w.heap.size (some ⟨g, 0, none⟩) xs := fun _ =>
  ⟨_, rfl, h.lt, fun j u hu => by rw [Addr.add_lit, Nat.zero_add, h.at, ← Array.getElem?_toList, hx]; exact hu⟩
set_option maxRecDepth 100000 in
set_option maxHeartbeats 8000000 in
theorem awake_any (w : World) : Calls Try.prog 8 #[] w fun e w' => e = .returned (.bool true) ∧ w.grownBy w' none := by
  go_enter Try.func8, Try.ntmps8
  go_wp2_with fail
  refine (four_any w).mono ?_; rintro e v0 ⟨rfl, own, hg⟩
  have hN0 : NodesAt v0 v0.heap.size (some ⟨w.heap.size + 1, 0, none⟩) 4 fourL := ⟨four_ok, rfl, own.reads, by omega⟩
  clear own
  have ga := World.grownBy_alloc v0 (.cells #[.slice (some ⟨w.heap.size + 1, 0, none⟩) 4 4, .int .i64 5] 24) none
  have Dd := Lib.hid (DB.new (k := 4) (x := 5) hN0)
  replace hg := grown_trans hg ga
  clear ga hN0
  have c0 := Dd.out.two.c0
  have c1 := Dd.out.two.c1
  go_wp2_with (first
    | (refine wpList_build (o := ⟨some 25, _, _, _, _, _⟩) rfl (T := 34) rfl ch1.cells (by kernel_rfl) ?_; simp only [Act.put, List.setIfInBounds_toArray, List.set_cons_zero, List.set_cons_succ]))
  generalize v0.alloc (.cells #[.slice (some ⟨w.heap.size + 1, 0, none⟩) 4 4, .int .i64 5] 24) = W1 at *
  refine (apply_ok Dd.out.nodes four_len ch1_ok (by decide) ap1 (by decide)).mono ?_; rintro r v1 ⟨A1, k1, rfl, N1, g1⟩
  clear c0 c1
  have ga := World.grownBy_alloc v1 (.cells #[.slice A1 doc1.length k1, .int .i64 6] 24) none
  replace Dd := Lib.hid ((Dd.out.grow g1).grow ga)
  have Da := Lib.hid (DB.new (k := k1) (x := 6) N1)
  clear N1
  replace hg := grown_trans hg (grown_trans g1 ga)
  clear ga g1
  have c0 := Dd.out.two.c0
  have c1 := Dd.out.two.c1
  go_wp2_with (first
    | (refine wpList_build (o := ⟨some 32, _, _, _, _, _⟩) rfl (T := 34) rfl ch2.cells (by kernel_rfl) ?_; simp only [Act.put, List.setIfInBounds_toArray, List.set_cons_zero, List.set_cons_succ])
    | (refine wpList_build (o := ⟨some 31, _, _, _, _, _⟩) rfl (T := 32) rfl txtNode.toArray (by kernel_rfl) ?_; simp only [Act.put, List.setIfInBounds_toArray, List.set_cons_zero, List.set_cons_succ]))
  generalize v1.alloc (.cells #[.slice A1 doc1.length k1, .int .i64 6] 24) = W2 at *
  refine (apply_ok Dd.out.nodes four_len ch2_ok (by decide) ap2 (by decide)).mono ?_; rintro r v2 ⟨A2, k2, rfl, N2, g2⟩
  clear c0 c1
  have ga := World.grownBy_alloc v2 (.cells #[.slice A2 doc2.length k2, .int .i64 6] 24) none
  replace Dd := Lib.hid ((Dd.out.grow g2).grow ga)
  replace Da := Lib.hid ((Da.out.grow g2).grow ga)
  have Db := Lib.hid (DB.new (k := k2) (x := 6) N2)
  clear N2
  replace hg := grown_trans hg (grown_trans g2 ga)
  clear ga g2
  have c0 := Dd.out.two.c0
  have c1 := Dd.out.two.c1
  go_wp2_with (first
    | (refine wpList_build (o := ⟨some 38, _, _, _, _, _⟩) rfl (T := 34) rfl ch3.cells (by kernel_rfl) ?_; simp only [Act.put, List.setIfInBounds_toArray, List.set_cons_zero, List.set_cons_succ]))
  generalize v2.alloc (.cells #[.slice A2 doc2.length k2, .int .i64 6] 24) = W3 at *
  refine (apply_err Dd.out.nodes four_len ch3_ok (by decide) ap3).mono ?_; rintro r v3 ⟨rfl, g3⟩
  clear c0 c1
  have ga := World.grownBy_alloc v3 (.cells #[.slice none 0 0, .int .i64 0] 24) none
  replace Dd := Lib.hid ((Dd.out.grow g3).grow ga)
  replace Da := Lib.hid ((Da.out.grow g3).grow ga)
  replace Db := Lib.hid ((Db.out.grow g3).grow ga)
  replace hg := grown_trans hg (grown_trans g3 ga)
  clear ga g3
  have c0 := Dd.out.two.c0
  have c1 := Dd.out.two.c1
  go_wp2_with (first
    | (refine wpList_build (o := ⟨some 44, _, _, _, _, _⟩) rfl (T := 34) rfl ch4.cells (by kernel_rfl) ?_; simp only [Act.put, List.setIfInBounds_toArray, List.set_cons_zero, List.set_cons_succ]))
  generalize v3.alloc (.cells #[.slice none 0 0, .int .i64 0] 24) = W4 at *
  refine (apply_ok Dd.out.nodes four_len ch4_ok (by decide) ap4 (by decide)).mono ?_; rintro r v4 ⟨A4, k4, rfl, N4, g4⟩
  clear c0 c1
  have ga := World.grownBy_alloc v4 (.cells #[.slice A4 doc4.length k4, .int .i64 5] 24) none
  replace Dd := Lib.hid ((Dd.out.grow g4).grow ga)
  replace Da := Lib.hid ((Da.out.grow g4).grow ga)
  replace Db := Lib.hid ((Db.out.grow g4).grow ga)
  have Dc := Lib.hid (DB.new (k := k4) (x := 5) N4)
  clear N4
  replace hg := grown_trans hg (grown_trans g4 ga)
  clear ga g4
  have c0 := Dd.out.two.c0
  have c1 := Dd.out.two.c1
  go_wp2_with (first
    | (refine wpList_build (o := ⟨some 50, _, _, _, _, _⟩) rfl (T := 34) rfl ch5.cells (by kernel_rfl) ?_; simp only [Act.put, List.setIfInBounds_toArray, List.set_cons_zero, List.set_cons_succ]))
  generalize v4.alloc (.cells #[.slice A4 doc4.length k4, .int .i64 5] 24) = W5 at *
  refine (apply_err Dd.out.nodes four_len ch5_ok (by decide) ap5).mono ?_; rintro r v5 ⟨rfl, g5⟩
  clear c0 c1
  have ga := World.grownBy_alloc v5 (.cells #[.slice none 0 0, .int .i64 0] 24) none
  replace Dd := Lib.hid ((Dd.out.grow g5).grow ga)
  replace Da := Lib.hid ((Da.out.grow g5).grow ga)
  replace Db := Lib.hid ((Db.out.grow g5).grow ga)
  replace Dc := Lib.hid ((Dc.out.grow g5).grow ga)
  replace hg := grown_trans hg (grown_trans g5 ga)
  clear ga g5
  have c0 := Dd.out.two.c0
  have c1 := Dd.out.two.c1
  go_wp2_with (first
    | (refine wpList_build (o := ⟨some 56, _, _, _, _, _⟩) rfl (T := 34) rfl ch6.cells (by kernel_rfl) ?_; simp only [Act.put, List.setIfInBounds_toArray, List.set_cons_zero, List.set_cons_succ]))
  generalize v5.alloc (.cells #[.slice none 0 0, .int .i64 0] 24) = W6 at *
  refine (apply_ok Dd.out.nodes four_len ch6_ok (by decide) ap6 (by decide)).mono ?_; rintro r v6 ⟨A6, k6, rfl, N6, g6⟩
  clear c0 c1
  have ga := World.grownBy_alloc v6 (.cells #[.slice A6 doc6.length k6, .int .i64 5] 24) none
  replace Dd := Lib.hid ((Dd.out.grow g6).grow ga)
  replace Da := Lib.hid ((Da.out.grow g6).grow ga)
  replace Db := Lib.hid ((Db.out.grow g6).grow ga)
  replace Dc := Lib.hid ((Dc.out.grow g6).grow ga)
  have Dm := Lib.hid (DB.new (k := k6) (x := 5) N6)
  clear N6
  replace hg := grown_trans hg (grown_trans g6 ga)
  clear ga g6
  have c0 := Dd.out.two.c0
  have c1 := Dd.out.two.c1
  go_wp2_with (first
    | (refine wpList_build (o := ⟨some 62, _, _, _, _, _⟩) rfl (T := 34) rfl ch7.cells (by kernel_rfl) ?_; simp only [Act.put, List.setIfInBounds_toArray, List.set_cons_zero, List.set_cons_succ]))
  generalize v6.alloc (.cells #[.slice A6 doc6.length k6, .int .i64 5] 24) = W7 at *
  refine (apply_err Dd.out.nodes four_len ch7_ok (by decide) ap7).mono ?_; rintro r v7 ⟨rfl, g7⟩
  clear c0 c1
  have ga := World.grownBy_alloc v7 (.cells #[.slice none 0 0, .int .i64 0] 24) none
  replace Dd := Lib.hid ((Dd.out.grow g7).grow ga)
  replace Da := Lib.hid ((Da.out.grow g7).grow ga)
  replace Db := Lib.hid ((Db.out.grow g7).grow ga)
  replace Dc := Lib.hid ((Dc.out.grow g7).grow ga)
  replace Dm := Lib.hid ((Dm.out.grow g7).grow ga)
  replace hg := grown_trans hg (grown_trans g7 ga)
  clear ga g7
  have c0 := Dd.out.two.c0
  have c1 := Dd.out.two.c1
  go_wp2_with (first
    | (refine wpList_build (o := ⟨some 68, _, _, _, _, _⟩) rfl (T := 34) rfl ch8.cells (by kernel_rfl) ?_; simp only [Act.put, List.setIfInBounds_toArray, List.set_cons_zero, List.set_cons_succ]))
  generalize v7.alloc (.cells #[.slice none 0 0, .int .i64 0] 24) = W8 at *
  refine (apply_ok Dd.out.nodes four_len ch8_ok (by decide) ap8 (by decide)).mono ?_; rintro r v8 ⟨A8, k8, rfl, N8, g8⟩
  clear c0 c1
  have ga := World.grownBy_alloc v8 (.cells #[.slice A8 doc8.length k8, .int .i64 5] 24) none
  replace Dd := Lib.hid ((Dd.out.grow g8).grow ga)
  replace Da := Lib.hid ((Da.out.grow g8).grow ga)
  replace Db := Lib.hid ((Db.out.grow g8).grow ga)
  replace Dc := Lib.hid ((Dc.out.grow g8).grow ga)
  replace Dm := Lib.hid ((Dm.out.grow g8).grow ga)
  have Dn := Lib.hid (DB.new (k := k8) (x := 5) N8)
  clear N8
  replace hg := grown_trans hg (grown_trans g8 ga)
  clear ga g8
  have c0 := Dd.out.two.c0
  have c1 := Dd.out.two.c1
  go_wp2_with (first
    | (refine wpList_build (o := ⟨some 74, _, _, _, _, _⟩) rfl (T := 34) rfl ch9.cells (by kernel_rfl) ?_; simp only [Act.put, List.setIfInBounds_toArray, List.set_cons_zero, List.set_cons_succ]))
  generalize v8.alloc (.cells #[.slice A8 doc8.length k8, .int .i64 5] 24) = W9 at *
  refine (apply_err Dd.out.nodes four_len ch9_ok (by decide) ap9).mono ?_; rintro r v9 ⟨rfl, g9⟩
  clear c0 c1
  have ga := World.grownBy_alloc v9 (.cells #[.slice none 0 0, .int .i64 0] 24) none
  replace Dd := Lib.hid ((Dd.out.grow g9).grow ga)
  replace Da := Lib.hid ((Da.out.grow g9).grow ga)
  replace Db := Lib.hid ((Db.out.grow g9).grow ga)
  replace Dc := Lib.hid ((Dc.out.grow g9).grow ga)
  replace Dm := Lib.hid ((Dm.out.grow g9).grow ga)
  replace Dn := Lib.hid ((Dn.out.grow g9).grow ga)
  replace hg := grown_trans hg (grown_trans g9 ga)
  clear ga g9
  have c0 := Dd.out.two.c0
  have c1 := Dd.out.two.c1
  go_wp2_with (first
    | (refine wpList_build (o := ⟨some 82, _, _, _, _, _⟩) rfl (T := 34) rfl ch10.cells (by kernel_rfl) ?_; simp only [Act.put, List.setIfInBounds_toArray, List.set_cons_zero, List.set_cons_succ])
    | (refine wpList_build (o := ⟨some 80, _, _, _, _, _⟩) rfl (T := 30) rfl (styN badNode).toArray (by kernel_rfl) ?_; simp only [Act.put, List.setIfInBounds_toArray, List.set_cons_zero, List.set_cons_succ])
    | (refine wpList_build (o := ⟨some 81, _, _, _, _, _⟩) rfl (T := 32) rfl badNode.toArray (by kernel_rfl) ?_; simp only [Act.put, List.setIfInBounds_toArray, List.set_cons_zero, List.set_cons_succ]))
  generalize v9.alloc (.cells #[.slice none 0 0, .int .i64 0] 24) = W10 at *
  refine (apply_err Dd.out.nodes four_len ch10_ok (by decide) ap10).mono ?_; rintro r v10 ⟨rfl, g10⟩
  clear c0 c1
  have ga := World.grownBy_alloc v10 (.cells #[.slice none 0 0, .int .i64 0] 24) none
  replace Dd := Lib.hid ((Dd.out.grow g10).grow ga)
  replace Da := Lib.hid ((Da.out.grow g10).grow ga)
  replace Db := Lib.hid ((Db.out.grow g10).grow ga)
  replace Dc := Lib.hid ((Dc.out.grow g10).grow ga)
  replace Dm := Lib.hid ((Dm.out.grow g10).grow ga)
  replace Dn := Lib.hid ((Dn.out.grow g10).grow ga)
  replace hg := grown_trans hg (grown_trans g10 ga)
  clear ga g10
  have c0 := Da.out.two.c0
  have c1 := Da.out.two.c1
  go_upto_region 14 with fail
  generalize v10.alloc (.cells #[.slice none 0 0, .int .i64 0] 24) = W11 at *
  go_wp2_with fail
  have ga := World.grownBy_alloc W11 (.cells #[.int .i64 1, .int .i64 0, .int .i64 2, .int .i64 1, .int .i64 3, .int .i64 2, .int .i64 5, .int .i64 1, .int .i64 4, .int .i64 1] 3) none
  have hS : Reads (W11.alloc (.cells #[.int .i64 1, .int .i64 0, .int .i64 2, .int .i64 1, .int .i64 3, .int .i64 2, .int .i64 5, .int .i64 1, .int .i64 4, .int .i64 1] 3)) (W11.alloc (.cells #[.int .i64 1, .int .i64 0, .int .i64 2, .int .i64 1, .int .i64 3, .int .i64 2, .int .i64 5, .int .i64 1, .int .i64 4, .int .i64 1] 3)).heap.size (some ⟨W11.heap.size, 0, none⟩) (([1, 0, 2, 1, 3, 2, 5, 1, 4, 1] : List Int).map fun v => .int .i64 v) := reads_row (Row.new W11 3 #[.int .i64 1, .int .i64 0, .int .i64 2, .int .i64 1, .int .i64 3, .int .i64 2, .int .i64 5, .int .i64 1, .int .i64 4, .int .i64 1]) rfl
  have NN := (Da.out.grow ga).nodes
  generalize W11.alloc (.cells #[.int .i64 1, .int .i64 0, .int .i64 2, .int .i64 1, .int .i64 3, .int .i64 2, .int .i64 5, .int .i64 1, .int .i64 4, .int .i64 1] 3) = V1 at *
  refine (told_yes _ _ _ doc1 _ _ _ _ [1, 0, 2, 1, 3, 2, 5, 1, 4, 1] V1 NN hS rfl told1).mono ?_; rintro r U1 ⟨rfl, g1⟩
  clear c0 c1 NN hS
  replace Dd := Lib.hid ((Dd.out.grow ga).grow g1)
  replace Db := Lib.hid ((Db.out.grow ga).grow g1)
  replace Dc := Lib.hid ((Dc.out.grow ga).grow g1)
  replace Dm := Lib.hid ((Dm.out.grow ga).grow g1)
  replace Dn := Lib.hid ((Dn.out.grow ga).grow g1)
  replace hg := grown_trans hg (grown_trans ga g1)
  clear ga g1 Da
  have c0 := Db.out.two.c0
  have c1 := Db.out.two.c1
  go_wp2_with fail
  have ga := World.grownBy_alloc U1 (.cells #[.int .i64 1, .int .i64 0, .int .i64 2, .int .i64 1, .int .i64 3, .int .i64 2, .int .i64 4, .int .i64 1, .int .i64 5, .int .i64 2] 3) none
  have hS : Reads (U1.alloc (.cells #[.int .i64 1, .int .i64 0, .int .i64 2, .int .i64 1, .int .i64 3, .int .i64 2, .int .i64 4, .int .i64 1, .int .i64 5, .int .i64 2] 3)) (U1.alloc (.cells #[.int .i64 1, .int .i64 0, .int .i64 2, .int .i64 1, .int .i64 3, .int .i64 2, .int .i64 4, .int .i64 1, .int .i64 5, .int .i64 2] 3)).heap.size (some ⟨U1.heap.size, 0, none⟩) (([1, 0, 2, 1, 3, 2, 4, 1, 5, 2] : List Int).map fun v => .int .i64 v) := reads_row (Row.new U1 3 #[.int .i64 1, .int .i64 0, .int .i64 2, .int .i64 1, .int .i64 3, .int .i64 2, .int .i64 4, .int .i64 1, .int .i64 5, .int .i64 2]) rfl
  have NN := (Db.out.grow ga).nodes
  generalize U1.alloc (.cells #[.int .i64 1, .int .i64 0, .int .i64 2, .int .i64 1, .int .i64 3, .int .i64 2, .int .i64 4, .int .i64 1, .int .i64 5, .int .i64 2] 3) = V2 at *
  refine (told_yes _ _ _ doc2 _ _ _ _ [1, 0, 2, 1, 3, 2, 4, 1, 5, 2] V2 NN hS rfl told2).mono ?_; rintro r U2 ⟨rfl, g2⟩
  clear c0 c1 NN hS
  replace Dd := Lib.hid ((Dd.out.grow ga).grow g2)
  replace Dc := Lib.hid ((Dc.out.grow ga).grow g2)
  replace Dm := Lib.hid ((Dm.out.grow ga).grow g2)
  replace Dn := Lib.hid ((Dn.out.grow ga).grow g2)
  replace hg := grown_trans hg (grown_trans ga g2)
  clear ga g2 Db
  have c0 := Dc.out.two.c0
  have c1 := Dc.out.two.c1
  go_wp2_with fail
  have ga := World.grownBy_alloc U2 (.cells #[.int .i64 1, .int .i64 0, .int .i64 4, .int .i64 1] 3) none
  have hS : Reads (U2.alloc (.cells #[.int .i64 1, .int .i64 0, .int .i64 4, .int .i64 1] 3)) (U2.alloc (.cells #[.int .i64 1, .int .i64 0, .int .i64 4, .int .i64 1] 3)).heap.size (some ⟨U2.heap.size, 0, none⟩) (([1, 0, 4, 1] : List Int).map fun v => .int .i64 v) := reads_row (Row.new U2 3 #[.int .i64 1, .int .i64 0, .int .i64 4, .int .i64 1]) rfl
  have NN := (Dc.out.grow ga).nodes
  generalize U2.alloc (.cells #[.int .i64 1, .int .i64 0, .int .i64 4, .int .i64 1] 3) = V4 at *
  refine (told_yes _ _ _ doc4 _ _ _ _ [1, 0, 4, 1] V4 NN hS rfl told4).mono ?_; rintro r U4 ⟨rfl, g4⟩
  clear c0 c1 NN hS
  replace Dd := Lib.hid ((Dd.out.grow ga).grow g4)
  replace Dm := Lib.hid ((Dm.out.grow ga).grow g4)
  replace Dn := Lib.hid ((Dn.out.grow ga).grow g4)
  replace hg := grown_trans hg (grown_trans ga g4)
  clear ga g4 Dc
  have c0 := Dm.out.two.c0
  have c1 := Dm.out.two.c1
  go_wp2_with fail
  have ga := World.grownBy_alloc U4 (.cells #[.int .i64 1, .int .i64 0, .int .i64 4, .int .i64 1, .int .i64 2, .int .i64 2, .int .i64 3, .int .i64 3] 3) none
  have hS : Reads (U4.alloc (.cells #[.int .i64 1, .int .i64 0, .int .i64 4, .int .i64 1, .int .i64 2, .int .i64 2, .int .i64 3, .int .i64 3] 3)) (U4.alloc (.cells #[.int .i64 1, .int .i64 0, .int .i64 4, .int .i64 1, .int .i64 2, .int .i64 2, .int .i64 3, .int .i64 3] 3)).heap.size (some ⟨U4.heap.size, 0, none⟩) (([1, 0, 4, 1, 2, 2, 3, 3] : List Int).map fun v => .int .i64 v) := reads_row (Row.new U4 3 #[.int .i64 1, .int .i64 0, .int .i64 4, .int .i64 1, .int .i64 2, .int .i64 2, .int .i64 3, .int .i64 3]) rfl
  have NN := (Dm.out.grow ga).nodes
  generalize U4.alloc (.cells #[.int .i64 1, .int .i64 0, .int .i64 4, .int .i64 1, .int .i64 2, .int .i64 2, .int .i64 3, .int .i64 3] 3) = V6 at *
  refine (told_yes _ _ _ doc6 _ _ _ _ [1, 0, 4, 1, 2, 2, 3, 3] V6 NN hS rfl told6).mono ?_; rintro r U6 ⟨rfl, g6⟩
  clear c0 c1 NN hS
  replace Dd := Lib.hid ((Dd.out.grow ga).grow g6)
  replace Dn := Lib.hid ((Dn.out.grow ga).grow g6)
  replace hg := grown_trans hg (grown_trans ga g6)
  clear ga g6 Dm
  have c0 := Dn.out.two.c0
  have c1 := Dn.out.two.c1
  go_wp2_with fail
  have ga := World.grownBy_alloc U6 (.cells #[.int .i64 1, .int .i64 0, .int .i64 4, .int .i64 1, .int .i64 2, .int .i64 1, .int .i64 3, .int .i64 2] 3) none
  have hS : Reads (U6.alloc (.cells #[.int .i64 1, .int .i64 0, .int .i64 4, .int .i64 1, .int .i64 2, .int .i64 1, .int .i64 3, .int .i64 2] 3)) (U6.alloc (.cells #[.int .i64 1, .int .i64 0, .int .i64 4, .int .i64 1, .int .i64 2, .int .i64 1, .int .i64 3, .int .i64 2] 3)).heap.size (some ⟨U6.heap.size, 0, none⟩) (([1, 0, 4, 1, 2, 1, 3, 2] : List Int).map fun v => .int .i64 v) := reads_row (Row.new U6 3 #[.int .i64 1, .int .i64 0, .int .i64 4, .int .i64 1, .int .i64 2, .int .i64 1, .int .i64 3, .int .i64 2]) rfl
  have NN := (Dn.out.grow ga).nodes
  generalize U6.alloc (.cells #[.int .i64 1, .int .i64 0, .int .i64 4, .int .i64 1, .int .i64 2, .int .i64 1, .int .i64 3, .int .i64 2] 3) = V8 at *
  refine (told_yes _ _ _ doc8 _ _ _ _ [1, 0, 4, 1, 2, 1, 3, 2] V8 NN hS rfl told8).mono ?_; rintro r U8 ⟨rfl, g8⟩
  clear c0 c1 NN hS
  replace Dd := Lib.hid ((Dd.out.grow ga).grow g8)
  replace hg := grown_trans hg (grown_trans ga g8)
  clear ga g8 Dn
  have c0 := Dd.out.two.c0
  have c1 := Dd.out.two.c1
  go_wp2_with fail
  refine (may_ok Dd.out.nodes four_len four_may).mono ?_; rintro r X1 ⟨rfl, g1⟩
  replace hg := grown_trans hg g1
  clear c0 c1 Dd g1
  go_wp2_with fail
  refine (may_not (A := none) (n := 0) (k := 0) (x := 0) (L := []) (w := X1) ⟨by simp, rfl, Reads.nil_, by omega⟩ (fun i hi => absurd hi (by omega)) none_may).mono ?_; rintro r X2 ⟨rfl, g2⟩
  go_wp2_with fail
  go_ret
  exact ⟨rfl, grown_trans hg g2⟩
end Go.Proofs.Ytjnbfgogmhfbiaa
/- MutateKeeps: the walk. -/
namespace Go.Proofs.Ytjnbfgogmhfbiaa
open Go Go.RowKit
def chgLs : List Lf := [.int .u8, .int .i64, .int .i64, .int .i64] ++ nodeLs
theorem wf_u8 {n : Int} (h : (Lit.int .u8 n).wf = true) : 0 ≤ n ∧ n ≤ 255 := by simpa [Lit.wf, IntKind.min, IntKind.max, IntKind.signed, IntKind.bits] using h
theorem chg_of {cs : List Value} (h : OkAll chgLs cs) : ∃ c : Chg, c.ok ∧ cs.toArray = c.cells := by
  obtain ⟨v0, r0, rfl, ⟨kd, rfl, h0⟩, h⟩ := h
  obtain ⟨v1, r1, rfl, ⟨key, rfl, h1⟩, h⟩ := h
  obtain ⟨v2, r2, rfl, ⟨par, rfl, h2⟩, h⟩ := h
  obtain ⟨v3, y, rfl, ⟨num, rfl, h3⟩, h⟩ := h
  exact ⟨⟨kd, key, par, num, y⟩, ⟨wf_u8 h0, wfI h1, wfI h2, wfI h3, h⟩, rfl⟩
theorem opL_err {L : List (List Value)} {x e : Int} {c : Chg} (h : opL L x c = .error e) : e = 60 ∨ e = 70 := by
  have hg : ∀ {L : List (List Value)} {p n e : Int}, gapE L p n = .error e → e = 70 := fun h => by
    unfold gapE at h
    split at h
    · dsimp only at h
      split at h
      · cases h
      · cases h; rfl
    · cases h; rfl
  have hc : ∀ {L : List (List Value)} {k e : Int}, cutL L k = .error e → e = 70 := fun h => by
    unfold cutL at h
    split at h
    · cases h
    · cases h; rfl
  unfold opL at h
  split at h
  · unfold insertL at h
    split at h
    · rename_i e' he
      cases h
      exact .inr (hg he)
    · split at h
      · split at h
        · cases h
        · cases h; exact .inl rfl
      · split at h
        · cases h
        · cases h; exact .inr rfl
  split at h
  · unfold removeL at h
    split at h
    · rename_i e' he
      cases h
      exact .inr (hc he)
    · cases h
  split at h
  · unfold moveL at h
    split at h
    · rename_i e' he
      cases h
      exact .inr (hc he)
    · split at h
      · rename_i e' he
        cases h
        exact .inr (hg he)
      · cases h
  split at h
  · unfold styleL at h
    split at h
    · dsimp only at h
      split at h
      · split at h
        · cases h
        · cases h; exact .inl rfl
      · cases h; exact .inr rfl
    · cases h; exact .inr rfl
  · unfold textL at h
    split at h
    · dsimp only at h
      split at h
      · cases h
      · cases h; exact .inr rfl
    · cases h; exact .inr rfl
theorem opL_next {L L' : List (List Value)} {x x' : Int} {c : Chg} (h : opL L x c = .ok (L', x')) : x' = if c.kd = 1 then x + 1 else x := by
  unfold opL at h
  split at h
  · rename_i hk
    rw [if_pos hk]
    unfold insertL at h
    split at h
    · cases h
    · split at h
      · split at h
        · cases h; rfl
        · cases h
      · split at h
        · cases h; rfl
        · cases h
  rename_i hk
  rw [if_neg hk]
  split at h
  · unfold removeL at h
    split at h
    · cases h
    · cases h; rfl
  split at h
  · unfold moveL at h
    split at h
    · cases h
    · split at h
      · cases h
      · cases h; rfl
  split at h
  · unfold styleL at h
    split at h
    · dsimp only at h
      split at h
      · split at h
        · cases h; rfl
        · cases h
      · cases h
    · cases h
  · unfold textL at h
    split at h
    · dsimp only at h
      split at h
      · cases h; rfl
      · cases h
    · cases h
theorem applies_err {L : List (List Value)} {x e : Int} {c : Chg} (h : Applies L x c (.error e)) : e ≠ 0 ∧ (e = 50 ↔ ¬ MayL L x) := by
  rcases h with ⟨h1, rfl⟩ | ⟨h1, h2, rfl⟩ | ⟨h1, h2, h3⟩ | ⟨h1, h2, h3, rfl⟩
  · exact ⟨by decide, fun _ => h1, fun _ => rfl⟩
  · exact ⟨by decide, fun e => absurd e (by decide), fun e => absurd h1 e⟩
  · rcases opL_err h3 with rfl | rfl
    · exact ⟨by decide, fun e => absurd e (by decide), fun e => absurd h1 e⟩
    · exact ⟨by decide, fun e => absurd e (by decide), fun e => absurd h1 e⟩
  · exact ⟨by decide, fun e => absurd e (by decide), fun e => absurd h1 e⟩
theorem total_mem {L : List (List Value)} : ∀ y ∈ L, lenN y ≤ total L := by
  induction L with
  | nil => intro y hy; simp at hy
  | cons a r ih =>
    intro y hy
    have : total (a :: r) = lenN a + total r := by simp [total]
    rcases List.mem_cons.1 hy with rfl | hy
    · omega
    · have := ih y hy; omega
/-- The law's two boxes. -/
theorem boxes2 (w : World) (v : Value) (x : Int) (c : Chg) : ∃ W, (w.alloc (.cells #[v, .int .i64 x] 24)).alloc (.cells c.cells 34) = W ∧
    Two W w.heap.size 24 v (.int .i64 x) ∧ Row W (w.heap.size + 1) 34 c.cells ∧ w.grownBy W none := by
  refine ⟨_, rfl, (Two.new w _ _ _).kept (World.grownBy_alloc _ _ none) (by simp), ?_, grown_trans (World.grownBy_alloc _ _ _) (World.grownBy_alloc _ _ _)⟩
  have := Row.new (w.alloc (.cells #[v, .int .i64 x] 24)) 34 c.cells
  rwa [World.size_alloc] at this
set_option maxRecDepth 100000 in
set_option maxHeartbeats 4000000 in
theorem MutateKeeps_walk (w : World) (A : Option Addr) (n k : Nat) (L : List (List Value)) (x : Int) (_wx : (Lit.int .i64 x).wf = true) (R : IsNodes w A n k L) (cs : List Value) (ok : OkAll chgLs cs) :
    Calls Try.prog 3 #[.agg #[.slice A n k, .int .i64 x], .agg ⟨cs⟩] w fun e w' => e = .returned (.bool true) ∧ Below w.heap.size w w' := by
  obtain ⟨c, hc, hcs⟩ := chg_of ok
  rw [show (⟨cs⟩ : Array Value) = c.cells from hcs]
  have hnc := R.len_
  obtain ⟨W0, hW0, bD, rC, hg0⟩ := boxes2 w (.slice A n k) x c
  have CA := Lib.hid (awake_any W0)
  have hok := Lib.hid (fun y hy => (R.2.2.2.1 y hy).2)
  have hlen := Lib.hid R.1
  have hrd := Lib.hid (fun W (hg : w.grownBy W none) => (R.2.2.2.2.grown0 hg).more hg.size)
  have CG := Lib.hid (fun W (hg : w.grownBy W none) => great7_any A n k L x c W hok.out hlen.out (hrd.out W hg) (by omega) hc)
  have hc' := Lib.hid hc
  have hW0' := Lib.hid hW0
  have bD' := Lib.hid (fun W (hg : W0.grownBy W none) => bD.kept hg (by simp))
  have rC' := Lib.hid (fun W (hg : W0.grownBy W none) => rC.kept0 hg)
  have hg0' := Lib.hid hg0
  have hkb := hc.kd
  have hcz := Lib.hid (Chg.size hc)
  clear R hcs ok hW0 bD rC hg0 hc
  go_enter Try.func3, Try.ntmps3
  go_wp2_with fail
  rw [hW0'.out]
  refine CA.out.mono ?_; rintro r w1 ⟨rfl, hg⟩
  have c0 := (bD'.out _ hg).c0
  have c1 := (bD'.out _ hg).c1
  have rc := rC'.out _ hg
  go_wp2_with (refine wpList_row bigC rc hcz.out (x := .tmp 3) rfl (by kernel_rfl) (by kernel_rfl) ?_; simp only [Act.put, List.setIfInBounds_toArray, List.set_cons_zero, List.set_cons_succ])
  refine (CG.out _ (grown_trans hg0'.out hg)).mono ?_; rintro r w2 ⟨b, rfl, hb, hg2⟩
  replace hg := grown_trans hg hg2
  clear c0 c1 rc hg2 CA CG
  cases b with
  | true =>
    clear hb
    go_wp2_with fail
    go_ret
    exact ⟨rfl, grown_below (grown_trans hg0'.out hg)⟩
  | false =>
    obtain ⟨⟨hn, ht⟩, hy⟩ := hb rfl
    have hN := Lib.hid (fun W (hg : W0.grownBy W none) => show NodesAt W W.heap.size A n L from ⟨hok.out, hlen.out, hrd.out W (grown_trans hg0'.out hg), by omega⟩)
    have hsm := Lib.hid (fun i (hi : i < n) => show lenN (nd L i) ≤ 5000 from Nat.le_trans (total_mem _ (List.mem_of_getElem? (nd_get (by rw [hlen.out]; exact hi)))) ht)
    have CAp := Lib.hid (apply_any A n k x L c w2 (hN.out _ hg) hsm.out hc'.out hy)
    have CMd := Lib.hid (fun W (hg : W0.grownBy W none) => may7_any A n k x L W (hN.out W hg) hsm.out)
    have c0 := (bD'.out _ hg).c0
    have c1 := (bD'.out _ hg).c1
    have rc := rC'.out _ hg
    clear hb ht hy
    go_wp2_with (refine wpList_row bigC rc hcz.out (x := .tmp 3) rfl (by kernel_rfl) (by kernel_rfl) ?_; simp only [Act.put, List.setIfInBounds_toArray, List.set_cons_zero, List.set_cons_succ])
    refine CAp.out.mono ?_; rintro r w3 ⟨⟨res, hap, hans⟩, hg3⟩
    replace hg := grown_trans hg hg3
    clear c0 c1 rc CAp
    cases res with
    | error e =>
      obtain ⟨he0, he50⟩ := applies_err hap
      have ha := World.grownBy_alloc w3 (.cells #[.slice none 0 0, .int .i64 0] 24) none
      have bO := Two.new w3 24 (.slice none 0 0) (.int .i64 0)
      have d0 := bO.c0
      have d1 := bO.c1
      have hga := grown_trans hg ha
      have c0 := (bD'.out _ hga).c0
      have c1 := (bD'.out _ hga).c1
      have b0 : (e != 0) = true := by simpa using he0
      obtain rfl : r = _ := hans
      have he50' := Lib.hid he50
      clear he50 hap ha bO hg3 he0
      go_wp2_with fail
      refine (CMd.out _ hga).mono ?_; rintro r w4 ⟨⟨b, rfl, hb⟩, hg4⟩
      have hbe : ((e == 50) == !b) = true := by
        cases b with
        | true =>
          have hm := hb.1 rfl
          have : e ≠ 50 := fun h => (he50'.out.1 h) hm
          simp [this]
        | false =>
          have hm : ¬ MayL L x := fun h => by have := hb.2 h; cases this
          have : e = 50 := he50'.out.2 hm
          simp [this]
      clear hb
      go_wp2_with fail
      go_ret
      exact ⟨rfl, grown_below (grown_trans hg0'.out (grown_trans hga hg4))⟩
    | ok v =>
      obtain ⟨L', x'⟩ := v
      obtain ⟨A3, n3, k3, hans, hown, hl3, hok3⟩ := hans
      subst hans
      obtain ⟨hM, _, hop, hM'⟩ := hap
      have hx' := opL_next hop
      obtain ⟨_, hl300, _, _⟩ := hM'.facts
      obtain ⟨_, _, hx0, _⟩ := hM.facts
      have hN3 : NodesAt w3 w3.heap.size A3 n3 L' := ⟨hok3, hl3, hown.reads, by omega⟩
      have ha := World.grownBy_alloc w3 (.cells #[.slice A3 n3 k3, .int .i64 x'] 24) none
      have bO := Two.new w3 24 (.slice A3 n3 k3) (.int .i64 x')
      have hsm3 : ∀ i, i < n3 → lenN (nd L' i) ≤ 5000 := fun i hi => by
        have h1 := total_mem _ (List.mem_of_getElem? (nd_get (L := L') (i := i) (by omega)))
        have h2 := hM'.1.2.2.2.2.2
        omega
      have hga := grown_trans hg ha
      have hdoc := Lib.hid (fun W (hg : (w3.alloc (.cells #[.slice A3 n3 k3, .int .i64 x'] 24)).grownBy W none) => show (W.cell? ⟨w.heap.size, 0, none⟩ = some (.slice A n k) ∧ W.cell? ⟨w.heap.size, 1, none⟩ = some (.int .i64 x)) ∧ (W.cell? ⟨w3.heap.size, 0, none⟩ = some (.slice A3 n3 k3) ∧ W.cell? ⟨w3.heap.size, 1, none⟩ = some (.int .i64 x')) ∧ W.cell? ⟨w.heap.size + 1, 0, none⟩ = some (.int .u8 c.kd) from
        ⟨⟨(bD'.out _ (grown_trans hga hg)).c0, (bD'.out _ (grown_trans hga hg)).c1⟩, ⟨(bO.kept hg (by simp)).c0, (bO.kept hg (by simp)).c1⟩, ((rC'.out _ (grown_trans hga hg)).at 0).trans Chg.c0⟩)
      have CM1 := Lib.hid (fun W (hg : (w3.alloc (.cells #[.slice A3 n3 k3, .int .i64 x'] 24)).grownBy W none) => may_ok (k := k) (hN.out W (grown_trans hga hg)) hsm.out hM)
      have CM2 := Lib.hid (fun W (hg : (w3.alloc (.cells #[.slice A3 n3 k3, .int .i64 x'] 24)).grownBy W none) => may_ok (k := k3) (hN3.grow (grown_trans ha hg)) hsm3 hM')
      have hga' := Lib.hid hga
      have hr := World.grownBy.refl (w3.alloc (.cells #[.slice A3 n3 k3, .int .i64 x'] 24)) none
      obtain ⟨⟨c0, c1⟩, ⟨d0, d1⟩, e0⟩ := hdoc.out _ hr
      have hx'' := Lib.hid hx'
      clear hop hM hM' hN3 ha bO hsm3 hga hown hok3 hx' hg3 hl300
      by_cases hk : c.kd = 1
      · have hxk := Lib.hid (show x' = x + 1 by have := hx''.out; rw [if_pos hk] at this; exact this)
        have bk : (c.kd == 1) = true := by simp [hk]
        clear hk
        go_wp2_with fail
        refine (CM1.out _ hr).mono ?_; rintro r w5 ⟨rfl, hg5⟩
        clear c0 c1 d0 d1 e0
        obtain ⟨⟨c0, c1⟩, ⟨d0, d1⟩, e0⟩ := hdoc.out _ hg5
        go_wp2_with fail
        refine (CM2.out _ hg5).mono ?_; rintro r w6 ⟨rfl, hg6⟩
        replace hg5 := grown_trans hg5 hg6
        clear c0 c1 d0 d1 e0
        obtain ⟨⟨c0, c1⟩, ⟨d0, d1⟩, e0⟩ := hdoc.out _ hg5
        have hwx : IntKind.i64.wrap (x + 1) = x + 1 := by rw [IntKind.wrap_i64]; omega
        have bx : (x' == x + 1) = true := by simp [hxk.out]
        clear hxk
        go_wp2_with fail
        go_ret
        exact ⟨rfl, grown_below (grown_trans hg0'.out (grown_trans hga'.out hg5))⟩
      · have hxk := Lib.hid (show x' = x by have := hx''.out; rw [if_neg hk] at this; exact this)
        have bk : (c.kd == 1) = false := by simpa using hk
        clear hk
        go_wp2_with fail
        refine (CM1.out _ hr).mono ?_; rintro r w5 ⟨rfl, hg5⟩
        clear c0 c1 d0 d1 e0
        obtain ⟨⟨c0, c1⟩, ⟨d0, d1⟩, e0⟩ := hdoc.out _ hg5
        go_wp2_with fail
        refine (CM2.out _ hg5).mono ?_; rintro r w6 ⟨rfl, hg6⟩
        replace hg5 := grown_trans hg5 hg6
        clear c0 c1 d0 d1 e0
        obtain ⟨⟨c0, c1⟩, ⟨d0, d1⟩, e0⟩ := hdoc.out _ hg5
        have hwx : IntKind.i64.wrap (x + 0) = x := by rw [IntKind.wrap_i64]; omega
        have hwx2 : IntKind.i64.wrap x = x := by rw [IntKind.wrap_i64]; omega
        have bx : (x' == x) = true := by simp [hxk.out]
        clear hxk
        go_wp2_with fail
        go_ret
        exact ⟨rfl, grown_below (grown_trans hg0'.out (grown_trans hga'.out hg5))⟩
end Go.Proofs.Ytjnbfgogmhfbiaa
/- Nodes put in, cut out: plain. -/
namespace Go.Proofs.Ytjnbfgogmhfbiaa
open Go Go.RowKit
section
variable {L T : List (List Value)} {g : Nat}
theorem put_len (hg : g ≤ L.length) : (putAt L g T).length = L.length + T.length := by
  unfold putAt
  simp
  omega
theorem nd_put (hg : g ≤ L.length) (i : Nat) : nd (putAt L g T) i = if i < g then nd L i else if i < g + T.length then nd T (i - g) else nd L (i - T.length) := by
  have h1 : (L.take g).length = g := by simp; omega
  unfold nd putAt
  by_cases h : i < g
  · rw [if_pos h, List.append_assoc, List.getElem?_append_left (by omega), List.getElem?_take, if_pos h]
  · rw [if_neg h]
    by_cases h2 : i < g + T.length
    · rw [if_pos h2, List.append_assoc, List.getElem?_append_right (by omega), List.getElem?_append_left (by omega), h1]
    · rw [if_neg h2, List.getElem?_append_right (by rw [List.length_append]; omega), List.getElem?_drop, List.length_append, h1]
      congr 2
      omega
theorem nd_put_lo (hg : g ≤ L.length) {i : Nat} (h : i < g) : nd (putAt L g T) i = nd L i := by rw [nd_put hg, if_pos h]
theorem nd_put_mid (hg : g ≤ L.length) {i : Nat} (h : i < T.length) : nd (putAt L g T) (g + i) = nd T i := by
  rw [nd_put hg, if_neg (by omega), if_pos (by omega), show g + i - g = i by omega]
theorem nd_put_hi (hg : g ≤ L.length) {i : Nat} (h : g ≤ i) : nd (putAt L g T) (i + T.length) = nd L i := by
  rw [nd_put hg, if_neg (by omega), if_neg (by omega), show i + T.length - T.length = i by omega]
theorem dp_put_lo (hg : g ≤ L.length) {i : Nat} (h : i < g) : dp (putAt L g T) i = dp L i := by unfold dp; rw [nd_put_lo hg h]
theorem dp_put_mid (hg : g ≤ L.length) {i : Nat} (h : i < T.length) : dp (putAt L g T) (g + i) = dp T i := by unfold dp; rw [nd_put_mid hg h]
theorem dp_put_hi (hg : g ≤ L.length) {i : Nat} (h : g ≤ i) : dp (putAt L g T) (i + T.length) = dp L i := by unfold dp; rw [nd_put_hi hg h]
end
/-- A key's place. -/
theorem find_key {L : List (List Value)} {x : Int} (h : Shape L x) {i : Nat} (hi : i < L.length) : findI L (keyN (nd L i)) = i :=
  findI_at hi (fun j hj => by
    simp only [beq_eq_false_iff_ne]
    exact (h.2.2.2.1 i hi).2.1 j hj) (by simp)
theorem find_none {L : List (List Value)} {key : Int} (h : ∀ j, j < L.length → keyN (nd L j) ≠ key) : findI L key = -1 :=
  findI_no (fun j hj => by simp only [beq_eq_false_iff_ne]; exact h j hj)
/-- Kids ahead of a place. -/
def cntK' (d : Nat → Int) (v g : Nat) : Nat := ((List.range' (v + 1) (g - (v + 1))).filter (fun j => decide (d j = d v + 1))).length
theorem kids_split {d : Nat → Int} {n v g : Nat} (h1 : v < g) (h2 : g ≤ endN d n v) :
    kidsN d n v = (List.range' (v + 1) (g - (v + 1))).filter (fun j => decide (d j = d v + 1)) ++ (List.range' g (endN d n v - g)).filter (fun j => decide (d j = d v + 1)) := by
  unfold kidsN
  rw [← List.filter_append]
  congr 1
  have := List.range'_append (s := v + 1) (m := g - (v + 1)) (n := endN d n v - g) (step := 1)
  rw [Nat.one_mul, show v + 1 + (g - (v + 1)) = g by omega, show g - (v + 1) + (endN d n v - g) = endN d n v - (v + 1) by omega] at this
  exact this.symm
theorem kids_at {d : Nat → Int} {n v g : Nat} (h1 : v < g) (h2 : g < endN d n v) (h3 : d g = d v + 1) : (kidsN d n v)[cntK' d v g]? = some g := by
  have hc : cntK' d v g = ((List.range' (v + 1) (g - (v + 1))).filter (fun j => decide (d j = d v + 1))).length := rfl
  rw [kids_split h1 (Nat.le_of_lt h2), hc, List.getElem?_append_right (Nat.le_refl _), Nat.sub_self]
  obtain ⟨k, hk⟩ : ∃ k, endN d n v - g = k + 1 := ⟨endN d n v - g - 1, by omega⟩
  rw [hk, List.range'_succ, List.filter_cons, if_pos (by simp [h3])]
  rfl
theorem kids_len {d : Nat → Int} {n v : Nat} (h1 : v < endN d n v) : (kidsN d n v).length = cntK' d v (endN d n v) := by
  rw [kids_split h1 (Nat.le_refl _), Nat.sub_self]
  simp [cntK']
theorem kids_idx {d : Nat → Int} {n v g k : Nat} (hv : v < n) (h : (kidsN d n v)[k]? = some g) : k = cntK' d v g := by
  have hm := (mem_kids hv).1 (List.mem_of_getElem? h)
  have h2 := kids_at hm.1 hm.2.1 hm.2.2
  obtain ⟨l1, e1⟩ := List.getElem?_eq_some_iff.1 h
  obtain ⟨l2, e2⟩ := List.getElem?_eq_some_iff.1 h2
  have hs := List.pairwise_iff_getElem.1 (kids_sorted (d := d) (n := n) (i := v))
  rcases Nat.lt_trichotomy k (cntK' d v g) with h' | h' | h'
  · have := hs _ _ l1 l2 h'; omega
  · exact h'
  · have := hs _ _ l2 l1 h'; omega
theorem cntK_congr {d d' : Nat → Int} {v g : Nat} (h : ∀ j, v ≤ j → j < g → d j = d' j) (hv : v < g) : cntK' d v g = cntK' d' v g := by
  unfold cntK'
  rw [List.filter_congr (q := fun j => decide (d' j = d' v + 1))]
  intro j hj
  rw [List.mem_range'_1] at hj
  rw [h j (by omega) (by omega), h v (Nat.le_refl _) hv]
/-- What a gap is. -/
theorem gap_facts {L : List (List Value)} {par num : Int} {v k : Nat} (h : GapYes L par num v k) :
    v < gapAt L v k ∧ gapAt L v k ≤ endN (dp L) L.length v ∧ gapAt L v k ≤ L.length ∧ k = cntK' (dp L) v (gapAt L v k) ∧ (gapAt L v k = L.length ∨ dp L (gapAt L v k) ≤ dp L v + 1) ∧
      (∀ j, v < j → j < gapAt L v k → dp L v < dp L j) := by
  obtain ⟨_, hv, _, _, hk⟩ := h
  obtain ⟨b1, b2, b3⟩ := gapAt_bounds (k := k) hv
  have e1 := endN_gt (d := dp L) hv
  refine ⟨b1, b2, b3, ?_, ?_, fun j h1 h2 => endN_in (n := L.length) h1 (by omega)⟩
  · unfold gapAt
    cases hh : (kidsN (dp L) L.length v)[k]? with
    | none =>
      have := List.getElem?_eq_none_iff.1 hh
      have h2 := kids_len e1
      simp only [Option.getD_none]
      omega
    | some j => exact kids_idx hv hh
  · unfold gapAt
    cases hh : (kidsN (dp L) L.length v)[k]? with
    | none =>
      simp only [Option.getD_none]
      rcases endN_out (d := dp L) hv with h | h
      · exact .inl h
      · right; omega
    | some j =>
      have := (mem_kids hv).1 (List.mem_of_getElem? hh)
      right
      simp only [Option.getD_some]
      omega
/-- A block put in where nothing deeper follows: whose kid a place is stays. -/
def posP (g m j : Nat) : Nat := if j < g then j else j + m
structure Fits_ (L T : List (List Value)) (g : Nat) (deep : Int) : Prop where
  steps : Steps (dp L) L.length
  le : g ≤ L.length
  out : g = L.length ∨ dp L g ≤ deep
  inn : ∀ i, i < T.length → deep ≤ dp T i
theorem nd_pos {L T : List (List Value)} {g : Nat} (hg : g ≤ L.length) (j : Nat) : nd (putAt L g T) (posP g T.length j) = nd L j := by
  unfold posP
  split
  · exact nd_put_lo hg (by assumption)
  · exact nd_put_hi hg (by omega)
theorem pos_parent {L T : List (List Value)} {g : Nat} {deep : Int} (h : Fits_ L T g deep) {j : Nat} (hj : j < L.length) :
    (parentN (dp L) j = -1 ∧ parentN (dp (putAt L g T)) (posP g T.length j) = -1) ∨ ∃ p : Nat, p < j ∧ parentN (dp L) j = p ∧ parentN (dp (putAt L g T)) (posP g T.length j) = (posP g T.length p : Nat) := by
  have hlo := fun i (hi : i < g) => dp_put_lo (T := T) h.le hi
  have hmid := fun i (hi : i < T.length) => dp_put_mid (T := T) h.le hi
  have hhi := fun i (hi : g ≤ i) => dp_put_hi (T := T) h.le hi
  have hdj : dp (putAt L g T) (posP g T.length j) = dp L j := by unfold dp; rw [nd_pos h.le]
  rcases upFrom_spec (dp L) (dp L j - 1) j with ⟨h1, h2⟩ | ⟨p, h1, h2, h3, h4⟩
  · refine .inl ⟨h1, ?_⟩
    unfold parentN
    rw [hdj]
    rcases upFrom_spec (dp (putAt L g T)) (dp L j - 1) (posP g T.length j) with ⟨g1, _⟩ | ⟨q, g1, g2, g3, _⟩
    · exact g1
    · exfalso
      have hq1 : (j < g ∧ q < j) ∨ (g ≤ j ∧ q < j + T.length) := by
        unfold posP at g2
        split at g2 <;> omega
      rcases Nat.lt_or_ge q g with hq | hq
      · rw [hlo q hq] at g3
        refine h2 q ?_ g3
        omega
      · have g2' : g ≤ j ∧ q < j + T.length := by omega
        rcases Nat.lt_or_ge q (g + T.length) with hq2 | hq2
        · have e := hmid (q - g) (by omega)
          rw [show g + (q - g) = q by omega, g3] at e
          have e2 := h.inn (q - g) (by omega)
          have hjd : dp L j ≤ deep := by
            rcases h.out with ho | ho
            · omega
            · rcases Nat.lt_or_ge g j with hgj | hgj
              · rcases Int.lt_or_le (dp L j - 1) (dp L g) with h5 | h5
                · omega
                · obtain ⟨m, m1, m2, m3⟩ := steps_pass h.steps (a := dp L j - 1) (j - g) g (by omega) h5 (by rw [show g + (j - g) = j by omega]; omega)
                  exact absurd m3 (h2 m (by omega))
              · have : j = g := by omega
                rw [this]; exact ho
          omega
        · have e := hhi (q - T.length) (by omega)
          rw [show q - T.length + T.length = q by omega, g3] at e
          exact h2 (q - T.length) (by omega) e.symm
  · refine .inr ⟨p, h2, h1, ?_⟩
    unfold parentN
    rw [hdj]
    refine upFrom_uniq ?_ ?_ ?_
    · unfold posP
      split <;> split <;> omega
    · have : dp (putAt L g T) (posP g T.length p) = dp L p := by unfold dp; rw [nd_pos h.le]
      rw [this]; exact h3
    · intro q q1 q2 q3
      have hq1 : (p < g ∧ p < q) ∨ (g ≤ p ∧ p + T.length < q) := by
        unfold posP at q1
        split at q1 <;> omega
      have hq2 : (j < g ∧ q < j) ∨ (g ≤ j ∧ q < j + T.length) := by
        unfold posP at q2
        split at q2 <;> omega
      clear q1 q2
      rcases Nat.lt_or_ge q g with hq | hq
      · rw [hlo q hq] at q3
        exact h4 q (by omega) (by omega) q3
      · rcases Nat.lt_or_ge q (g + T.length) with hq3 | hq3
        · have e := hmid (q - g) (by omega)
          rw [show g + (q - g) = q by omega, q3] at e
          have e2 := h.inn (q - g) (by omega)
          have hjd : dp L j ≤ deep := by
            rcases h.out with ho | ho
            · omega
            · rcases Nat.lt_or_ge g j with hgj | hgj
              · rcases Int.lt_or_le (dp L j - 1) (dp L g) with h5 | h5
                · omega
                · obtain ⟨m, m1, m2, m3⟩ := steps_pass h.steps (a := dp L j - 1) (j - g) g (by omega) h5 (by rw [show g + (j - g) = j by omega]; omega)
                  exact absurd m3 (h4 m (by omega) (by omega))
              · have : j = g := by omega
                rw [this]; exact ho
          omega
        · have e := hhi (q - T.length) (by omega)
          rw [show q - T.length + T.length = q by omega, q3] at e
          exact h4 (q - T.length) (by omega) (by omega) e.symm
end Go.Proofs.Ytjnbfgogmhfbiaa
/- The document's Find, End, less, Parent. -/
namespace Go.Proofs.Ytjnbfgogmhfbiaa
open Go Go.RowKit
theorem less_any (a b : Int) (ha : -9223372036854775808 ≤ a ∧ a ≤ 9223372036854775807) (hb : -9223372036854775808 ≤ b ∧ b ≤ 9223372036854775807) (w : World) :
    Calls Try.prog 28 #[.int .i64 a, .int .i64 b] w fun e w' => e = .returned (.bool (decide (a + 1 = b))) ∧ w' = w := by
  by_cases h : a < b
  · have d0 : decide (a < b) = true := decide_eq_true h
    have hw : IntKind.i64.wrap (a + 1) = a + 1 := by rw [IntKind.wrap_i64]; omega
    go_enter Try.func28, Try.ntmps28
    go_wp2_with fail
    go_ret
    exact ⟨by simp [Bool.beq_eq_decide_eq], rfl⟩
  · have d0 : decide (a < b) = false := decide_eq_false h
    have h2 : decide (a + 1 = b) = false := decide_eq_false (by omega)
    go_enter Try.func28, Try.ntmps28
    go_wp2_with fail
    go_ret
    exact ⟨by simp [h2], rfl⟩
theorem dfind_any (A : Option Addr) (n c : Nat) (L : List (List Value)) (x key : Int) (w : World) (hN : NodesAt w w.heap.size A n L) :
    Calls Try.prog 12 #[.agg #[.slice A n c, .int .i64 x], .int .i64 key] w fun e w' => e = .returned (.int .i64 (findI L key)) ∧ w.grownBy w' none := by
  have hn := hN.few
  have hl := hN.len
  have hg0 := World.grownBy_alloc w (.cells #[.slice A n c, .int .i64 x] 24) none
  have b0 := Row.new w 24 #[.slice A n c, .int .i64 x]
  have c0 : (w.alloc (.cells #[.slice A n c, .int .i64 x] 24)).cell? ⟨w.heap.size, 0, none⟩ = some (.slice A n c) := b0.at 0
  have hN0 := Lib.hid (hN.grow hg0)
  have hg0' := Lib.hid hg0
  have hl' := Lib.hid hl
  clear hN b0 hg0 hl
  go_enter Try.func12, Try.ntmps12
  go_wp2_with fail
  generalize w.alloc (.cells #[.slice A n c, .int .i64 x] 24) = W0 at *
  go_loop [5] (fun i => ∃ j : Nat, j ≤ n ∧ i = .int .i64 (j : Int) ∧ Hid (∀ t, t < j → (keyN (nd L t) == key) = false)) (fun i => n - (intOf i).toNat)
  case atStart => exact ⟨0, by omega, rfl, Lib.hid fun t ht => absurd ht (by omega)⟩
  case round =>
    obtain ⟨j, hj, rfl, hno⟩ := hrel
    by_cases hlt : j < n
    · obtain ⟨ad, rfl, _⟩ := hN0.out.some_ hlt
      have z0 := hN0.out.key_ hlt
      have i1 : (0 : Int) ≤ (j : Int) := by omega
      have i2 : (j : Int) < (n : Int) := by omega
      cases hk : (keyN (nd L j) == key) with
      | true =>
        have hf := Lib.hid (findI_at (L := L) (key := key) (k := j) (by have := hl'.out; omega) hno.out hk)
        go_wp2_with fail
        go_ret
        exact ⟨by rw [hf.out]; rfl, hg0'.out⟩
      | false =>
        have hk' := Lib.hid (show ∀ t, t < j + 1 → (keyN (nd L t) == key) = false from fun t ht => by
          rcases Nat.lt_or_ge t j with h | h
          · exact hno.out t h
          · obtain rfl : t = j := by omega
            exact hk)
        go_wp2_with fail
        exact ⟨⟨j + 1, by omega, by go_num, hk'⟩, by simp [intOf]; omega⟩
    · obtain rfl : j = n := by omega
      have hf := Lib.hid (findI_no (L := L) (key := key) (fun t ht => hno.out t (by have := hl'.out; omega)))
      clear hno
      go_wp2_with fail
      go_ret
      exact ⟨by rw [hf.out]; rfl, hg0'.out⟩
theorem dend_no (A : Option Addr) (n c : Nat) (x t : Int) (w : World) (hn : n ≤ 1000) (ht : t < 0 ∨ (n : Int) ≤ t) :
    Calls Try.prog 18 #[.agg #[.slice A n c, .int .i64 x], .int .i64 t] w fun e w' => e = .returned (.int .i64 (-1)) ∧ w.grownBy w' none := by
  have hg0 := World.grownBy_alloc w (.cells #[.slice A n c, .int .i64 x] 24) none
  have c0 : (w.alloc (.cells #[.slice A n c, .int .i64 x] 24)).cell? ⟨w.heap.size, 0, none⟩ = some (.slice A n c) := (Row.new w 24 #[.slice A n c, .int .i64 x]).at 0
  by_cases h : t < 0
  · have d0 : decide (t < 0) = true := decide_eq_true h
    go_enter Try.func18, Try.ntmps18
    go_wp2_with fail
    go_ret
    exact ⟨rfl, hg0⟩
  · have d0 : decide (t < 0) = false := decide_eq_false h
    have d1 : decide ((n : Int) ≤ t) = true := decide_eq_true (by omega)
    clear ht h
    go_enter Try.func18, Try.ntmps18
    go_wp2_with fail
    go_ret
    exact ⟨rfl, hg0⟩
set_option maxHeartbeats 1000000 in
theorem dend_in (A : Option Addr) (n c : Nat) (x : Int) (t : Nat) (L : List (List Value)) (w : World) (hN : NodesAt w w.heap.size A n L) (ht : t < n) :
    Calls Try.prog 18 #[.agg #[.slice A n c, .int .i64 x], .int .i64 (t : Int)] w fun e w' => e = .returned (.int .i64 (endN (dp L) n t : Nat)) ∧ w.grownBy w' none := by
  have hn := hN.few
  have hg0 := World.grownBy_alloc w (.cells #[.slice A n c, .int .i64 x] 24) none
  have b0 := Row.new w 24 #[.slice A n c, .int .i64 x]
  have c0 : (w.alloc (.cells #[.slice A n c, .int .i64 x] 24)).cell? ⟨w.heap.size, 0, none⟩ = some (.slice A n c) := b0.at 0
  have hN0 := Lib.hid (hN.grow hg0)
  have HB := Lib.hid (fun W (hg : (w.alloc (.cells #[.slice A n c, .int .i64 x] 24)).grownBy W none) => show W.cell? ⟨w.heap.size, 0, none⟩ = some (.slice A n c) from (b0.kept0 hg).at 0)
  have hg0' := Lib.hid hg0
  clear hN b0 hg0
  have d0 : decide ((t : Int) < 0) = false := decide_eq_false (by omega)
  have d1 : decide ((n : Int) ≤ (t : Int)) = false := decide_eq_false (by omega)
  have hw : IntKind.i64.wrap ((t : Int) + 1) = (t : Int) + 1 := by rw [IntKind.wrap_i64]; omega
  have t1 : (0 : Int) ≤ (t : Int) := by omega
  have t2 : (t : Int) < (n : Int) := by omega
  go_enter Try.func18, Try.ntmps18
  go_wp2_with fail
  generalize w.alloc (.cells #[.slice A n c, .int .i64 x] 24) = W0 at *
  clear hw
  go_loopw [5] (fun i wr => ∃ j : Nat, t < j ∧ j ≤ n ∧ i = .int .i64 (j : Int) ∧ Hid (∀ m, t < m → m < j → dp L t < dp L m) ∧ W0.grownBy wr none) (fun i _ => n - (intOf i).toNat)
  case atStart => exact ⟨t + 1, by omega, by omega, by go_num, Lib.hid fun m h1 h2 => absurd h2 (by omega), World.grownBy.refl _ _⟩
  case round =>
    obtain ⟨j, hj0, hj, rfl, hin, hgr⟩ := hrel
    clear c0
    have c0 := HB.out _ hgr
    obtain ⟨wo, rfl⟩ : ∃ wo : World, wo = wr := ⟨_, rfl⟩
    by_cases hlt : j < n
    · have hN := hN0.out.grow hgr
      obtain ⟨ad, rfl, _⟩ := hN.some_ hlt
      have z0 := hN.dep_ hlt
      have z1 := hN.dep_ ht
      have d2 : decide ((j : Int) < (n : Int)) = true := decide_eq_true (by omega)
      have i1 : (0 : Int) ≤ (j : Int) := by omega
      have i2 : (j : Int) < (n : Int) := by omega
      clear hN
      by_cases hd : dp L t < dp L j
      · have d3 : decide (dp L t < dp L j) = true := decide_eq_true hd
        have hin' := Lib.hid (show ∀ m, t < m → m < j + 1 → dp L t < dp L m from fun m h1 h2 => by
          rcases Nat.lt_or_ge m j with h | h
          · exact hin.out m h1 h
          · obtain rfl : m = j := by omega
            exact hd)
        clear hd
        go_wp2_with fail
        go_quiet (fail)
        go_wp2_with fail
        exact ⟨⟨j + 1, by omega, by omega, by go_num, hin', grown_drewN hgr _⟩, by simp [intOf]; omega⟩
      · have d3 : decide (dp L t < dp L j) = false := decide_eq_false hd
        have hf := Lib.hid (endN_uniq (d := dp L) (n := n) ht hj0 hj hin.out (.inr (by omega)))
        clear hd
        go_wp2_with fail
        go_quiet (fail)
        go_wp2_with fail
        go_ret
        exact ⟨by rw [hf.out]; rfl, grown_trans hg0'.out (grown_drewN hgr _)⟩
    · have d2 : decide ((j : Int) < (n : Int)) = false := decide_eq_false (by omega)
      obtain rfl : j = n := by omega
      have hf := Lib.hid (endN_uniq (d := dp L) (n := j) ht hj0 (Nat.le_refl _) hin.out (.inl rfl))
      go_wp2_with fail
      go_quiet (fail)
      go_wp2_with fail
      go_ret
      exact ⟨by rw [hf.out]; rfl, grown_trans hg0'.out (grown_drewN hgr _)⟩
theorem dparent_no (A : Option Addr) (n c : Nat) (x t : Int) (w : World) (hn : n ≤ 1000) (ht : t < 0 ∨ (n : Int) ≤ t) :
    Calls Try.prog 16 #[.agg #[.slice A n c, .int .i64 x], .int .i64 t] w fun e w' => e = .returned (.int .i64 (-1)) ∧ w.grownBy w' none := by
  have hg0 := World.grownBy_alloc w (.cells #[.slice A n c, .int .i64 x] 24) none
  have c0 : (w.alloc (.cells #[.slice A n c, .int .i64 x] 24)).cell? ⟨w.heap.size, 0, none⟩ = some (.slice A n c) := (Row.new w 24 #[.slice A n c, .int .i64 x]).at 0
  by_cases h : t < 0
  · have d0 : decide (t < 0) = true := decide_eq_true h
    go_enter Try.func16, Try.ntmps16
    go_wp2_with fail
    go_ret
    exact ⟨rfl, hg0⟩
  · have d0 : decide (t < 0) = false := decide_eq_false h
    have d1 : decide ((n : Int) ≤ t) = true := decide_eq_true (by omega)
    clear ht h
    go_enter Try.func16, Try.ntmps16
    go_wp2_with fail
    go_ret
    exact ⟨rfl, hg0⟩
set_option maxHeartbeats 1000000 in
theorem dparent_in (A : Option Addr) (n c : Nat) (x : Int) (t : Nat) (L : List (List Value)) (w : World) (hN : NodesAt w w.heap.size A n L) (ht : t < n) :
    Calls Try.prog 16 #[.agg #[.slice A n c, .int .i64 x], .int .i64 (t : Int)] w fun e w' => e = .returned (.int .i64 (parentN (dp L) t)) ∧ w.grownBy w' none := by
  have hn := hN.few
  have hg0 := World.grownBy_alloc w (.cells #[.slice A n c, .int .i64 x] 24) none
  have b0 := Row.new w 24 #[.slice A n c, .int .i64 x]
  have c0 : (w.alloc (.cells #[.slice A n c, .int .i64 x] 24)).cell? ⟨w.heap.size, 0, none⟩ = some (.slice A n c) := b0.at 0
  have hN0 := Lib.hid (hN.grow hg0)
  have HB := Lib.hid (fun W (hg : (w.alloc (.cells #[.slice A n c, .int .i64 x] 24)).grownBy W none) => show W.cell? ⟨w.heap.size, 0, none⟩ = some (.slice A n c) from (b0.kept0 hg).at 0)
  have hg0' := Lib.hid hg0
  have hdb := Lib.hid (fun i (hi : i < n) => hN.dep_b hi)
  clear hN b0 hg0
  have d0 : decide ((t : Int) < 0) = false := decide_eq_false (by omega)
  have d1 : decide ((n : Int) ≤ (t : Int)) = false := decide_eq_false (by omega)
  have hw : IntKind.i64.wrap ((t : Int) - 1) = (t : Int) - 1 := by rw [IntKind.wrap_i64]; omega
  have t1 : (0 : Int) ≤ (t : Int) := by omega
  have t2 : (t : Int) < (n : Int) := by omega
  go_enter Try.func16, Try.ntmps16
  go_wp2_with fail
  generalize w.alloc (.cells #[.slice A n c, .int .i64 x] 24) = W0 at *
  clear hw
  go_loopw [5] (fun i wr => ∃ j : Nat, j ≤ t ∧ i = .int .i64 ((j : Int) - 1) ∧ Hid (∀ m, j ≤ m → m < t → dp L m ≠ dp L t - 1) ∧ W0.grownBy wr none) (fun i _ => (intOf i + 1).toNat)
  case atStart => exact ⟨t, by omega, rfl, Lib.hid fun m h1 h2 => absurd h2 (by omega), World.grownBy.refl _ _⟩
  case round =>
    obtain ⟨j, hj, rfl, hno, hgr⟩ := hrel
    clear c0
    have c0 := HB.out _ hgr
    obtain ⟨wo, rfl⟩ : ∃ wo : World, wo = wr := ⟨_, rfl⟩
    by_cases h0 : 0 < j
    · obtain ⟨i, rfl⟩ : ∃ i, j = i + 1 := ⟨j - 1, by omega⟩
      have hin : i < n := by omega
      have hN := hN0.out.grow hgr
      obtain ⟨ad, rfl, _⟩ := hN.some_ hin
      have z0 := hN.dep_ hin
      have z1 := hN.dep_ ht
      have hii : ((i + 1 : Nat) : Int) - 1 = (i : Int) := by omega
      have hb1 := Lib.hid (hdb.out i hin)
      have hb2 := Lib.hid (hdb.out t ht)
      have i1 : (0 : Int) ≤ (i : Int) := by omega
      have i2 : (i : Int) < (n : Int) := by omega
      rw [hii]
      have hii' := Lib.hid hii
      clear hN hii
      cases hd : decide (dp L i + 1 = dp L t) with
      | true =>
        have hf := Lib.hid (show parentN (dp L) t = (i : Int) from upFrom_uniq (by omega) (by have := of_decide_eq_true hd; omega) (fun m h1 h2 => hno.out m (by omega) h2))
        have CL := Lib.hid (fun W => less_any (dp L i) (dp L t) hb1.out hb2.out W)
        rw [hd] at CL
        clear hd
        go_wp2_with fail
        go_quiet (focus (go_at_call 28; exact Calls.quiet_of_same (CL.out _)))
        go_wp2_with fail
        go_ret
        exact ⟨by rw [hf.out]; rfl, grown_trans hg0'.out (grown_drewN hgr _)⟩
      | false =>
        have hno' := Lib.hid (show ∀ m, i ≤ m → m < t → dp L m ≠ dp L t - 1 from fun m h1 h2 => by
          rcases Nat.lt_or_ge i m with h | h
          · exact hno.out m (by omega) h2
          · obtain rfl : m = i := by omega
            have := of_decide_eq_false hd
            omega)
        have CL := Lib.hid (fun W => less_any (dp L i) (dp L t) hb1.out hb2.out W)
        rw [hd] at CL
        have hws : IntKind.i64.wrap ((i : Int) - 1) = (i : Int) - 1 := by rw [IntKind.wrap_i64]; omega
        clear hd
        go_wp2_with fail
        go_quiet (focus (go_at_call 28; exact Calls.quiet_of_same (CL.out _)))
        go_wp2_with fail
        exact ⟨⟨i, by omega, by go_num, hno', grown_drewN hgr _⟩, by simp [intOf]⟩
    · obtain rfl : j = 0 := by omega
      have hf := Lib.hid (show parentN (dp L) t = -1 from by
        rcases upFrom_spec (dp L) (dp L t - 1) t with ⟨h1, _⟩ | ⟨p, _, h2, h3, _⟩
        · exact h1
        · exact absurd h3 (hno.out p (by omega) h2))
      have d2 : decide ((0 : Int) ≤ ((0 : Nat) : Int) - 1) = false := by decide
      go_wp2_with fail
      go_ret
      exact ⟨by rw [hf.out]; rfl, grown_trans hg0'.out hgr⟩
end Go.Proofs.Ytjnbfgogmhfbiaa
/- The document's Kids; up, gone. -/
namespace Go.Proofs.Ytjnbfgogmhfbiaa
open Go Go.RowKit
theorem dkids_none (A : Option Addr) (n c : Nat) (x : Int) (w : World) (hn : n ≤ 1000) :
    Calls Try.prog 15 #[.agg #[.slice A n c, .int .i64 x], .int .i64 (-1)] w fun e w' => e = .returned (.slice none 0 0) ∧ w.grownBy w' none := by
  have hg0 := World.grownBy_alloc w (.cells #[.slice A n c, .int .i64 x] 24) none
  have b0 := Row.new w 24 #[.slice A n c, .int .i64 x]
  have c0 : (w.alloc (.cells #[.slice A n c, .int .i64 x] 24)).cell? ⟨w.heap.size, 0, none⟩ = some (.slice A n c) := b0.at 0
  have c1 : (w.alloc (.cells #[.slice A n c, .int .i64 x] 24)).cell? ⟨w.heap.size, 1, none⟩ = some (.int .i64 x) := b0.at 1
  have CE := Lib.hid (dend_no A n c x (-1) (w.alloc (.cells #[.slice A n c, .int .i64 x] 24)) hn (.inl (by omega)))
  clear b0
  go_enter Try.func15, Try.ntmps15
  go_wp2_with fail
  generalize w.alloc (.cells #[.slice A n c, .int .i64 x] 24) = W0 at *
  go_loopw [5, 6] (fun l i wr => l = .slice none 0 0 ∧ i = .int .i64 0 ∧ wr = W0) (fun _ _ _ => 0)
  case atStart => exact ⟨rfl, by go_num, rfl⟩
  case round =>
    obtain ⟨rfl, rfl, rfl⟩ := hrel
    go_wp2_with fail
    refine CE.out.mono ?_; rintro r w2 ⟨rfl, hg2⟩
    go_wp2_with fail
    go_ret
    exact ⟨rfl, grown_trans hg0 hg2⟩
set_option maxHeartbeats 1000000 in
theorem dkids_in (A : Option Addr) (n c : Nat) (x : Int) (t : Nat) (L : List (List Value)) (w : World) (hN : NodesAt w w.heap.size A n L) (ht : t < n) :
    Calls Try.prog 15 #[.agg #[.slice A n c, .int .i64 x], .int .i64 (t : Int)] w fun e w' => ∃ A' c', e = .returned (.slice A' (kidsN (dp L) n t).length c') ∧ Own w' w.heap.size 3 1 A' (kidsN (dp L) n t).length c' ((kidsN (dp L) n t).map intV) ∧ w.grownBy w' none := by
  have hn := hN.few
  have hg0 := World.grownBy_alloc w (.cells #[.slice A n c, .int .i64 x] 24) none
  have b0 := Row.new w 24 #[.slice A n c, .int .i64 x]
  have c0 : (w.alloc (.cells #[.slice A n c, .int .i64 x] 24)).cell? ⟨w.heap.size, 0, none⟩ = some (.slice A n c) := b0.at 0
  have c1 : (w.alloc (.cells #[.slice A n c, .int .i64 x] 24)).cell? ⟨w.heap.size, 1, none⟩ = some (.int .i64 x) := b0.at 1
  have hN0 := Lib.hid (hN.grow hg0)
  have HB := Lib.hid (fun W (hg : (w.alloc (.cells #[.slice A n c, .int .i64 x] 24)).grownBy W none) => show W.cell? ⟨w.heap.size, 0, none⟩ = some (.slice A n c) ∧ W.cell? ⟨w.heap.size, 1, none⟩ = some (.int .i64 x) from ⟨(b0.kept0 hg).at 0, (b0.kept0 hg).at 1⟩)
  have hg0' := Lib.hid hg0
  have hdb := Lib.hid (fun i (hi : i < n) => hN.dep_b hi)
  obtain ⟨e, he⟩ : ∃ e, e = endN (dp L) n t := ⟨_, rfl⟩
  have he1 : t < e := by rw [he]; exact endN_gt ht
  have he2 : e ≤ n := by rw [he]; exact endN_le ht
  have he' := Lib.hid he
  have hkn := Lib.hid (show kidsN (dp L) n t = kidsF L t (List.range' (t + 1) (e - (t + 1))) from by rw [he]; rfl)
  have hszb := hg0.size
  clear hN b0 hg0 he
  obtain ⟨i0, hi0, hz0, hz1, hz2⟩ := info_parts infoI
  have hw : IntKind.i64.wrap ((t : Int) + 1) = (t : Int) + 1 := by rw [IntKind.wrap_i64]; omega
  have t1 : (0 : Int) ≤ (t : Int) := by omega
  have t2 : (t : Int) < (n : Int) := by omega
  go_enter Try.func15, Try.ntmps15
  go_wp2_with fail
  generalize w.alloc (.cells #[.slice A n c, .int .i64 x] 24) = W0 at *
  clear hw
  go_loopw [5, 6] (fun l i wr => ∃ (j m : Nat) (A' : Option Addr) (c' : Nat), t < j ∧ j ≤ e ∧ i = .int .i64 (j : Int) ∧ l = .slice A' m c' ∧ Hid (m = (kidsF L t (List.range' (t + 1) (j - (t + 1)))).length ∧ Own wr W0.heap.size 3 1 A' m c' ((kidsF L t (List.range' (t + 1) (j - (t + 1)))).map intV) ∧ W0.grownBy wr none)) (fun _ i _ => n - (intOf i).toNat)
  case atStart => exact ⟨t + 1, 0, none, 0, by omega, by omega, by go_num, rfl, Lib.hid ⟨by simp [kidsF], by simp [kidsF]; exact Own.nil_ _ _ _ _ _, World.grownBy.refl _ _⟩⟩
  case round =>
    obtain ⟨j, m, A', c', hj0, hj, rfl, rfl, hst⟩ := hrel
    clear c0 c1
    obtain ⟨hm, hown, hgr⟩ := hst.out
    obtain ⟨c0, c1⟩ := HB.out _ hgr
    obtain ⟨wo, rfl⟩ : ∃ wo : World, wo = wr := ⟨_, rfl⟩
    have CE := Lib.hid (dend_in A n c x t L wo (hN0.out.grow hgr) ht)
    rw [← he'.out] at CE
    have hm2 : m ≤ n := by
      have h1 := List.length_filter_le (fun i => decide (dp L i = dp L t + 1)) (List.range' (t + 1) (j - (t + 1)))
      rw [List.length_range'] at h1
      unfold kidsF at hm
      omega
    clear hm hown hgr
    go_wp2_with fail
    refine CE.out.mono ?_; rintro r w2 ⟨rfl, hg2⟩
    have hgr := grown_trans hst.out.2.2 hg2
    have hown := Lib.hid (hst.out.2.1.grown0 hg2)
    have hm := Lib.hid hst.out.1
    clear c0 c1 CE hst
    obtain ⟨c0, c1⟩ := HB.out _ hgr
    by_cases hlt : j < e
    · have hjn : j < n := by omega
      have hN := hN0.out.grow hgr
      obtain ⟨ad, rfl, _⟩ := hN.some_ hjn
      have z0 := hN.dep_ hjn
      have z1 := hN.dep_ ht
      have i1 : (0 : Int) ≤ (j : Int) := by omega
      have i2 : (j : Int) < (n : Int) := by omega
      have CL := Lib.hid (fun W => less_any (dp L t) (dp L j) (hdb.out t ht) (hdb.out j hjn) W)
      have hsn := Lib.hid (show kidsF L t (List.range' (t + 1) (j + 1 - (t + 1))) = if dp L j = dp L t + 1 then kidsF L t (List.range' (t + 1) (j - (t + 1))) ++ [j] else kidsF L t (List.range' (t + 1) (j - (t + 1))) by rw [below_snoc t j (by omega), kidsF_snoc])
      clear hN hg2
      cases hd : decide (dp L t + 1 = dp L j) with
      | true =>
        have hdj := Lib.hid (show dp L j = dp L t + 1 from (of_decide_eq_true hd).symm)
        rw [hd] at CL
        clear hd
        go_wp2_with fail
        go_quiet (focus (go_at_call 28; exact Calls.quiet_of_same (CL.out _)))
        have hgr2 := grown_drewN hgr nq
        have hown2 := Lib.hid (hown.out.grown0 (grown_drewN (World.grownBy.refl w2 none) nq))
        clear c0 c1 z0 z1 hgr hown CL
        generalize w2.drewN nq = w3 at *
        go_wp2_with (at_builtin; refine wpList_append_Own rfl (.tmp 29) (.tmp 31) _ rfl W0.heap.size 3 i0 _ 1 8 Try.underlying43 hi0 hz0 hz1 hz2 rfl (by omega) A' m c' _ rfl (hown2.out.alloc _) (some ⟨w3.heap.size, 0, none⟩) 1 1 (w3.heap.size + 1) [.int .i64 (j : Int)] rfl rfl (Reads.one_ _ _ _) (by simp [Value.oneCell']) (by simp only [maxLen]; omega) (by omega) (by have := hgr2.size; simp; omega) ?_; intro A2 c2 w4 hown4 hg4 _)
        have hgA := World.grownBy_alloc w3 (.cells #[.int .i64 (j : Int)] 3) none
        have hge := grown_new (grown_trans hgr2 hgA) hg4 (fun g e => (hown2.out.row_ge g e).1)
        refine ⟨⟨j + 1, m + 1, A2, c2, by omega, by omega, by go_num, rfl, Lib.hid ⟨?_, ?_, hge⟩⟩, by simp [intOf]; omega⟩
        · rw [hsn.out, if_pos hdj.out, List.length_append, hm.out]
          rfl
        · rw [hsn.out, if_pos hdj.out, List.map_append]
          exact hown4
      | false =>
        have hdj := Lib.hid (show ¬ dp L j = dp L t + 1 from fun h => of_decide_eq_false hd h.symm)
        rw [hd] at CL
        clear hd
        go_wp2_with fail
        go_quiet (focus (go_at_call 28; exact Calls.quiet_of_same (CL.out _)))
        go_wp2_with fail
        refine ⟨⟨j + 1, m, A', c', by omega, by omega, by go_num, rfl, Lib.hid ⟨?_, ?_, grown_drewN hgr nq⟩⟩, by simp [intOf]; omega⟩
        · rw [hsn.out, if_neg hdj.out]
          exact hm.out
        · rw [hsn.out, if_neg hdj.out]
          exact hown.out.grown0 (grown_drewN (World.grownBy.refl w2 none) nq)
    · obtain rfl : j = e := by omega
      have d0 : decide ((j : Int) < (j : Int)) = false := by simp
      go_wp2_with fail
      go_ret
      refine ⟨A', c', ?_, ?_, grown_trans hg0'.out hgr⟩
      · rw [hkn.out, ← hm.out]
        rfl
      · rw [hkn.out, ← hm.out]
        exact hown.out.base_ hszb
/-- The key of a node's parent. -/
def upK (L : List (List Value)) (t : Nat) : Int := if parentN (dp L) t < 0 then 0 else keyN (nd L (parentN (dp L) t).toNat)
theorem up_any (A : Option Addr) (n c : Nat) (x : Int) (t : Nat) (L : List (List Value)) (w : World) (hN : NodesAt w w.heap.size A n L) (ht : t < n) :
    Calls Try.prog 14 #[.agg #[.slice A n c, .int .i64 x], .int .i64 (t : Int)] w fun e w' => e = .returned (.int .i64 (upK L t)) ∧ w.grownBy w' none := by
  have hn := hN.few
  have hg0 := World.grownBy_alloc w (.cells #[.slice A n c, .int .i64 x] 24) none
  have b0 := Row.new w 24 #[.slice A n c, .int .i64 x]
  have c0 : (w.alloc (.cells #[.slice A n c, .int .i64 x] 24)).cell? ⟨w.heap.size, 0, none⟩ = some (.slice A n c) := b0.at 0
  have c1 : (w.alloc (.cells #[.slice A n c, .int .i64 x] 24)).cell? ⟨w.heap.size, 1, none⟩ = some (.int .i64 x) := b0.at 1
  have hN0 := Lib.hid (hN.grow hg0)
  have HB := Lib.hid (fun W (hg : (w.alloc (.cells #[.slice A n c, .int .i64 x] 24)).grownBy W none) => show W.cell? ⟨w.heap.size, 0, none⟩ = some (.slice A n c) from (b0.kept0 hg).at 0)
  have hg0' := Lib.hid hg0
  have CP := Lib.hid (dparent_in A n c x t L _ hN0.out ht)
  have hlt := parent_lt (d := dp L) (j := t)
  have hge := parent_ge (d := dp L) (j := t)
  obtain ⟨p, hp⟩ : ∃ p, p = parentN (dp L) t := ⟨_, rfl⟩
  rw [← hp] at CP hlt hge
  have hup := Lib.hid (show upK L t = if p < 0 then 0 else keyN (nd L p.toNat) by unfold upK; rw [hp])
  clear hN b0 hg0 hp
  go_enter Try.func14, Try.ntmps14
  go_wp2_with fail
  generalize w.alloc (.cells #[.slice A n c, .int .i64 x] 24) = W0 at *
  refine CP.out.mono ?_; rintro r w2 ⟨rfl, hg2⟩
  clear c0 c1
  have c0 := HB.out _ hg2
  by_cases h0 : p < 0
  · have d0 : decide (p < 0) = true := decide_eq_true h0
    have hu := Lib.hid (show upK L t = 0 by rw [hup.out, if_pos h0])
    clear h0
    go_wp2_with fail
    go_ret
    exact ⟨by rw [hu.out]; rfl, grown_trans hg0'.out hg2⟩
  · have d0 : decide (p < 0) = false := decide_eq_false h0
    obtain ⟨q, rfl⟩ := Int.eq_ofNat_of_zero_le (show 0 ≤ p by omega)
    have hu := Lib.hid (show upK L t = keyN (nd L q) by rw [hup.out, if_neg h0]; rfl)
    have hqn : q < n := by omega
    have hN := hN0.out.grow hg2
    obtain ⟨ad, rfl, _⟩ := hN.some_ hqn
    have z0 := hN.key_ hqn
    have i1 : (0 : Int) ≤ (q : Int) := by omega
    have i2 : (q : Int) < (n : Int) := by omega
    clear h0 hN
    go_wp2_with fail
    go_ret
    exact ⟨by rw [hu.out]; rfl, grown_trans hg0'.out hg2⟩
/-- Is a place in the tree that goes? -/
def goneB (L : List (List Value)) (c : Chg) (t : Nat) : Bool := (decide (c.kd = 2) || decide (c.kd = 3)) && (decide (findI L c.key ≤ (t : Int)) && decide ((t : Int) < endN (dp L) L.length (findI L c.key).toNat))
theorem gone_any (A : Option Addr) (n k : Nat) (x : Int) (t : Nat) (L : List (List Value)) (c : Chg) (w : World) (hN : NodesAt w w.heap.size A n L) (hc : c.ok) (ht : t < n) (hk : c.kd = 2 ∨ c.kd = 3 → 0 ≤ findI L c.key) :
    Calls Try.prog 13 #[.agg #[.slice A n k, .int .i64 x], .agg c.cells, .int .i64 (t : Int)] w fun e w' => e = .returned (.bool (goneB L c t)) ∧ w.grownBy w' none := by
  have hn := hN.few
  have hl := hN.len
  obtain ⟨W0, hW0, bD, rC, hg0⟩ := boxes2 w (.slice A n k) x c
  have hN0 := Lib.hid (fun W (hg : W0.grownBy W none) => hN.grow (grown_trans hg0 hg))
  have CF := Lib.hid (dfind_any A n k L x c.key W0 (hN.grow hg0))
  obtain ⟨f, hf⟩ : ∃ f, f = findI L c.key := ⟨_, rfl⟩
  rw [← hf] at CF hk
  have hgo := Lib.hid (show goneB L c t = ((decide (c.kd = 2) || decide (c.kd = 3)) && (decide (f ≤ (t : Int)) && decide ((t : Int) < endN (dp L) n f.toNat))) by unfold goneB; rw [hf, hl])
  have hfu := Lib.hid (show 0 ≤ f → ∃ u : Nat, f = u ∧ u < n from fun h => by
    rw [hf] at h ⊢
    obtain ⟨u, h1, h2, _⟩ := findI_spec h
    exact ⟨u, h1, by omega⟩)
  have HB := Lib.hid (fun W (hg : W0.grownBy W none) => show (W.cell? ⟨w.heap.size, 0, none⟩ = some (.slice A n k) ∧ W.cell? ⟨w.heap.size, 1, none⟩ = some (.int .i64 x)) ∧ W.cell? ⟨w.heap.size + 1, 0, none⟩ = some (.int .u8 c.kd) ∧ W.cell? ⟨w.heap.size + 1, 1, none⟩ = some (.int .i64 c.key) from
    ⟨⟨(bD.kept hg (by simp)).c0, (bD.kept hg (by simp)).c1⟩, ((rC.kept0 hg).at 0).trans Chg.c0, ((rC.kept0 hg).at 1).trans Chg.c1⟩)
  have hW0' := Lib.hid hW0
  have hg0' := Lib.hid hg0
  have hkb := hc.kd
  have hr := World.grownBy.refl W0 none
  obtain ⟨⟨c0, c1⟩, e0, e1⟩ := HB.out _ hr
  clear hN hf hW0 bD rC hg0 hc hl
  generalize hcs : c.cells = cs at hW0'
  go_enter Try.func13, Try.ntmps13
  go_upto_region 1 with fail
  rw [hW0'.out]
  go_wp2_with fail
  refine CF.out.mono ?_; rintro r w2 ⟨rfl, hg2⟩
  clear c0 c1 e0 e1 hr
  obtain ⟨⟨c0, c1⟩, e0, e1⟩ := HB.out _ hg2
  by_cases h23 : c.kd = 2 ∨ c.kd = 3
  · obtain ⟨u, rfl, hun⟩ := hfu.out (hk h23)
    have CE := Lib.hid (dend_in A n k x u L w2 (hN0.out _ hg2) hun)
    have hgx := Lib.hid (show goneB L c t = (decide ((u : Int) ≤ (t : Int)) && decide ((t : Int) < endN (dp L) n u)) by
      rw [hgo.out]
      rcases h23 with h | h <;> rw [h] <;> rfl)
    clear hk hfu hgo
    have hstep : ∀ (hh : (c.kd == 2) = true ∨ ((c.kd == 2) = false ∧ (c.kd == 3) = true)), True := fun _ => trivial
    clear hstep
    by_cases hut : u ≤ t
    · have d0 : decide ((u : Int) ≤ (t : Int)) = true := decide_eq_true (by omega)
      rcases h23 with h | h
      · have b1 : (c.kd == 2) = true := by simp [h]
        clear h
        go_wp2_with fail
        refine CE.out.mono ?_; rintro r w3 ⟨rfl, hg3⟩
        go_wp2_with fail
        go_ret
        exact ⟨by rw [hgx.out, d0]; simp, grown_trans hg0'.out (grown_trans hg2 hg3)⟩
      · have b1 : (c.kd == 2) = false := by simp [h]
        have b2 : (c.kd == 3) = true := by simp [h]
        clear h
        go_wp2_with fail
        refine CE.out.mono ?_; rintro r w3 ⟨rfl, hg3⟩
        go_wp2_with fail
        go_ret
        exact ⟨by rw [hgx.out, d0]; simp, grown_trans hg0'.out (grown_trans hg2 hg3)⟩
    · have d0 : decide ((u : Int) ≤ (t : Int)) = false := decide_eq_false (by omega)
      rcases h23 with h | h
      · have b1 : (c.kd == 2) = true := by simp [h]
        clear h
        go_wp2_with fail
        go_ret
        exact ⟨by rw [hgx.out, d0]; simp, grown_trans hg0'.out hg2⟩
      · have b1 : (c.kd == 2) = false := by simp [h]
        have b2 : (c.kd == 3) = true := by simp [h]
        clear h
        go_wp2_with fail
        go_ret
        exact ⟨by rw [hgx.out, d0]; simp, grown_trans hg0'.out hg2⟩
  · have b1 : (c.kd == 2) = false := by simp; omega
    have b2 : (c.kd == 3) = false := by simp; omega
    have hgx := Lib.hid (show goneB L c t = false by
      rw [hgo.out, decide_eq_false (by omega), decide_eq_false (by omega)]
      rfl)
    clear h23 hk hfu hgo
    go_wp2_with fail
    go_ret
    exact ⟨by rw [hgx.out]; rfl, grown_trans hg0'.out hg2⟩
end Go.Proofs.Ytjnbfgogmhfbiaa
/- A tree cut out, put in: plain. -/
namespace Go.Proofs.Ytjnbfgogmhfbiaa
open Go Go.RowKit
theorem upK_pos {L T : List (List Value)} {g : Nat} {deep : Int} (h : Fits_ L T g deep) {j : Nat} (hj : j < L.length) : upK (putAt L g T) (posP g T.length j) = upK L j := by
  unfold upK
  rcases pos_parent h hj with ⟨h1, h2⟩ | ⟨p, hp, h1, h2⟩
  · rw [h1, h2]; rfl
  · rw [h1, h2, if_neg (by omega), if_neg (by omega), Int.toNat_natCast, Int.toNat_natCast, nd_pos h.le]
theorem cutL_inv {L T R : List (List Value)} {key : Int} (h : cutL L key = .ok (T, R)) : ∃ u : Nat, findI L key = u ∧ 0 < u ∧ u < L.length ∧ keyN (nd L u) = key ∧ T = (L.drop u).take (endN (dp L) L.length u - u) ∧ R = L.take u ++ L.drop (endN (dp L) L.length u) := by
  unfold cutL at h
  split at h
  · rename_i h0
    obtain ⟨u, hu, hul, hk⟩ := findI_spec (L := L) (key := key) (by omega)
    rw [hu] at h
    injection h with h
    injection h with h1 h2
    exact ⟨u, hu, by omega, hul, hk, h1.symm, h2.symm⟩
  · cases h
theorem gapE_inv {L : List (List Value)} {par num deep : Int} {g : Nat} (h : gapE L par num = .ok (g, deep)) : ∃ v k, GapYes L par num v k ∧ g = gapAt L v k ∧ deep = dp L v + 1 := by
  unfold gapE at h
  split at h
  · rename_i h0
    obtain ⟨v, hv, hvl, _⟩ := findI_spec (L := L) (key := par) h0
    rw [hv] at h
    dsimp only at h
    split at h
    · rename_i h1
      injection h with h
      injection h with h2 h3
      obtain ⟨k, rfl⟩ := Int.eq_ofNat_of_zero_le h1.2.1
      simp only [Int.toNat_natCast] at h2 h3 h1
      exact ⟨v, k, ⟨hv, hvl, h1.1, rfl, by omega⟩, h2.symm, h3.symm⟩
    · cases h
  · cases h
/-- A tree of a document, and what is left without it. -/
structure Cut (L T R : List (List Value)) (x : Int) (u m : Nat) : Prop where
  u0 : 0 < u
  un : u + m ≤ L.length
  m0 : 0 < m
  end_ : endN (dp L) L.length u = u + m
  tlen : T.length = m
  rlen : R.length = L.length - m
  back : putAt R u T = L
  tnd : ∀ i, i < m → nd T i = nd L (u + i)
  rlo : ∀ j, j < u → nd R j = nd L j
  rhi : ∀ j, u ≤ j → nd R j = nd L (j + m)
  shape : Shape R x
  fits : Fits_ R T u (dp L u)
theorem cut_of {L : List (List Value)} {x : Int} (h : Shape L x) {u : Nat} (h0 : 0 < u) (hu : u < L.length) :
    Cut L ((L.drop u).take (endN (dp L) L.length u - u)) (L.take u ++ L.drop (endN (dp L) L.length u)) x u (endN (dp L) L.length u - u) := by
  have e1 := endN_gt (d := dp L) hu
  have e2 := endN_le (d := dp L) hu
  have hS := h.less h0 hu
  obtain ⟨e, he⟩ : ∃ e, e = endN (dp L) L.length u := ⟨_, rfl⟩
  have hout := endN_out (d := dp L) hu
  have hinn := fun j (h1 : u < j) (h2 : j < e) => endN_in (d := dp L) (n := L.length) h1 (by rw [← he]; exact h2)
  rw [← he] at e1 e2 hS hout ⊢
  have tl : ((L.drop u).take (e - u)).length = e - u := by simp; omega
  have rl : (L.take u ++ L.drop e).length = L.length - (e - u) := by simp; omega
  have tn : ∀ i, i < e - u → nd ((L.drop u).take (e - u)) i = nd L (u + i) := fun i hi => by
    unfold nd
    rw [List.getElem?_take, if_pos hi, List.getElem?_drop]
  have lo : ∀ j, j < u → nd (L.take u ++ L.drop e) j = nd L j := fun j hj => by rw [nd_less L u e j (by omega), if_pos hj]
  have hi : ∀ j, u ≤ j → nd (L.take u ++ L.drop e) j = nd L (j + (e - u)) := fun j hj => by
    rw [nd_less L u e j (by omega), if_neg (by omega)]
    congr 1
    omega
  refine ⟨h0, by omega, by omega, by omega, tl, rl, ?_, tn, lo, hi, hS, ⟨hS.steps, by omega, ?_, ?_⟩⟩
  · unfold putAt
    have h1 : (L.take u ++ L.drop e).take u = L.take u := by rw [List.take_left' (by simp; omega)]
    have h2 : (L.take u ++ L.drop e).drop u = L.drop e := by rw [List.drop_left' (by simp; omega)]
    rw [h1, h2, List.append_assoc]
    have h3 : (L.drop u).take (e - u) ++ L.drop e = L.drop u := by
      have := List.take_append_drop (e - u) (L.drop u)
      rw [List.drop_drop, show u + (e - u) = e by omega] at this
      exact this
    rw [h3, List.take_append_drop]
  · rcases hout with h1 | h1
    · left; omega
    · right
      unfold dp
      rw [hi u (Nat.le_refl _), show u + (e - u) = e by omega]
      exact h1
  · intro i hi
    rw [tl] at hi
    unfold dp
    rw [tn i hi]
    rcases Nat.eq_zero_or_pos i with h1 | h1
    · rw [h1]; exact Int.le_refl _
    · exact Int.le_of_lt (hinn (u + i) (by omega) (by omega))
theorem deepen_dep {y : List Value} (hy : OkAll nodeLs y) (d : Int) : depN (deepen d y) = depN y + d := by
  have := hy.len
  rw [nodeLs_len] at this
  unfold depN intAt deepen
  rw [List.getElem?_set_self (by omega)]
  rfl
theorem deepen_key (y : List Value) (d : Int) : keyN (deepen d y) = keyN y := by
  unfold keyN intAt deepen
  rw [List.getElem?_set_ne (by omega)]
theorem deepen_back {y : List Value} (hy : OkAll nodeLs y) (d : Int) : deepen (-d) (deepen d y) = y := by
  have h1 := deepen_dep hy d
  have h2 := (n_dep hy).1
  have h3 := hy.len
  rw [nodeLs_len] at h3
  unfold deepen at h1 ⊢
  rw [h1, List.set_set, show depN y + d + -d = depN y by omega]
  apply List.ext_getElem?
  intro t
  rw [List.getElem?_set]
  by_cases ht : 1 = t
  · subst ht
    rw [if_pos rfl, if_pos (by omega), h2]
  · rw [if_neg ht]
theorem map_nd {T : List (List Value)} {f : List Value → List Value} {i : Nat} (h : i < T.length) : nd (T.map f) i = f (nd T i) := by
  unfold nd
  rw [List.getElem?_map, List.getElem?_eq_getElem h]
  rfl
/-- What comes of a move. -/
structure Moved (L L' : List (List Value)) (x : Int) (key par num : Int) (u m g v k : Nat) (T R : List (List Value)) : Prop where
  cut : Cut L T R x u m
  fu : findI L key = u
  gap : GapYes R par num v k
  ge : g = gapAt R v k
  out : L' = putAt R g (T.map (deepen (dp R v + 1 - dp L u)))
  fits : Fits_ R (T.map (deepen (dp R v + 1 - dp L u))) g (dp R v + 1)
  len : L'.length = L.length
  tok : ∀ y ∈ T, OkAll nodeLs y
theorem moved_of {L L' : List (List Value)} {x x' : Int} {key par num : Int} (hL : ∀ y ∈ L, OkAll nodeLs y) (hS : Shape L x) (h : moveL L x key par num = .ok (L', x')) : ∃ u m g v k T R, Moved L L' x key par num u m g v k T R := by
  unfold moveL at h
  split at h
  · cases h
  · rename_i T R hcut
    split at h
    · cases h
    · rename_i g deep hgap
      injection h with h
      injection h with h1 h2
      obtain ⟨u, hu, h0, hul, hk, hT, hR⟩ := cutL_inv hcut
      obtain ⟨v, k, hy, hg, hd⟩ := gapE_inv hgap
      have hc := cut_of hS h0 hul
      rw [← hT, ← hR] at hc
      obtain ⟨m, hm⟩ : ∃ m, m = endN (dp L) L.length u - u := ⟨_, rfl⟩
      rw [← hm] at hc
      have hT0 : dp T 0 = dp L u := by unfold dp; rw [hc.tnd 0 hc.m0]; rfl
      have htok : ∀ y ∈ T, OkAll nodeLs y := fun y hy => hL y ((cutL_mem hcut).1 y hy)
      obtain ⟨f1, f2, f3, f4, f5, f6⟩ := gap_facts hy
      rw [← hg] at f1 f2 f3 f4 f5 f6
      rw [hT0, hd] at h1
      refine ⟨u, m, g, v, k, T, R, hc, hu, hy, hg, h1.symm, ⟨hc.shape.steps, f3, f5, fun i hi => ?_⟩, ?_, htok⟩
      · rw [List.length_map] at hi
        unfold dp
        rw [map_nd hi, deepen_dep (nd_ok_ htok hi)]
        have h3 := hc.fits.inn i hi
        unfold dp at h3
        omega
      · rw [← h1, put_len f3, List.length_map, hc.tlen, hc.rlen]
        have := hc.un
        omega
theorem Moved.tlen {L L' T R : List (List Value)} {x key par num : Int} {u m g v k : Nat} (h : Moved L L' x key par num u m g v k T R) (d : Int) : (T.map (deepen d)).length = m := by rw [List.length_map, h.cut.tlen]
section
variable {L L' T R : List (List Value)} {x key par num : Int} {u m g v k : Nat} (h : Moved L L' x key par num u m g v k T R)
include h
theorem Moved.gb : v < g ∧ g ≤ R.length ∧ g + m ≤ L.length := by
  obtain ⟨f1, f2, f3, f4, f5, f6⟩ := gap_facts h.gap
  rw [← h.ge] at f1 f2 f3 f4 f5 f6
  have := h.cut.rlen
  have := h.cut.un
  omega
theorem Moved.nd_mid {i : Nat} (hi : i < m) : nd L' (g + i) = deepen (dp R v + 1 - dp L u) (nd L (u + i)) := by
  rw [h.out, nd_put_mid h.gb.2.1 (by rw [h.tlen]; exact hi), map_nd (by rw [h.cut.tlen]; exact hi), h.cut.tnd i hi]
theorem Moved.nd_lo {j : Nat} (hj : j < g) : nd L' j = nd R j := by rw [h.out, nd_put_lo h.gb.2.1 hj]
theorem Moved.nd_hi {j : Nat} (hj : g ≤ j) : nd L' (j + m) = nd R j := by
  have := nd_put_hi (T := T.map (deepen (dp R v + 1 - dp L u))) h.gb.2.1 hj
  rw [h.tlen] at this
  rw [h.out, this]
theorem Moved.dp_mid {i : Nat} (hi : i < m) : dp L' (g + i) = dp L (u + i) + (dp R v + 1 - dp L u) := by
  unfold dp
  rw [h.nd_mid hi, deepen_dep]
  · rfl
  · rw [← h.cut.tnd i hi]
    exact nd_ok_ h.tok (by rw [h.cut.tlen]; exact hi)
theorem Moved.dp_lo {j : Nat} (hj : j < g) : dp L' j = dp R j := by unfold dp; rw [h.nd_lo hj]
theorem Moved.dp_hi {j : Nat} (hj : g ≤ j) : dp L' (j + m) = dp R j := by unfold dp; rw [h.nd_hi hj]
theorem Moved.dp_g : dp L' g = dp R v + 1 := by
  have := h.dp_mid h.cut.m0
  rw [Nat.add_zero, Nat.add_zero] at this
  omega
theorem Moved.end_ : endN (dp L') L'.length g = g + m := by
  have gb := h.gb
  have m0 := h.cut.m0
  rw [h.len]
  refine endN_uniq (by omega) (by omega) gb.2.2 (fun j h1 h2 => ?_) ?_
  · obtain ⟨i, rfl⟩ : ∃ i, j = g + i := ⟨j - g, by omega⟩
    rw [h.dp_g, h.dp_mid (by omega)]
    have := endN_in (d := dp L) (n := L.length) (i := u) (j := u + i) (by omega) (by rw [h.cut.end_]; omega)
    omega
  · obtain ⟨f1, f2, f3, f4, f5, f6⟩ := gap_facts h.gap
    rw [← h.ge] at f5
    rcases f5 with f5 | f5
    · left
      have := h.cut.rlen
      have := h.cut.un
      omega
    · right
      rw [h.dp_g, h.dp_hi (Nat.le_refl _)]
      exact f5
theorem Moved.parent : parentN (dp L') g = v := by
  obtain ⟨f1, f2, f3, f4, f5, f6⟩ := gap_facts h.gap
  rw [← h.ge] at f1 f2 f3 f4 f5 f6
  unfold parentN
  rw [h.dp_g]
  refine upFrom_uniq f1 (by rw [h.dp_lo f1]; omega) fun j h1 h2 => ?_
  rw [h.dp_lo h2]
  have := f6 j h1 h2
  omega
theorem Moved.up : upK L' g = par := by
  obtain ⟨f1, _⟩ := h.gb
  unfold upK
  rw [h.parent, if_neg (by omega), Int.toNat_natCast, h.nd_lo f1]
  obtain ⟨hv, hvl, _⟩ := h.gap
  obtain ⟨v', hv', _, hk⟩ := findI_spec (L := R) (key := par) (by omega)
  have : v = v' := by omega
  rw [this]
  exact hk
theorem Moved.kid : (kidsN (dp L') L'.length v)[k]? = some g := by
  have gb := h.gb
  have m0 := h.cut.m0
  obtain ⟨f1, f2, f3, f4, f5, f6⟩ := gap_facts h.gap
  rw [← h.ge] at f1 f2 f3 f4 f5 f6
  have hc : cntK' (dp R) v g = cntK' (dp L') v g := cntK_congr (fun j h1 h2 => (h.dp_lo h2).symm) f1
  rw [f4, hc]
  have hvn : v < L'.length := by rw [h.len]; omega
  refine kids_at f1 ?_ (by rw [h.dp_g, h.dp_lo f1])
  -- the parent's tree goes beyond
  rcases Nat.lt_or_ge g (endN (dp L') L'.length v) with h1 | h1
  · exact h1
  · exfalso
    have e1 := endN_gt (d := dp L') hvn
    rcases endN_out (d := dp L') hvn with e2 | e2
    · rw [h.len] at e2 h1
      omega
    · rcases Nat.eq_or_lt_of_le h1 with h3 | h3
      · rw [h3, h.dp_g, h.dp_lo f1] at e2
        omega
      · rw [h.dp_lo h3, h.dp_lo f1] at e2
        have := f6 _ e1 h3
        omega
theorem Moved.find (hS : Shape L' x) : findI L' key = g := by
  have gb := h.gb
  have m0 := h.cut.m0
  have h1 : keyN (nd L' g) = key := by
    have := h.nd_mid m0
    rw [Nat.add_zero, Nat.add_zero] at this
    rw [this, deepen_key]
    obtain ⟨u', hu', _, hk⟩ := findI_spec (L := L) (key := key) (by have := h.fu; omega)
    have : u = u' := by have := h.fu; omega
    rw [this]
    exact hk
  have := find_key hS (i := g) (by rw [h.len]; omega)
  rw [h1] at this
  exact this
end
end Go.Proofs.Ytjnbfgogmhfbiaa
/- What is taken back leads back: plain. -/
namespace Go.Proofs.Ytjnbfgogmhfbiaa
open Go Go.RowKit
theorem put_back {L T : List (List Value)} {g : Nat} (hg : g ≤ L.length) : (putAt L g T).take g ++ (putAt L g T).drop (g + T.length) = L := by
  have h1 : (L.take g).length = g := by simp; omega
  unfold putAt
  rw [List.append_assoc, List.take_left' h1, ← List.append_assoc, List.drop_left' (by rw [List.length_append, h1]), List.take_append_drop]
theorem put_mid {L T : List (List Value)} {g : Nat} (hg : g ≤ L.length) : ((putAt L g T).drop g).take T.length = T := by
  have h1 : (L.take g).length = g := by simp; omega
  unfold putAt
  rw [List.append_assoc, List.drop_left' h1, List.take_left' rfl]
theorem mayL_next {L : List (List Value)} {x : Int} (h : MayL L x) (hx : x + 1 ≤ 1073741825) : MayL L (x + 1) := by
  obtain ⟨⟨h1, h2, h3, h4, h5, h6⟩, h7⟩ := h
  refine ⟨⟨h1, h2, hx, fun i hi => ?_, h5, h6⟩, h7⟩
  obtain ⟨g1, g2, g3, g4⟩ := h4 i hi
  exact ⟨⟨g1.1, by have := g1.2.1; omega, g1.2.2⟩, g2, g3, g4⟩
theorem flexGo_sty : ∀ (L : List (List Value)) (F : Nat → Int), flexGo F L = true → ∀ y ∈ L, kindN y = 0 → styB y = true
  | [], _, _, y, hy, _ => by simp at hy
  | a :: r, F, h, y, hy, hk => by
    unfold flexGo at h
    simp only [Bool.and_eq_true, Bool.not_eq_true'] at h
    rcases List.mem_cons.1 hy with rfl | hy
    · have h1 := h.1
      unfold flexBad at h1
      rw [hk] at h1
      simp only [decide_true, Bool.true_and, Bool.or_eq_false_iff, Bool.not_eq_false'] at h1
      exact h1.1
    · exact flexGo_sty r _ h.2 y hy hk
theorem boxOf_key (x d : Int) (y : List Value) : keyN (boxOf x d y) = x := rfl
theorem boxOf_dep (x d : Int) (y : List Value) : depN (boxOf x d y) = d := rfl
theorem boxOf_kind (x d : Int) (y : List Value) : kindN (boxOf x d y) = 0 := rfl
/-- What comes of an insertion. -/
theorem inserted_of {L L' : List (List Value)} {x x' : Int} {par num : Int} {y : List Value} (h : insertL L x par num y = .ok (L', x')) :
    ∃ v q z, GapYes L par num v q ∧ L' = putAt L (gapAt L v q) [z] ∧ x' = x + 1 ∧ keyN z = x ∧ depN z = dp L v + 1 ∧ kindN z = kindN y := by
  unfold insertL at h
  split at h
  · cases h
  · rename_i g deep hgap
    obtain ⟨v, q, hy, hg, hd⟩ := gapE_inv hgap
    split at h
    · rename_i hk
      split at h
      · cases h
        exact ⟨v, q, _, hy, by rw [hg], rfl, rfl, by rw [boxOf_dep, hd], by rw [boxOf_kind, hk]⟩
      · cases h
    · split at h
      · rename_i hk
        cases h
        exact ⟨v, q, _, hy, by rw [hg], rfl, rfl, by rw [show depN (textOf x deep y) = deep from rfl, hd], by rw [show kindN (textOf x deep y) = 1 from rfl, hk]⟩
      · cases h
structure Ins (L L' : List (List Value)) (x par num : Int) (g v q : Nat) (z : List Value) (kd : Int) : Prop where
  gap : GapYes L par num v q
  ge : g = gapAt L v q
  out : L' = putAt L g [z]
  key : keyN z = x
  dep : depN z = dp L v + 1
  kind : kindN z = kd
section
variable {L L' : List (List Value)} {x par num kd : Int} {g v q : Nat} {z : List Value} (h : Ins L L' x par num g v q z kd)
include h
theorem Ins.gb : v < g ∧ g ≤ L.length := by
  obtain ⟨f1, f2, f3, _⟩ := gap_facts h.gap
  rw [← h.ge] at f1 f3
  exact ⟨f1, f3⟩
theorem Ins.len : L'.length = L.length + 1 := by rw [h.out, put_len h.gb.2]; rfl
theorem Ins.mid : nd L' g = z := by
  rw [h.out]
  exact nd_put_mid (T := [z]) h.gb.2 (i := 0) (by simp)
theorem Ins.lo {j : Nat} (hj : j < g) : nd L' j = nd L j := by rw [h.out, nd_put_lo h.gb.2 hj]
theorem Ins.hi {j : Nat} (hj : g ≤ j) : nd L' (j + 1) = nd L j := by
  rw [h.out]
  exact nd_put_hi (T := [z]) h.gb.2 hj
theorem Ins.fits (hs : Steps (dp L) L.length) : Fits_ L [z] g (dp L v + 1) := by
  obtain ⟨f1, f2, f3, f4, f5, f6⟩ := gap_facts h.gap
  rw [← h.ge] at f3 f5
  refine ⟨hs, f3, f5, fun i hi => ?_⟩
  have : i = 0 := by simpa using hi
  subst this
  show dp L v + 1 ≤ depN z
  rw [h.dep]
  exact Int.le_refl _
theorem Ins.find {x' : Int} (hS : Shape L' x') : findI L' x = g := by
  have h1 := find_key hS (i := g) (by rw [h.len]; have := h.gb; omega)
  rw [h.mid, h.key] at h1
  exact h1
theorem Ins.end_ : endN (dp L') L'.length g = g + 1 := by
  obtain ⟨f1, f2, f3, f4, f5, f6⟩ := gap_facts h.gap
  rw [← h.ge] at f3 f5
  rw [h.len]
  refine endN_uniq (by omega) (by omega) (by omega) (fun j h1 h2 => absurd h2 (by omega)) ?_
  rcases f5 with f5 | f5
  · left; omega
  · right
    unfold dp
    rw [h.hi (Nat.le_refl _), h.mid, h.dep]
    exact f5
theorem Ins.up : upK L' g = par := by
  obtain ⟨f1, f2, f3, f4, f5, f6⟩ := gap_facts h.gap
  rw [← h.ge] at f1 f3 f5 f6
  have hg : dp L' g = dp L v + 1 := by unfold dp; rw [h.mid, h.dep]; rfl
  have hp : parentN (dp L') g = v := by
    unfold parentN
    rw [hg]
    refine upFrom_uniq f1 (by unfold dp; rw [h.lo f1]; omega) fun j h1 h2 => ?_
    have e1 : dp L' j = dp L j := by unfold dp; rw [h.lo h2]
    have := f6 j h1 h2
    omega
  unfold upK
  rw [hp, if_neg (by omega), Int.toNat_natCast, h.lo f1]
  obtain ⟨hv, hvl, _⟩ := h.gap
  obtain ⟨v', hv', _, hk⟩ := findI_spec (L := L) (key := par) (by omega)
  have : v = v' := by omega
  rw [this]
  exact hk
end
theorem ins_of {L L' : List (List Value)} {x x' : Int} {c : Chg} (hk : c.kd = 1) (h : opL L x c = .ok (L', x')) : ∃ g v q z, Ins L L' x c.par c.num g v q z (kindN c.y) ∧ x' = x + 1 := by
  unfold opL at h
  rw [if_pos hk] at h
  obtain ⟨v, q, z, h1, h2, h3, h4, h5, h6⟩ := inserted_of h
  exact ⟨gapAt L v q, v, q, z, ⟨h1, rfl, h2, h4, h5, h6⟩, h3⟩
theorem back_insert {L L' : List (List Value)} {x x' : Int} {c : Chg} (hM : MayL L x) (hM' : MayL L' x') (hk : c.kd = 1) (h : opL L x c = .ok (L', x')) : Applies L' x' ⟨2, x, 0, 0, zeroNode⟩ (.ok (L, x')) := by
  obtain ⟨g, v, q, z, hI, rfl⟩ := ins_of hk h
  have gb := hI.gb
  refine ⟨hM', by show (1 : Int) ≤ 2 ∧ (2 : Int) ≤ 5; omega, ?_, mayL_next hM hM'.1.2.2.1⟩
  have ho : opL L' (x + 1) ⟨2, x, 0, 0, zeroNode⟩ = removeL L' (x + 1) x := rfl
  rw [ho]
  unfold removeL
  rw [cutL_yes (hI.find hM'.1) (by omega) (hI.end_).symm]
  dsimp only
  have := put_back (T := [z]) gb.2
  rw [← hI.out] at this
  simp only [List.length_singleton] at this
  rw [this]
theorem move_op {L L' : List (List Value)} {x x' : Int} {c : Chg} (hk : c.kd = 3) (h : opL L x c = .ok (L', x')) : moveL L x c.key c.par c.num = .ok (L', x') := by
  unfold opL at h
  rw [if_neg (by omega), if_neg (by omega), if_pos hk] at h
  exact h
/-- A node's number among its parent's kids. -/
theorem parent_facts {L : List (List Value)} {x : Int} (hS : Shape L x) {u : Nat} (h0 : 0 < u) (hu : u < L.length) : ∃ p : Nat, parentN (dp L) u = p ∧ p < u ∧ dp L u = dp L p + 1 ∧ u < endN (dp L) L.length p ∧ (kidsN (dp L) L.length p)[cntK' (dp L) p u]? = some u ∧ kindN (nd L p) = 0 ∧ upK L u = keyN (nd L p) := by
  have hne : parentN (dp L) u ≠ -1 := fun e => by
    have := (parent_none hS.steps hu).1 e
    omega
  have hge := parent_ge (d := dp L) (j := u)
  have hlt := parent_lt (d := dp L) (j := u)
  obtain ⟨p, hp⟩ := Int.eq_ofNat_of_zero_le (show 0 ≤ parentN (dp L) u by omega)
  have hpu : p < u := by omega
  have hkid := (kid_parent hS.steps hu (show p < L.length by omega)).2 hp
  obtain ⟨k1, k2, k3⟩ := (mem_kids (show p < L.length by omega)).1 hkid
  refine ⟨p, hp, hpu, k3, k2, kids_at hpu k2 k3, hS.kid_box (by omega) (fun e => by rw [e] at hkid; simp at hkid), ?_⟩
  unfold upK
  rw [hp, if_neg (by omega), Int.toNat_natCast]
theorem back_move {L L' : List (List Value)} {x : Int} {key par num : Int} {u m g v k p : Nat} {T R : List (List Value)} (h : Moved L L' x key par num u m g v k T R) (hM : MayL L x) (hM' : MayL L' x) (hp : parentN (dp L) u = p) :
    Applies L' x ⟨3, key, upK L u, (cntK' (dp L) p u : Nat), zeroNode⟩ (.ok (L, x)) := by
  have hc := h.cut
  have hun := hc.un
  have hm0 := hc.m0
  have gb := h.gb
  obtain ⟨p', hp', hpu, hdu, hue, hkid, hbox, hup⟩ := parent_facts hM.1 hc.u0 (u := u) (by omega)
  have hpp : p' = p := by omega
  subst hpp
  refine ⟨hM', by show (1 : Int) ≤ 3 ∧ (3 : Int) ≤ 5; omega, ?_, hM⟩
  have ho : opL L' x ⟨3, key, upK L u, (cntK' (dp L) p' u : Nat), zeroNode⟩ = moveL L' x key (upK L u) (cntK' (dp L) p' u : Nat) := rfl
  rw [ho]
  obtain ⟨δ, hδ⟩ : ∃ δ, δ = dp R v + 1 - dp L u := ⟨_, rfl⟩
  have hout := h.out
  rw [← hδ] at hout
  have htl := h.tlen δ
  have hcut : cutL L' key = .ok (T.map (deepen δ), R) := by
    rw [cutL_yes (h.find hM'.1) (by omega) h.end_.symm]
    have h1 := put_mid (T := T.map (deepen δ)) gb.2.1
    have h2 := put_back (T := T.map (deepen δ)) gb.2.1
    rw [← hout, htl] at h1 h2
    rw [h2, show g + m - g = m by omega, h1]
  have hRl := hc.rlen
  -- the gap that was left
  have hpR : p' < R.length := by omega
  have hdR : dp R p' = dp L p' := by unfold dp; rw [hc.rlo p' hpu]
  have hcnt : cntK' (dp L) p' u = cntK' (dp R) p' u := cntK_congr (fun j h1 h2 => by unfold dp; rw [hc.rlo j h2]) hpu
  have hin : ∀ j, p' < j → j < u → dp R p' < dp R j := fun j h1 h2 => by
    have := endN_in (d := dp L) (n := L.length) h1 (by omega)
    unfold dp at this ⊢
    rw [hc.rlo j h2, hc.rlo p' hpu]
    exact this
  have hgapR : gapAt R p' (cntK' (dp R) p' u) = u ∧ cntK' (dp R) p' u ≤ (kidsN (dp R) R.length p').length := by
    by_cases hs : u < R.length ∧ dp R p' < dp R u
    · have hdu2 : dp R u = dp R p' + 1 := by
        have h1 : dp R u ≤ dp L u := by
          rcases hc.fits.out with h2 | h2
          · omega
          · exact h2
        omega
      have hue2 : u < endN (dp R) R.length p' := by
        rcases Nat.lt_or_ge u (endN (dp R) R.length p') with h1 | h1
        · exact h1
        · exfalso
          have e1 := endN_gt (d := dp R) hpR
          rcases endN_out (d := dp R) hpR with e2 | e2
          · omega
          · rcases Nat.eq_or_lt_of_le h1 with h3 | h3
            · rw [h3] at e2; omega
            · have := hin _ e1 h3
              omega
      have hk := kids_at hpu hue2 hdu2
      refine ⟨by unfold gapAt; rw [hk]; rfl, ?_⟩
      have := (List.getElem?_eq_some_iff.1 hk).1
      omega
    · have he : endN (dp R) R.length p' = u := by
        refine endN_uniq hpR hpu hc.fits.le hin ?_
        have := hc.fits.le
        by_cases h1 : u < R.length
        · right
          have : ¬ dp R p' < dp R u := fun h2 => hs ⟨h1, h2⟩
          omega
        · left; omega
      have hkl := kids_len (endN_gt (d := dp R) hpR)
      rw [he] at hkl
      refine ⟨?_, by omega⟩
      unfold gapAt
      rw [List.getElem?_eq_none (by omega), he]
      rfl
  have hfind : findI R (upK L u) = p' := by
    have := find_key hc.shape hpR
    rw [hc.rlo p' hpu, ← hup] at this
    exact this
  have hgy : GapYes R (upK L u) (cntK' (dp L) p' u : Nat) p' (cntK' (dp R) p' u) := ⟨hfind, hpR, by rw [hc.rlo p' hpu]; exact hbox, by rw [hcnt], hgapR.2⟩
  have hT0 : dp (T.map (deepen δ)) 0 = dp L u + δ := by
    unfold dp
    rw [map_nd (by rw [hc.tlen]; exact hm0), deepen_dep (nd_ok_ h.tok (by rw [hc.tlen]; exact hm0)), hc.tnd 0 hm0]
    rfl
  unfold moveL
  rw [hcut]
  dsimp only
  rw [gapE_yes hgy]
  dsimp only
  rw [hgapR.1, hdR, hT0, show dp L p' + 1 - (dp L u + δ) = -δ by omega, List.map_map]
  have hmap : T.map (deepen (-δ) ∘ deepen δ) = T := by
    have : T.map (deepen (-δ) ∘ deepen δ) = T.map id := List.map_congr_left (fun y hy => deepen_back (h.tok y hy) δ)
    rw [this, List.map_id]
  rw [hmap, hc.back]
/-- A node set. -/
structure SetN (L L' : List (List Value)) (key : Int) (u : Nat) (z : List Value) : Prop where
  fu : findI L key = u
  ul : u < L.length
  out : L' = L.set u z
  kz : keyN z = keyN (nd L u)
  dz : depN z = depN (nd L u)
  kdz : kindN z = kindN (nd L u)
  key : keyN (nd L u) = key
theorem nd3 {z : List Value} (hz : OkAll nodeLs z) {a : List Value} (j : Nat) (hj : j < 3) : (z.take 3 ++ a)[j]? = z[j]? := by
  have h1 := hz.len
  rw [nodeLs_len] at h1
  rw [List.getElem?_append_left (by simp; omega), List.getElem?_take, if_pos hj]
theorem withSty_three {z y : List Value} (hz : OkAll nodeLs z) : keyN (withSty z y) = keyN z ∧ depN (withSty z y) = depN z ∧ kindN (withSty z y) = kindN z := by
  unfold withSty keyN depN kindN intAt
  rw [List.append_assoc, nd3 hz 0 (by omega), nd3 hz 1 (by omega), nd3 hz 2 (by omega)]
  exact ⟨rfl, rfl, rfl⟩
theorem withText_three (z y : List Value) : keyN (withText z y) = keyN z ∧ depN (withText z y) = depN z ∧ kindN (withText z y) = kindN z := by
  unfold withText keyN depN kindN intAt
  rw [List.getElem?_set_ne (by omega), List.getElem?_set_ne (by omega), List.getElem?_set_ne (by omega)]
  exact ⟨rfl, rfl, rfl⟩
theorem styled_of {L L' : List (List Value)} {x x' : Int} {c : Chg} (hL : ∀ y ∈ L, OkAll nodeLs y) (hk : c.kd = 4) (h : opL L x c = .ok (L', x')) : ∃ u, SetN L L' c.key u (withSty (nd L u) c.y) ∧ kindN (nd L u) = 0 ∧ x' = x := by
  unfold opL at h
  rw [if_neg (by omega), if_neg (by omega), if_neg (by omega), if_pos hk] at h
  unfold styleL at h
  split at h
  · rename_i hf
    obtain ⟨u, hu, hul, hkey⟩ := findI_spec hf
    dsimp only at h
    rw [hu, Int.toNat_natCast] at h
    split at h
    · rename_i hk0
      split at h
      · cases h
        have h3 := withSty_three (y := c.y) (nd_ok_ hL hul)
        exact ⟨u, ⟨hu, hul, rfl, h3.1, h3.2.1, h3.2.2, hkey⟩, hk0, rfl⟩
      · cases h
    · cases h
  · cases h
theorem texted_of {L L' : List (List Value)} {x x' : Int} {c : Chg} (hk : 5 ≤ c.kd) (h : opL L x c = .ok (L', x')) : ∃ u, SetN L L' c.key u (withText (nd L u) c.y) ∧ kindN (nd L u) = 1 ∧ x' = x := by
  unfold opL at h
  rw [if_neg (by omega), if_neg (by omega), if_neg (by omega), if_neg (by omega)] at h
  unfold textL at h
  split at h
  · rename_i hf
    obtain ⟨u, hu, hul, hkey⟩ := findI_spec hf
    dsimp only at h
    rw [hu, Int.toNat_natCast] at h
    split at h
    · rename_i hk0
      cases h
      have h3 := withText_three (nd L u) c.y
      exact ⟨u, ⟨hu, hul, rfl, h3.1, h3.2.1, h3.2.2, hkey⟩, hk0, rfl⟩
    · cases h
  · cases h
section
variable {L L' : List (List Value)} {key : Int} {u : Nat} {z : List Value} (h : SetN L L' key u z)
include h
theorem SetN.len : L'.length = L.length := by rw [h.out, List.length_set]
theorem SetN.at : nd L' u = z := by rw [h.out, nd_set_same h.ul]
theorem SetN.other {j : Nat} (hj : j ≠ u) : nd L' j = nd L j := by rw [h.out, nd_set_other (Ne.symm hj)]
theorem SetN.find {x : Int} (hS : Shape L' x) : findI L' key = u := by
  have h1 := find_key hS (i := u) (by rw [h.len]; exact h.ul)
  rw [h.at, h.kz, h.key] at h1
  exact h1
theorem SetN.back : L'.set u (nd L u) = L := by
  rw [h.out, List.set_set]
  unfold nd
  rw [List.getElem?_eq_getElem h.ul]
  simp
end
theorem withSty_back {z y : List Value} (hz : OkAll nodeLs z) (hy : OkAll nodeLs y) : withSty (withSty z y) z = z := by
  have h1 := hz.len
  rw [nodeLs_len] at h1
  have h2 := styN_len hy
  have h3 : (withSty z y).take 3 = z.take 3 := by unfold withSty; rw [List.append_assoc, List.take_left' (by simp; omega)]
  have h4 : (withSty z y).drop 50 = z.drop 50 := by unfold withSty; rw [List.drop_left' (by rw [List.length_append, h2]; simp; omega)]
  show (withSty z y).take 3 ++ styN z ++ (withSty z y).drop 50 = z
  rw [h3, h4]
  unfold styN
  rw [List.append_assoc, show z.drop 50 = (z.drop 3).drop 47 by rw [List.drop_drop], List.take_append_drop, List.take_append_drop]
theorem withText_back {z y : List Value} (hz : OkAll nodeLs z) : withText (withText z y) z = z := by
  have h1 := hz.len
  rw [nodeLs_len] at h1
  obtain ⟨s, h2, _, _⟩ := okAll_text hz
  unfold withText
  rw [List.set_set, h2]
  apply List.ext_getElem?
  intro t
  rw [List.getElem?_set]
  by_cases ht : 50 = t
  · subst ht
    rw [if_pos rfl, if_pos (by omega), h2]
    rfl
  · rw [if_neg ht]
theorem back_style {L L' : List (List Value)} {x : Int} {c : Chg} {u : Nat} (hL : ∀ y ∈ L, OkAll nodeLs y) (hc : c.ok) (h : SetN L L' c.key u (withSty (nd L u) c.y)) (hk0 : kindN (nd L u) = 0) (hM : MayL L x) (hM' : MayL L' x) :
    Applies L' x ⟨4, c.key, 0, 0, nd L u⟩ (.ok (L, x)) := by
  refine ⟨hM', by show (1 : Int) ≤ 4 ∧ (4 : Int) ≤ 5; omega, ?_, hM⟩
  have ho : opL L' x ⟨4, c.key, 0, 0, nd L u⟩ = styleL L' x c.key (nd L u) := rfl
  have hf := h.find hM'.1
  have hsty := flexGo_sty L _ hM.2 (nd L u) (List.mem_of_getElem? (nd_get h.ul)) hk0
  rw [ho]
  unfold styleL
  rw [if_pos (by omega), hf, Int.toNat_natCast]
  dsimp only
  rw [h.at, if_pos (by rw [h.kdz]; exact hk0), if_pos hsty, withSty_back (nd_ok_ hL h.ul) hc.y, h.back]
theorem back_text {L L' : List (List Value)} {x : Int} {c : Chg} {u : Nat} (hL : ∀ y ∈ L, OkAll nodeLs y) (h : SetN L L' c.key u (withText (nd L u) c.y)) (hk1 : kindN (nd L u) = 1) (hM : MayL L x) (hM' : MayL L' x) :
    Applies L' x ⟨5, c.key, 0, 0, nd L u⟩ (.ok (L, x)) := by
  refine ⟨hM', by show (1 : Int) ≤ 5 ∧ (5 : Int) ≤ 5; omega, ?_, hM⟩
  have ho : opL L' x ⟨5, c.key, 0, 0, nd L u⟩ = textL L' x c.key (nd L u) := rfl
  have hf := h.find hM'.1
  rw [ho]
  unfold textL
  rw [if_pos (by omega), hf, Int.toNat_natCast]
  dsimp only
  rw [h.at, if_pos (by rw [h.kdz]; exact hk1), withText_back (nd_ok_ hL h.ul), h.back]
end Go.Proofs.Ytjnbfgogmhfbiaa
/- What a change leaves as it was: plain. -/
namespace Go.Proofs.Ytjnbfgogmhfbiaa
open Go Go.RowKit
structure Oth (L L' : List (List Value)) (c : Chg) (f cnt : Nat → Nat) : Prop where
  lt : ∀ i, i < L.length → goneB L c i = false → f i < L'.length
  key : ∀ i, i < L.length → goneB L c i = false → keyN (nd L' (f i)) = keyN (nd L i)
  mono : ∀ i j, i < j → j < L.length → goneB L c i = false → goneB L c j = false → f i < f j
  up : ∀ i, i < L.length → goneB L c i = false → upK L' (f i) = upK L i
  node : ∀ i, i < L.length → goneB L c i = false → ¬ ((c.kd = 4 ∨ c.kd = 5) ∧ keyN (nd L i) = c.key) → nd L' (f i) = nd L i
  three : ∀ i, i < L.length → goneB L c i = false → ((c.kd = 4 ∨ c.kd = 5) ∧ keyN (nd L i) = c.key) → (nd L' (f i)).take 3 = (nd L i).take 3
  dead : c.kd = 2 → ∀ i, i < L.length → goneB L c i = true → findI L' (keyN (nd L i)) < 0
  live : c.kd ≠ 2 → ∀ i, i < L.length → goneB L c i = true → 0 ≤ findI L' (keyN (nd L i))
  c0 : cnt 0 = 0
  cs : ∀ i, i < L.length → cnt (i + 1) = cnt i + (if goneB L c i = true ∧ c.kd = 2 then 0 else 1)
  ce : cnt L.length + (if c.kd = 1 then 1 else 0) = L'.length
theorem gone_not {L : List (List Value)} {c : Chg} (h : c.kd ≠ 2 ∧ c.kd ≠ 3) (i : Nat) : goneB L c i = false := by
  unfold goneB
  rw [decide_eq_false h.1, decide_eq_false h.2]
  rfl
theorem gone_iff {L : List (List Value)} {c : Chg} {u m : Nat} (h : c.kd = 2 ∨ c.kd = 3) (hf : findI L c.key = u) (he : endN (dp L) L.length u = u + m) (i : Nat) : goneB L c i = true ↔ u ≤ i ∧ i < u + m := by
  unfold goneB
  rw [hf, Int.toNat_natCast, he]
  simp only [Bool.and_eq_true, Bool.or_eq_true, decide_eq_true_eq]
  omega
def cutC (u m i : Nat) : Nat := if i ≤ u then i else if i < u + m then u else i - m
theorem cutC_in {u m i : Nat} (h : u ≤ i ∧ i < u + m) : cutC u m (i + 1) = cutC u m i + 0 := by
  unfold cutC
  repeat' split
  all_goals omega
theorem cutC_out {u m i : Nat} (h : ¬ (u ≤ i ∧ i < u + m)) : cutC u m (i + 1) = cutC u m i + 1 := by
  unfold cutC
  repeat' split
  all_goals omega
theorem cutC_end {u m n : Nat} (h : u + m ≤ n) (hm : 0 < m) : cutC u m n = n - m := by
  unfold cutC
  repeat' split
  all_goals omega
def unP (u m i : Nat) : Nat := if i < u then i else i - m
theorem pos_un {u m i : Nat} (h : ¬ (u ≤ i ∧ i < u + m)) : posP u m (unP u m i) = i := by
  unfold posP unP
  repeat' split
  all_goals omega
theorem posP_mono {u m i j : Nat} (h : i < j) : posP u m i < posP u m j := by
  unfold posP
  split <;> split <;> omega
theorem unP_mono {u m i j : Nat} (h : i < j) (hi : ¬ (u ≤ i ∧ i < u + m)) (hj : ¬ (u ≤ j ∧ j < u + m)) : unP u m i < unP u m j := by
  unfold unP
  split <;> split <;> omega
theorem oth_insert {L L' : List (List Value)} {x par num kd : Int} {g v q : Nat} {z : List Value} {c : Chg} (h : Ins L L' x par num g v q z kd) (hS : Shape L x) (hk : c.kd = 1) : Oth L L' c (posP g 1) id := by
  have hg := gone_not (L := L) (c := c) ⟨by omega, by omega⟩
  have gb := h.gb
  have hl := h.len
  have hn : ∀ i, i < L.length → nd L' (posP g 1 i) = nd L i := fun i _ => by
    have := nd_pos (T := [z]) gb.2 i
    rw [← h.out] at this
    exact this
  refine ⟨fun i hi _ => ?_, fun i hi _ => by rw [hn i hi], fun i j hij _ _ _ => posP_mono hij, fun i hi _ => ?_, fun i hi _ _ => hn i hi, fun i hi _ hh => by omega, fun h2 => by omega, fun _ i hi hh => (by rw [hg] at hh; cases hh), rfl, fun i hi => ?_, ?_⟩
  · unfold posP
    split <;> omega
  · have := upK_pos (h.fits hS.steps) hi
    rw [← h.out] at this
    exact this
  · rw [if_neg (by omega)]; rfl
  · rw [if_pos hk]
    exact hl.symm
theorem removed_of {L L' : List (List Value)} {x x' : Int} {key : Int} (hS : Shape L x) (h : removeL L x key = .ok (L', x')) : ∃ (u m : Nat) (T : List (List Value)), findI L key = u ∧ Cut L T L' x u m := by
  unfold removeL at h
  split at h
  · cases h
  · rename_i T R hcut
    injection h with h
    injection h with h1 h2
    obtain ⟨u, hu, h0, hul, hk, hT, hR⟩ := cutL_inv hcut
    have hc := cut_of hS h0 hul
    rw [← hT, ← hR] at hc
    subst h1
    exact ⟨u, _, T, hu, hc⟩
section
variable {L T R : List (List Value)} {x : Int} {u m : Nat} (h : Cut L T R x u m)
include h
theorem Cut.nd_un {i : Nat} (hi : ¬ (u ≤ i ∧ i < u + m)) : nd R (unP u m i) = nd L i := by
  have h1 := nd_pos (L := R) (T := T) h.fits.le (unP u m i)
  rw [h.back, h.tlen, pos_un hi] at h1
  exact h1.symm
theorem Cut.un_lt {i : Nat} (hl : i < L.length) (hi : ¬ (u ≤ i ∧ i < u + m)) : unP u m i < R.length := by
  have h1 := h.rlen
  have h2 := h.un
  unfold unP
  split <;> omega
theorem Cut.up_un {i : Nat} (hl : i < L.length) (hi : ¬ (u ≤ i ∧ i < u + m)) : upK R (unP u m i) = upK L i := by
  have h1 := upK_pos h.fits (h.un_lt hl hi)
  rw [h.back, h.tlen, pos_un hi] at h1
  exact h1.symm
end
theorem oth_remove {L R T : List (List Value)} {x : Int} {u m : Nat} {c : Chg} (h : Cut L T R x u m) (hS : Shape L x) (hf : findI L c.key = u) (hk : c.kd = 2) : Oth L R c (unP u m) (cutC u m) := by
  have hg := gone_iff (.inl hk) hf h.end_
  have hg' : ∀ i, goneB L c i = false → ¬ (u ≤ i ∧ i < u + m) := fun i hi hh => by
    rw [(hg i).2 hh] at hi
    cases hi
  have hun := h.un
  have hm := h.m0
  have hr := h.rlen
  refine ⟨fun i hi hh => h.un_lt hi (hg' i hh), fun i hi hh => by rw [h.nd_un (hg' i hh)], fun i j hij _ h1 h2 => unP_mono hij (hg' i h1) (hg' j h2), fun i hi hh => h.up_un hi (hg' i hh), fun i hi hh _ => h.nd_un (hg' i hh), fun i hi _ hh => by omega, fun _ i hi hh => ?_, fun h2 => absurd hk h2, by simp [cutC], fun i hi => ?_, ?_⟩
  · rw [find_none]
    · omega
    · intro j hj e
      have h1 : nd R j = nd L (posP u m j) := by
        have h1 := nd_pos (L := R) (T := T) h.fits.le j
        rw [h.back, h.tlen] at h1
        exact h1.symm
      have hp : posP u m j < L.length ∧ ¬ (u ≤ posP u m j ∧ posP u m j < u + m) := by
        unfold posP
        split <;> omega
      rw [h1] at e
      have h2 := find_key hS hp.1
      have h3 := find_key hS hi
      rw [e, h3] at h2
      have h4 := (hg i).1 hh
      omega
  · have h1 := hg i
    by_cases hh : goneB L c i = true
    · rw [if_pos ⟨hh, hk⟩]
      exact cutC_in (h1.1 hh)
    · rw [if_neg (fun e => hh e.1)]
      exact cutC_out (fun e => hh (h1.2 e))
  · rw [if_neg (by omega), cutC_end hun hm, hr]
    rfl
theorem oth_move {L L' : List (List Value)} {x par num : Int} {u m g v k : Nat} {T R : List (List Value)} {c : Chg} (h : Moved L L' x c.key par num u m g v k T R) (hL : ∀ y ∈ L, OkAll nodeLs y) (hS' : Shape L' x) (hk : c.kd = 3) : Oth L L' c (fun i => posP g m (unP u m i)) id := by
  have hc := h.cut
  have hg := gone_iff (.inr hk) h.fu hc.end_
  have hg' : ∀ i, goneB L c i = false → ¬ (u ≤ i ∧ i < u + m) := fun i hi hh => by
    rw [(hg i).2 hh] at hi
    cases hi
  have hun := hc.un
  have hm := hc.m0
  have hr := hc.rlen
  have gb := h.gb
  have hn : ∀ j, nd L' (posP g m j) = nd R j := fun j => by
    have h1 := nd_pos (L := R) (T := T.map (deepen (dp R v + 1 - dp L u))) gb.2.1 j
    rw [← h.out, h.tlen] at h1
    exact h1
  refine ⟨fun i hi hh => ?_, fun i hi hh => by rw [hn, hc.nd_un (hg' i hh)], fun i j hij _ h1 h2 => posP_mono (unP_mono hij (hg' i h1) (hg' j h2)), fun i hi hh => ?_, fun i hi hh _ => by rw [hn, hc.nd_un (hg' i hh)], fun i hi _ hh => by omega, fun h2 => by omega, fun _ i hi hh => ?_, rfl, fun i hi => ?_, ?_⟩
  · have := hc.un_lt hi (hg' i hh)
    rw [h.len]
    show posP g m (unP u m i) < _
    unfold posP
    split <;> omega
  · have h1 := upK_pos h.fits (hc.un_lt hi (hg' i hh))
    rw [← h.out, h.tlen, hc.up_un hi (hg' i hh)] at h1
    exact h1
  · have h1 := (hg i).1 hh
    have h2 : g + (i - u) < L'.length := by rw [h.len]; omega
    have h3 := find_key hS' h2
    rw [h.nd_mid (by omega), show u + (i - u) = i by omega, deepen_key] at h3
    omega
  · rw [if_neg (by omega)]; rfl
  · rw [if_neg (by omega), h.len]; rfl
theorem SetN.up {L L' : List (List Value)} {key : Int} {u : Nat} {z : List Value} (h : SetN L L' key u z) (i : Nat) : upK L' i = upK L i := by
  have h1 : dp L' = dp L := funext fun j => by
    unfold dp
    by_cases hj : j = u
    · rw [hj, h.at]; exact h.dz
    · rw [h.other hj]
  have h2 : ∀ j, keyN (nd L' j) = keyN (nd L j) := fun j => by
    by_cases hj : j = u
    · rw [hj, h.at, h.kz]
    · rw [h.other hj]
  unfold upK
  rw [h1, h2]
theorem oth_set {L L' : List (List Value)} {x : Int} {u : Nat} {z : List Value} {c : Chg} (h : SetN L L' c.key u z) (hS : Shape L x) (h3 : z.take 3 = (nd L u).take 3) (hk : c.kd = 4 ∨ c.kd = 5) : Oth L L' c id id := by
  have hg := gone_not (L := L) (c := c) ⟨by omega, by omega⟩
  refine ⟨fun i hi _ => by rw [h.len]; exact hi, fun i hi _ => ?_, fun i j hij _ _ _ => hij, fun i hi _ => h.up i, fun i hi _ hh => ?_, fun i hi _ hh => ?_, fun h2 => by omega, fun _ i hi hh => (by rw [hg] at hh; cases hh), rfl, fun i hi => ?_, ?_⟩
  · show keyN (nd L' i) = _
    by_cases hj : i = u
    · rw [hj, h.at, h.kz]
    · rw [h.other hj]
  · exact h.other (fun e => hh ⟨hk, by rw [show i = u from e]; exact h.key⟩)
  · have h1 := find_key hS hi
    rw [hh.2, h.fu] at h1
    have : i = u := by omega
    show (nd L' i).take 3 = _
    rw [this, h.at, h3]
  · rw [if_neg (by omega)]; rfl
  · rw [if_neg (by omega), h.len]; rfl
theorem oth_of {L L' : List (List Value)} {x x' : Int} {c : Chg} (hL : ∀ y ∈ L, OkAll nodeLs y) (hS : Shape L x) (hS' : Shape L' x') (hkd : 1 ≤ c.kd ∧ c.kd ≤ 5) (h : opL L x c = .ok (L', x')) : ∃ f cnt, Oth L L' c f cnt := by
  rcases (by omega : c.kd = 1 ∨ c.kd = 2 ∨ c.kd = 3 ∨ c.kd = 4 ∨ c.kd = 5) with hk | hk | hk | hk | hk
  · obtain ⟨g, v, q, z, hI, _⟩ := ins_of hk h
    exact ⟨_, _, oth_insert hI hS hk⟩
  · have h2 : removeL L x c.key = .ok (L', x') := by
      unfold opL at h
      rw [if_neg (by omega), if_pos hk] at h
      exact h
    obtain ⟨u, m, T, hf, hc⟩ := removed_of hS h2
    exact ⟨_, _, oth_remove hc hS hf hk⟩
  · have hx := opL_next h
    rw [if_neg (by omega)] at hx
    subst hx
    obtain ⟨u, m, g, v, k, T, R, hM⟩ := moved_of hL hS (move_op hk h)
    exact ⟨_, _, oth_move hM hL hS' hk⟩
  · obtain ⟨u, hs, _, _⟩ := styled_of hL hk h
    refine ⟨_, _, oth_set hs hS ?_ (.inl hk)⟩
    have h1 := (nd_ok_ hL hs.ul).len
    rw [nodeLs_len] at h1
    unfold withSty
    rw [List.append_assoc, List.take_left' (by simp; omega)]
  · obtain ⟨u, hs, _, _⟩ := texted_of (by omega) h
    refine ⟨_, _, oth_set hs hS ?_ (.inr hk)⟩
    unfold withText
    rw [List.take_set_of_le (by omega)]
end Go.Proofs.Ytjnbfgogmhfbiaa
/- The document's Same. -/
namespace Go.Proofs.Ytjnbfgogmhfbiaa
open Go Go.RowKit
def docEq (L1 : List (List Value)) (x1 : Int) (L2 : List (List Value)) (x2 : Int) : Bool := decide (x1 = x2) && nodesEq L1 L2
set_option maxRecDepth 100000 in
set_option maxHeartbeats 2000000 in
theorem dsame_any (A1 : Option Addr) (n1 c1 : Nat) (L1 : List (List Value)) (x1 : Int) (A2 : Option Addr) (n2 c2 : Nat) (L2 : List (List Value)) (x2 : Int) (w : World) (h1 : ∀ y ∈ L1, OkAll nodeLs y) (h2 : ∀ y ∈ L2, OkAll nodeLs y) (l1 : L1.length = n1) (l2 : L2.length = n2)
    (r1 : Reads w w.heap.size A1 L1.flatten) (r2 : Reads w w.heap.size A2 L2.flatten) (hn : n1 ≤ 100000) (hn2 : n2 ≤ 100000) :
    Calls Try.prog 17 #[.agg #[.slice A1 n1 c1, .int .i64 x1], .agg #[.slice A2 n2 c2, .int .i64 x2]] w fun e w' => e = .returned (.bool (docEq L1 x1 L2 x2)) ∧ w.grownBy w' none := by
  have gA := grown_trans (World.grownBy_alloc w (.cells #[.slice A1 n1 c1, .int .i64 x1] 24) none) (World.grownBy_alloc _ (.cells #[.slice A2 n2 c2, .int .i64 x2] 24) none)
  by_cases hx : x1 = x2
  · by_cases hnn : n1 = n2
    · subst hnn
      have b1 := (Two.new w 24 (.slice A1 n1 c1) (.int .i64 x1)).kept (World.grownBy_alloc _ (.cells #[.slice A2 n1 c2, .int .i64 x2] 24) none) (by simp)
      have b2 := Two.new (w.alloc (.cells #[.slice A1 n1 c1, .int .i64 x1] 24)) 24 (.slice A2 n1 c2) (.int .i64 x2)
      rw [World.size_alloc] at b2
      generalize hW : (w.alloc (.cells #[.slice A1 n1 c1, .int .i64 x1] 24)).alloc (.cells #[.slice A2 n1 c2, .int .i64 x2] 24) = W at *
      have hW' := Lib.hid hW
      have HN := Lib.hid (fun k (hk : k < n1) => show ∃ ad1 ad2 y1 y2, A1 = some ad1 ∧ A2 = some ad2 ∧ L1[k]? = some y1 ∧ L2[k]? = some y2 ∧ OkAll nodeLs y1 ∧ OkAll nodeLs y2 ∧ (∀ q, (Instr.loadAt 32 (.pointer (some (ad1.add (k * 51))))).run Try.prog (W.drewN q) = .ok (.agg y1.toArray) (W.drewN q)) ∧ (∀ q, (Instr.loadAt 32 (.pointer (some (ad2.add (k * 51))))).run Try.prog (W.drewN q) = .ok (.agg y2.toArray) (W.drewN q)) by
        obtain ⟨ad1, y1, e1, _, e2, e3, e4⟩ := nodes_cell h1 (r1.grown0 gA) (i := k) (by omega)
        obtain ⟨ad2, y2, f1, _, f2, f3, f4⟩ := nodes_cell h2 (r2.grown0 gA) (i := k) (by omega)
        exact ⟨ad1, ad2, y1, y2, e1, f1, e2, f2, e3, f3, fun q => run_loadNode _ _ _ e3.len (fun j hj => e4 j hj), fun q => run_loadNode _ _ _ f3.len (fun j hj => f4 j hj)⟩)
      have d1 := b1.c0
      have d2 := b1.c1
      have d3 := b2.c0
      have d4 := b2.c1
      have hxx : (x1 != x2) = false := by simp [hx]
      have hnx : ((n1 : Int) != (n1 : Int)) = false := by simp
      have hfin := Lib.hid (fun (hLL : L1 = L2) => show docEq L1 x1 L2 x2 = true by unfold docEq; rw [hx, hLL, (nodesEq_iff h2 h2).2 rfl]; simp)
      have hbad := Lib.hid (fun (hLL : L1 ≠ L2) => show docEq L1 x1 L2 x2 = false by unfold docEq; rw [nodesEq_false h1 h2 hLL]; simp)
      have hl' := Lib.hid (show L1.length = n1 ∧ L2.length = n1 from ⟨l1, l2⟩)
      clear hW hx h1 h2 l1 l2 r1 r2
      go_enter Try.func17, Try.ntmps17
      go_wp2_with fail
      rw [hW'.out]
      go_wp2_with fail
      go_loopw [5] (fun v wr => ∃ k : Nat, k ≤ n1 ∧ v = .int .i64 k ∧ Hid (∀ j, j < k → L1[j]? = L2[j]?) ∧ ∃ q, wr = W.drewN q) (fun v _ => n1 - (intOf v).toNat)
      case atStart => exact ⟨0, by omega, rfl, fun j hj => absurd hj (by omega), 0, rfl⟩
      case round =>
        obtain ⟨k, hk, rfl, heq, q, rfl⟩ := hrel
        by_cases hlt : k < n1
        · obtain ⟨ad1, ad2, y1, y2, rfl, rfl, e1, e2, o1, o2, ld1, ld2⟩ := HN.out k hlt
          have ld1 := Lib.hid ld1
          have ld2 := Lib.hid ld2
          cases hq : eqV y1 y2 with
          | true =>
            have hyy := (eqV_iff o1 o2).1 hq
            have hnx := Lib.hid (show ∀ j, j < k + 1 → L1[j]? = L2[j]? from fun j hj => by
              rcases Nat.lt_or_ge j k with h | h
              · exact heq.out j h
              · obtain rfl : j = k := by omega
                rw [e1, e2, hyy])
            have hq' := Lib.hid hq
            clear hq hyy e1 e2 heq
            go_wp2_with fail
            refine wp_region_quiet_lit (by kernel_rfl) (by kernel_rfl) ?_
            repeat (first | go_big_quiet_step (fail) | quiet_step (fail))
            refine quiet_loadNode (by rfl) _ rfl (ad1.add (k * 51)) rfl y1 (fun V hV => by obtain ⟨n, rfl⟩ := hV; rw [World.drewN_drewN]; exact ld1.out _) ?_
            simp only [Act.put, List.setIfInBounds_toArray, List.set_cons_zero, List.set_cons_succ]
            repeat (first | go_big_quiet_step (fail) | quiet_step (fail))
            refine quiet_loadNode (by rfl) _ rfl (ad2.add (k * 51)) rfl y2 (fun V hV => by obtain ⟨n, rfl⟩ := hV; rw [World.drewN_drewN]; exact ld2.out _) ?_
            simp only [Act.put, List.setIfInBounds_toArray, List.set_cons_zero, List.set_cons_succ]
            refine quiet_neqNode (by rfl) _ _ _ rfl y1 y2 rfl rfl o1 o2 true hq'.out ?_
            simp only [Act.put, List.setIfInBounds_toArray, List.set_cons_zero, List.set_cons_succ]
            refine wpQuiet_nil ?_
            intro w9 hw9
            obtain ⟨nq, hw8⟩ := hw9
            subst hw8
            rw [World.drewN_drewN]
            simp only [Bool.not_true]
            go_wp2
            go_roundw
            case rel => exact ⟨k + 1, by omega, by go_num, hnx, _, rfl⟩
            case measure => simp [intOf]; omega
          | false =>
            have hnLL := Lib.hid (show L1 ≠ L2 from fun h => by
              rw [h, e2] at e1
              have := (eqV_iff o1 o2).2 (Option.some.inj e1).symm
              rw [this] at hq
              cases hq)
            have hq' := Lib.hid hq
            clear hq e1 e2 heq
            go_wp2_with fail
            refine wp_region_quiet_lit (by kernel_rfl) (by kernel_rfl) ?_
            repeat (first | go_big_quiet_step (fail) | quiet_step (fail))
            refine quiet_loadNode (by rfl) _ rfl (ad1.add (k * 51)) rfl y1 (fun V hV => by obtain ⟨n, rfl⟩ := hV; rw [World.drewN_drewN]; exact ld1.out _) ?_
            simp only [Act.put, List.setIfInBounds_toArray, List.set_cons_zero, List.set_cons_succ]
            repeat (first | go_big_quiet_step (fail) | quiet_step (fail))
            refine quiet_loadNode (by rfl) _ rfl (ad2.add (k * 51)) rfl y2 (fun V hV => by obtain ⟨n, rfl⟩ := hV; rw [World.drewN_drewN]; exact ld2.out _) ?_
            simp only [Act.put, List.setIfInBounds_toArray, List.set_cons_zero, List.set_cons_succ]
            refine quiet_neqNode (by rfl) _ _ _ rfl y1 y2 rfl rfl o1 o2 false hq'.out ?_
            simp only [Act.put, List.setIfInBounds_toArray, List.set_cons_zero, List.set_cons_succ]
            refine wpQuiet_nil ?_
            intro w9 hw9
            obtain ⟨nq, hw8⟩ := hw9
            subst hw8
            rw [World.drewN_drewN]
            simp only [Bool.not_false]
            go_wp2
            go_ret
            exact ⟨by rw [hbad.out hnLL.out]; rfl, grown_drewN gA _⟩
        · obtain rfl : k = n1 := by omega
          have hLL : L1 = L2 := by
            refine List.ext_getElem? fun j => ?_
            rcases Nat.lt_or_ge j k with h | h
            · exact heq.out j h
            · rw [List.getElem?_eq_none (by have := hl'.out.1; omega), List.getElem?_eq_none (by have := hl'.out.2; omega)]
          have hf := Lib.hid (hfin.out hLL)
          clear hLL
          go_wp2_with fail
          go_ret
          exact ⟨by rw [hf.out]; rfl, grown_drewN gA _⟩
    · have hv : docEq L1 x1 L2 x2 = false := by
        unfold docEq
        rw [nodesEq_false h1 h2 (fun h => hnn (by rw [← l1, ← l2, h]))]
        simp
      rw [hv]
      have hb : ((n1 : Int) != (n2 : Int)) = true := by simp; omega
      have hxx : (x1 != x2) = false := by simp [hx]
      clear hv h1 h2 l1 l2 hx
      go_enter Try.func17, Try.ntmps17
      go_wp2
      go_ret
      exact ⟨rfl, gA⟩
  · have hv : docEq L1 x1 L2 x2 = false := by
      unfold docEq
      rw [decide_eq_false hx]
      simp
    rw [hv]
    have hxx : (x1 != x2) = true := by simp [hx]
    clear hv h1 h2 l1 l2 hx
    cases hb : ((n1 : Int) != (n2 : Int)) with
    | true =>
      go_enter Try.func17, Try.ntmps17
      go_wp2
      go_ret
      exact ⟨rfl, gA⟩
    | false =>
      go_enter Try.func17, Try.ntmps17
      go_wp2
      go_ret
      exact ⟨rfl, gA⟩
theorem docEq_iff' {L M : List (List Value)} {x y : Int} (h1 : ∀ y ∈ L, OkAll nodeLs y) (h2 : ∀ y ∈ M, OkAll nodeLs y) : docEq L x M y = true ↔ x = y ∧ L = M := by
  unfold docEq
  rw [Bool.and_eq_true, decide_eq_true_eq, nodesEq_iff h1 h2]
end Go.Proofs.Ytjnbfgogmhfbiaa
/- MutateMoved: the walk. -/
namespace Go.Proofs.Ytjnbfgogmhfbiaa
open Go Go.RowKit
def noChg : Chg := ⟨0, 0, 0, 0, zeroNode⟩
theorem noChg_ok : noChg.ok := chg_ok zero_ok (by decide)
theorem mv_ok {key par num : Int} (h1 : (Lit.int .i64 key).wf = true) (h2 : (Lit.int .i64 par).wf = true) (h3 : (Lit.int .i64 num).wf = true) : (⟨3, key, par, num, zeroNode⟩ : Chg).ok := ⟨by show (0 : Int) ≤ 3 ∧ (3 : Int) ≤ 255; omega, wfI h1, wfI h2, wfI h3, zero_ok⟩
theorem DB.cells {w : World} {p : Nat} {A : Option Addr} {n k : Nat} {L : List (List Value)} {x : Int} (h : DB w p A n k L x) : w.cell? ⟨p, 0, none⟩ = some (.slice A n k) ∧ w.cell? ⟨p, 1, none⟩ = some (.int .i64 x) := ⟨h.two.c0, h.two.c1⟩
set_option maxRecDepth 100000 in
set_option maxHeartbeats 8000000 in
theorem MutateMoved_walk (w : World) (A : Option Addr) (n k : Nat) (L : List (List Value)) (x : Int) (_wx : (Lit.int .i64 x).wf = true) (R : IsNodes w A n k L) (key : Int) (wk : (Lit.int .i64 key).wf = true) (par : Int) (wp : (Lit.int .i64 par).wf = true) (num : Int) (wn : (Lit.int .i64 num).wf = true) :
    Calls Try.prog 6 #[.agg #[.slice A n k, .int .i64 x], .int .i64 key, .int .i64 par, .int .i64 num] w fun e w' => e = .returned (.bool true) ∧ Below w.heap.size w w' := by
  have hnc := R.len_
  have hg0 := World.grownBy_alloc w (.cells #[.slice A n k, .int .i64 x] 24) none
  have bD := Two.new w 24 (.slice A n k) (.int .i64 x)
  have CA := Lib.hid (awake_any (w.alloc (.cells #[.slice A n k, .int .i64 x] 24)))
  have hok := Lib.hid (fun y hy => (R.2.2.2.1 y hy).2)
  have hlen := Lib.hid R.1
  have hrd := Lib.hid (fun W (hg : w.grownBy W none) => (R.2.2.2.2.grown0 hg).more hg.size)
  have CG := Lib.hid (fun W (hg : w.grownBy W none) => great7_any A n k L x noChg W hok.out hlen.out (hrd.out W hg) (by omega) noChg_ok)
  have hc' := Lib.hid (mv_ok wk wp wn)
  have bD' := Lib.hid (fun W (hg : (w.alloc (.cells #[.slice A n k, .int .i64 x] 24)).grownBy W none) => bD.kept hg (by simp))
  have hg0' := Lib.hid hg0
  clear R bD hg0 wk wp wn
  go_enter Try.func6, Try.ntmps6
  go_wp2_with fail
  generalize w.alloc (.cells #[.slice A n k, .int .i64 x] 24) = W0 at *
  refine CA.out.mono ?_; rintro r w1 ⟨rfl, hg⟩
  have c0 := (bD'.out _ hg).c0
  have c1 := (bD'.out _ hg).c1
  go_wp2_with (refine wpList_build (o := ⟨some 21, _, _, _, _, _⟩) rfl (T := 34) rfl noChg.cells (by kernel_rfl) ?_; simp only [Act.put, List.setIfInBounds_toArray, List.set_cons_zero, List.set_cons_succ])
  refine (CG.out _ (grown_trans hg0'.out hg)).mono ?_; rintro r w2 ⟨b, rfl, hb, hg2⟩
  replace hg := grown_trans hg hg2
  clear c0 c1 hg2 CA CG
  cases b with
  | true =>
    clear hb
    go_wp2_with fail
    go_ret
    exact ⟨rfl, grown_below (grown_trans hg0'.out hg)⟩
  | false =>
    obtain ⟨⟨hn, ht⟩, _⟩ := hb rfl
    have hN := Lib.hid (fun W (hg : W0.grownBy W none) => show NodesAt W W.heap.size A n L from ⟨hok.out, hlen.out, hrd.out W (grown_trans hg0'.out hg), by omega⟩)
    have hsm := Lib.hid (fun i (hi : i < n) => show lenN (nd L i) ≤ 5000 from Nat.le_trans (total_mem _ (List.mem_of_getElem? (nd_get (by rw [hlen.out]; exact hi)))) ht)
    have CAp := Lib.hid (apply_any A n k x L ⟨3, key, par, num, zeroNode⟩ w2 (hN.out _ hg) hsm.out hc'.out (by show lenN zeroNode ≤ 5000; decide))
    have c0 := (bD'.out _ hg).c0
    have c1 := (bD'.out _ hg).c1
    clear hb ht
    go_wp2_with (refine wpList_build (o := ⟨some 28, _, _, _, _, _⟩) rfl (T := 34) rfl (⟨3, key, par, num, zeroNode⟩ : Chg).cells (by kernel_rfl) ?_; simp only [Act.put, List.setIfInBounds_toArray, List.set_cons_zero, List.set_cons_succ])
    refine CAp.out.mono ?_; rintro r w3 ⟨⟨res, hap, hans⟩, hg3⟩
    replace hg := grown_trans hg hg3
    clear c0 c1 CAp hg3
    cases res with
    | error e =>
      have he0 := (applies_err hap).1
      have ha := World.grownBy_alloc w3 (.cells #[.slice none 0 0, .int .i64 0] 24) none
      have hga := grown_trans hg ha
      have b0 : (e != 0) = true := by simpa using he0
      obtain rfl : r = _ := hans
      clear hap ha he0
      go_wp2_with fail
      go_ret
      exact ⟨rfl, grown_below (grown_trans hg0'.out hga)⟩
    | ok v =>
      obtain ⟨L', x'⟩ := v
      obtain ⟨A3, n3, k3, hans, hown, hl3, hok3⟩ := hans
      subst hans
      obtain ⟨hM, _, hop, hM'⟩ := hap
      obtain rfl : x' = x := by have := opL_next hop; rw [if_neg (by show ¬ (3 : Int) = 1; decide)] at this; exact this
      have hop2 : moveL L x' key par num = .ok (L', x') := by
        unfold opL at hop
        rw [if_neg (by show ¬ (3 : Int) = 1; decide), if_neg (by show ¬ (3 : Int) = 2; decide), if_pos rfl] at hop
        exact hop
      obtain ⟨u, m, g, v, q, T, RR, hMv⟩ := moved_of hok.out hM.1 hop2
      obtain ⟨_, hl300, _, hdp'⟩ := hM'.facts
      obtain ⟨_, _, _, hdp⟩ := hM.facts
      have hn3 : n3 = n := by rw [← hl3, hMv.len, hlen.out]
      subst hn3
      have hN3 : NodesAt w3 w3.heap.size A3 n3 L' := ⟨hok3, hl3, hown.reads, by omega⟩
      have hMv' := Lib.hid hMv
      have hS' := Lib.hid hM'.1
      have gb := hMv.gb
      have hu0 := hMv.cut.u0
      have hun := hMv.cut.un
      have hm0 := hMv.cut.m0
      rw [hlen.out] at hun gb
      have ha := World.grownBy_alloc w3 (.cells #[.slice A3 n3 k3, .int .i64 x'] 24) none
      have D1 := DB.new (k := k3) (x := x') hN3
      have hga := grown_trans hg ha
      have D0 : DB (w3.alloc (.cells #[.slice A3 n3 k3, .int .i64 x'] 24)) w.heap.size A n3 k L x' := ⟨bD'.out _ hga, hN.out _ hga⟩
      have hga' := Lib.hid hga
      have hfu := hMv.fu
      have hdpb := Lib.hid hdp
      have hdpb' := Lib.hid hdp'
      obtain ⟨pd, hpd⟩ : ∃ pd, pd = w3.heap.size := ⟨_, rfl⟩
      obtain ⟨p0, hp0⟩ : ∃ p0, p0 = w.heap.size := ⟨_, rfl⟩
      have hpge := Lib.hid (show p0 ≠ pd by have h1 := (D0.two).lt; have h2 := (bD'.out _ hg).lt; omega)
      go_upto_region 6 with fail
      generalize w3.alloc (.cells #[.slice A3 n3 k3, .int .i64 x'] 24) = W1 at *
      rw [← hpd] at D1 ⊢
      rw [← hp0] at D0 ⊢
      have CF0 := Lib.hid (fun W (hg : W1.grownBy W none) => show Calls Try.prog 12 #[.agg #[.slice A n3 k, .int .i64 x'], .int .i64 key] W fun e w' => e = .returned (.int .i64 (u : Int)) ∧ W.grownBy w' none from by
        have := dfind_any A n3 k L x' key W ((D0.grow hg).nodes)
        rw [hfu] at this
        exact this)
      have CF1 := Lib.hid (fun W (hg : W1.grownBy W none) => show Calls Try.prog 12 #[.agg #[.slice A3 n3 k3, .int .i64 x'], .int .i64 key] W fun e w' => e = .returned (.int .i64 (g : Int)) ∧ W.grownBy w' none from by
        have := dfind_any A3 n3 k3 L' x' key W ((D1.grow hg).nodes)
        rw [hMv'.out.find hS'.out] at this
        exact this)
      obtain ⟨e0, he0⟩ : ∃ e0, e0 = u + m := ⟨_, rfl⟩
      obtain ⟨e1, he1⟩ : ∃ e1, e1 = g + m := ⟨_, rfl⟩
      have CE0 := Lib.hid (fun W (hg : W1.grownBy W none) => show Calls Try.prog 18 #[.agg #[.slice A n3 k, .int .i64 x'], .int .i64 (u : Int)] W fun e w' => e = .returned (.int .i64 (e0 : Int)) ∧ W.grownBy w' none from by
        have := dend_in A n3 k x' u L W ((D0.grow hg).nodes) (by omega)
        rw [← hlen.out, hMv'.out.cut.end_, hlen.out, ← he0] at this
        exact this)
      have CE1 := Lib.hid (fun W (hg : W1.grownBy W none) => show Calls Try.prog 18 #[.agg #[.slice A3 n3 k3, .int .i64 x'], .int .i64 (g : Int)] W fun e w' => e = .returned (.int .i64 (e1 : Int)) ∧ W.grownBy w' none from by
        have := dend_in A3 n3 k3 x' g L' W ((D1.grow hg).nodes) (by omega)
        rw [← hl3, hMv'.out.end_, hl3, ← he1] at this
        exact this)
      have CU := Lib.hid (fun W (hg : W1.grownBy W none) => show Calls Try.prog 14 #[.agg #[.slice A3 n3 k3, .int .i64 x'], .int .i64 (g : Int)] W fun e w' => e = .returned (.int .i64 par) ∧ W.grownBy w' none from by
        have := up_any A3 n3 k3 x' g L' W ((D1.grow hg).nodes) (by omega)
        rw [hMv'.out.up] at this
        exact this)
      have CP := Lib.hid (fun W (hg : W1.grownBy W none) => show Calls Try.prog 16 #[.agg #[.slice A3 n3 k3, .int .i64 x'], .int .i64 (g : Int)] W fun e w' => e = .returned (.int .i64 (v : Int)) ∧ W.grownBy w' none from by
        have := dparent_in A3 n3 k3 x' g L' W ((D1.grow hg).nodes) (by omega)
        rw [hMv'.out.parent] at this
        exact this)
      have CK := Lib.hid (fun W (hg : W1.grownBy W none) => dkids_in A3 n3 k3 x' v L' W ((D1.grow hg).nodes) (by omega))
      have HB := Lib.hid (fun W (hg : W1.grownBy W none) => show (W.cell? ⟨p0, 0, none⟩ = some (.slice A n3 k) ∧ W.cell? ⟨p0, 1, none⟩ = some (.int .i64 x')) ∧ W.cell? ⟨pd, 0, none⟩ = some (.slice A3 n3 k3) ∧ W.cell? ⟨pd, 1, none⟩ = some (.int .i64 x') from ⟨(D0.grow hg).cells, (D1.grow hg).cells⟩)
      have hk1 := hMv.kid
      have hnum := hMv.gap.2.2.2.1
      have hw0 : IntKind.i64.wrap ((e0 : Int) - (u : Int)) = (m : Int) := by rw [IntKind.wrap_i64]; omega
      have hw1 : IntKind.i64.wrap ((e1 : Int) - (g : Int)) = (m : Int) := by rw [IntKind.wrap_i64]; omega
      have d0 : decide ((u : Int) < 1) = false := decide_eq_false (by omega)
      have d1 : decide ((g : Int) < 1) = false := decide_eq_false (by omega)
      have b1 : ((m : Int) != (m : Int)) = false := by simp
      have b2 : ((n3 : Int) != (n3 : Int)) = false := by simp
      have b3 : (par != par) = false := by simp
      have b4 : ((g : Int) != (g : Int)) = false := by simp
      have hnum' := Lib.hid hnum
      have hk1' := Lib.hid hk1
      have D0' := Lib.hid D0
      have D1' := Lib.hid D1
      have hl3' := Lib.hid hl3
      have hok3' := Lib.hid hok3
      clear hop hop2 hM hM' hMv hN3 ha D0 D1 hga hown hok3 hfu hdp hdp' hl300 he0 he1 hk1 hnum hpd hp0 hl3
      have hgd := grown_drew (World.grownBy.refl W1 none)
      obtain ⟨⟨c0, c1⟩, c2, c3⟩ := HB.out _ hgd
      go_wp2_with fail
      go_region_held3 (fun W => (W.cell? ⟨p0, 0, none⟩ = some (.slice A n3 k) ∧ W.cell? ⟨p0, 1, none⟩ = some (.int .i64 x')) ∧ W.cell? ⟨pd, 0, none⟩ = some (.slice A3 n3 k3) ∧ W.cell? ⟨pd, 1, none⟩ = some (.int .i64 x')) (first | exact ⟨⟨c0, c1⟩, c2, c3⟩ | go_keep) (first
        | (go_at_call 12; ((with_reducible refine (CF0.out _ hgd).mono ?_); rintro e vv ⟨rfl, hgk⟩); clear c0 c1 c2 c3; replace hgd := grown_trans hgd hgk; obtain ⟨⟨c0, c1⟩, c2, c3⟩ := HB.out _ hgd; clear hgk)
        | (go_at_call 12; ((with_reducible refine (CF1.out _ hgd).mono ?_); rintro e vv ⟨rfl, hgk⟩); clear c0 c1 c2 c3; replace hgd := grown_trans hgd hgk; obtain ⟨⟨c0, c1⟩, c2, c3⟩ := HB.out _ hgd; clear hgk))
      all_goals
        go_wp2_with fail
        refine (CE0.out _ hgd).mono ?_; rintro r y1 ⟨rfl, hgk⟩
        clear c0 c1 c2 c3
        replace hgd := grown_trans hgd hgk
        obtain ⟨⟨c0, c1⟩, c2, c3⟩ := HB.out _ hgd
        clear hgk
        go_wp2_with fail
        refine (CE1.out _ hgd).mono ?_; rintro r y2 ⟨rfl, hgk⟩
        clear c0 c1 c2 c3
        replace hgd := grown_trans hgd hgk
        obtain ⟨⟨c0, c1⟩, c2, c3⟩ := HB.out _ hgd
        clear hgk
        go_wp2_with fail
        refine (CU.out _ hgd).mono ?_; rintro r y3 ⟨rfl, hgk⟩
        clear c0 c1 c2 c3
        replace hgd := grown_trans hgd hgk
        obtain ⟨⟨c0, c1⟩, c2, c3⟩ := HB.out _ hgd
        clear hgk
        go_upto_region 12 with fail
        clear c0 c1 c2 c3
        replace hgd := grown_trans hgd (grown_drew (World.grownBy.refl _ none))
        obtain ⟨⟨c0, c1⟩, c2, c3⟩ := HB.out _ hgd
        go_region_held3 (fun W => W.cell? ⟨pd, 0, none⟩ = some (.slice A3 n3 k3) ∧ W.cell? ⟨pd, 1, none⟩ = some (.int .i64 x')) (first | exact ⟨c2, c3⟩ | go_keep) (first
          | (go_at_call 16; ((with_reducible refine (CP.out _ hgd).mono ?_); rintro e vv ⟨rfl, hgk⟩); clear c0 c1 c2 c3; replace hgd := grown_trans hgd hgk; obtain ⟨⟨c0, c1⟩, c2, c3⟩ := HB.out _ hgd; clear hgk)
          | (go_at_call 15; ((with_reducible refine (CK.out _ hgd).mono ?_); rintro e vv ⟨A5, k5, rfl, hownK, hgk⟩); clear c0 c1 c2 c3; replace hgd := grown_trans hgd hgk; obtain ⟨⟨c0, c1⟩, c2, c3⟩ := HB.out _ hgd; clear hgk))
        obtain rfl : num = (q : Int) := hnum'.out
        obtain ⟨K, hK⟩ : ∃ K, K = (kidsN (dp L') n3 v).length := ⟨_, rfl⟩
        have hqK : q < K := by
          have h1 := (List.getElem?_eq_some_iff.1 hk1'.out).1
          rw [hl3'.out] at h1
          omega
        have hK3 : K ≤ n3 := by
          rw [hK]
          unfold kidsN
          have h1 := List.length_filter_le (fun j => decide (dp L' j = dp L' v + 1)) (List.range' (v + 1) (endN (dp L') n3 v - (v + 1)))
          have h2 := endN_le (d := dp L') (n := n3) (i := v) (by omega)
          rw [List.length_range'] at h1
          omega
        obtain ⟨g5, hA5, _, _, _, hc5⟩ := hownK.cells_ (by rw [List.length_map]; omega)
        subst hA5
        have z5 := hc5 q (by rw [List.length_map]; omega)
        rw [List.getElem?_map] at z5
        have hk2 := hk1'.out
        rw [hl3'.out] at hk2
        rw [hk2] at z5
        replace z5 : _ = some (Value.int .i64 (g : Int)) := z5
        rw [← hK]
        have q0 : decide ((q : Int) < 0) = false := decide_eq_false (by omega)
        have q1 : decide ((K : Int) ≤ (q : Int)) = false := decide_eq_false (by omega)
        have j1 : (0 : Int) ≤ (q : Int) := by omega
        have j2 : (q : Int) < (K : Int) := by omega
        clear hownK hc5 hk2 hK
        go_upto_region 15 with fail
        clear z5 q0 q1 j1 j2
        have hg1n : g < n3 := by omega
        have hu1n : u < n3 := by omega
        have NA := (D0'.out.grow hgd).nodes
        have NB := (D1'.out.grow hgd).nodes
        obtain ⟨ad0, hA0, _⟩ := NA.some_ hu1n
        obtain ⟨ad1, hA1, _⟩ := NB.some_ hg1n
        subst hA0
        subst hA1
        have y0 := NA.dep_ hu1n
        have y1 := NB.dep_ hg1n
        have bb0 := hdpb.out u (by rw [hlen.out]; exact hu1n)
        have bb1 := hdpb'.out g (by rw [hl3'.out]; exact hg1n)
        obtain ⟨du, hdu⟩ : ∃ du, du = dp L u := ⟨_, rfl⟩
        obtain ⟨dg, hdg⟩ : ∃ dg, dg = dp L' g := ⟨_, rfl⟩
        rw [← hdu] at y0 bb0
        rw [← hdg] at y1 bb1
        obtain ⟨δ, hδ⟩ : ∃ δ, δ = dg - du := ⟨_, rfl⟩
        have hws : IntKind.i64.wrap (dg - du) = δ := by rw [IntKind.wrap_i64]; omega
        have hδb : -15 ≤ δ ∧ δ ≤ 15 := by omega
        have hmid := Lib.hid (fun i (hi : i < m) => show nd L' (g + i) = deepen δ (nd L (u + i)) from by
          rw [hMv'.out.nd_mid hi, hδ, hdg, hdu, hMv'.out.dp_g])
        have i1 : (0 : Int) ≤ (u : Int) := by omega
        have i2 : (u : Int) < (n3 : Int) := by omega
        have i3 : (0 : Int) ≤ (g : Int) := by omega
        have i4 : (g : Int) < (n3 : Int) := by omega
        clear NA NB hdu hdg hδ
        go_quiet (fail)
        clear c0 c1 c2 c3 y0 y1
        replace hgd := grown_drewN hgd nq
        obtain ⟨⟨c0, c1⟩, c2, c3⟩ := HB.out _ hgd
        go_wp2_with fail
        clear hws
        generalize hVV : World.drewN _ nq = V at *
        clear hVV
        have hgd' := Lib.hid hgd
        clear c0 c1 c2 c3 hgd
        go_loopw [16, 17] (fun i _ wr => ∃ j : Nat, j ≤ m ∧ i = .int .i64 (j : Int) ∧ V.grownBy wr none) (fun i _ _ => m - (intOf i).toNat)
        case atStart => exact ⟨0, by omega, rfl, World.grownBy.refl _ _⟩
        case round =>
          obtain ⟨j, hj, rfl, hgr⟩ := hrel
          obtain ⟨wo, rfl⟩ : ∃ wo : World, wo = wr := ⟨_, rfl⟩
          have hgo := grown_trans hgd'.out hgr
          obtain ⟨⟨c0, c1⟩, c2, c3⟩ := HB.out _ hgo
          by_cases hlt : j < m
          · have NA := (D0'.out.grow hgo).nodes
            have hld := Lib.hid (NA.load (show u + j < n3 by omega))
            have hoku := Lib.hid (NA.nd_ok (show u + j < n3 by omega))
            have hsz := Lib.hid (show (nd L (u + j)).toArray.size = 51 by rw [List.size_toArray]; exact hoku.out.len)
            have hone := Lib.hid (okAll_one hoku.out)
            have w1 : IntKind.i64.wrap ((u : Int) + (j : Int)) = (u : Int) + (j : Int) := by rw [IntKind.wrap_i64]; omega
            have w2 : ((u : Int) + (j : Int)).toNat = u + j := by omega
            have i5 : (0 : Int) ≤ (u : Int) + (j : Int) := by omega
            have i6 : (u : Int) + (j : Int) < (n3 : Int) := by omega
            have hpw := D0'.out.two.lt
            have hpw1 := D1'.out.two.lt
            have hszo := hgo.size
            clear NA
            go_upto_region 20 with (first
              | (refine wpList_value_w rfl (exec_load rfl rfl hld.out) ?_; simp only [Act.put, List.setIfInBounds_toArray, List.set_cons_zero, List.set_cons_succ])
              | (refine wpList_fresh bigN rfl rfl rfl rfl _ _ rfl (nd L (u + j)).toArray hsz.out (by have := hone.out; simpa using this) rfl rfl ?_; intro W2 hg2 hr2; simp only [Act.put, List.setIfInBounds_toArray, List.set_cons_zero, List.set_cons_succ]))
            clear c0 c1 c2 c3 w1 w2 i5 i6
            obtain ⟨_, z1, _, _⟩ := row_node hr2 hoku.out
            have zf := hr2.free 1
            obtain ⟨dj, hdj⟩ : ∃ dj, dj = depN (nd L (u + j)) := ⟨_, rfl⟩
            have bj : 0 ≤ dj ∧ dj ≤ 15 := by rw [hdj]; exact hdpb.out (u + j) (by rw [hlen.out]; omega)
            rw [← hdj] at z1
            have w3 : IntKind.i64.wrap (dj + δ) = dj + δ := by rw [IntKind.wrap_i64]; omega
            have hrowd : Row (W2.setCell ⟨wo.heap.size, 1, none⟩ (.int .i64 (dj + δ))) wo.heap.size 32 (deepen δ (nd L (u + j))).toArray := by
              have h1 := hr2.set 1 (.int .i64 (dj + δ))
              rw [List.setIfInBounds_toArray, hdj] at h1
              rw [hdj]
              exact h1
            have hgx := grown_new (grown_trans hgo hg2) (grownBy_setCell W2 wo.heap.size 1 (.int .i64 (dj + δ))) (fun g e => by cases e; exact hszo)
            have hgv := grown_new (grown_trans hgr hg2) (grownBy_setCell W2 wo.heap.size 1 (.int .i64 (dj + δ))) (fun g e => by cases e; exact hgr.size)
            have hrowd' := Lib.hid hrowd
            clear hrowd hr2 hg2 hdj
            go_upto_region 21 with fail
            clear z1 zf w3
            generalize W2.setCell ⟨wo.heap.size, 1, none⟩ (.int .i64 (dj + δ)) = W3 at *
            obtain ⟨⟨c0, c1⟩, c2, c3⟩ := HB.out _ hgx
            have NB := Lib.hid (fun q => ((D1'.out.grow (grown_drewN hgx q)).nodes).load (show g + j < n3 by omega))
            have hokg := Lib.hid (((D1'.out.grow hgx).nodes).nd_ok (show g + j < n3 by omega))
            have heq := hmid.out j hlt
            have w1 : IntKind.i64.wrap ((g : Int) + (j : Int)) = (g : Int) + (j : Int) := by rw [IntKind.wrap_i64]; omega
            have w2 : ((g : Int) + (j : Int)).toNat = g + j := by omega
            have i5 : (0 : Int) ≤ (g : Int) + (j : Int) := by omega
            have i6 : (g : Int) + (j : Int) < (n3 : Int) := by omega
            have heq' := Lib.hid heq
            clear heq
            refine wp_region_quiet_lit (by kernel_rfl) (by kernel_rfl) ?_
            repeat (first | go_big_quiet_step (fail) | quiet_step (fail))
            have hokd := Lib.hid (show OkAll nodeLs (deepen δ (nd L (u + j))) from heq'.out ▸ hokg.out)
            refine quiet_loadNode (by rfl) _ rfl (ad1.add ((g + j) * 51)) rfl (nd L' (g + j)) (fun V hV => by obtain ⟨n, rfl⟩ := hV; exact NB.out n) ?_
            simp only [Act.put, List.setIfInBounds_toArray, List.set_cons_zero, List.set_cons_succ]
            refine quiet_loadNode (by rfl) _ rfl ⟨wo.heap.size, 0, none⟩ rfl (deepen δ (nd L (u + j))) (fun V hV => by obtain ⟨n, rfl⟩ := hV; exact run_load_row bigN _ (hrowd'.out.kept0 (grown_drewN (World.grownBy.refl W3 none) n)) (by rw [List.size_toArray]; exact hokd.out.len)) ?_
            simp only [Act.put, List.setIfInBounds_toArray, List.set_cons_zero, List.set_cons_succ]
            refine quiet_neqNode (by rfl) _ _ _ rfl (nd L' (g + j)) (deepen δ (nd L (u + j))) rfl rfl hokg.out hokd.out true (by rw [heq'.out]; exact eqV_self hokd.out) ?_
            simp only [Act.put, List.setIfInBounds_toArray, List.set_cons_zero, List.set_cons_succ]
            refine wpQuiet_nil ?_
            intro w9 hw9
            obtain ⟨nq2, rfl⟩ := hw9
            simp only [Bool.not_true]
            go_wp2_with fail
            exact ⟨⟨j + 1, by omega, by go_num, grown_drewN hgv nq2⟩, by simp [intOf]; omega⟩
          · go_wp2_with fail
            go_ret
            exact ⟨rfl, grown_below (grown_trans hg0'.out (grown_trans hga'.out hgo))⟩
end Go.Proofs.Ytjnbfgogmhfbiaa
/- MutateBack: the walk. -/
namespace Go.Proofs.Ytjnbfgogmhfbiaa
open Go Go.RowKit
section
variable {P : Program} {ops : Array Oper} {Q : Exit → Act → World → Prop} {md : Region.Mode} {S : World → Prop} {fuel : Nat} {listed : Array Bool} {a : Act} {w : World}
/-- A store of many cells into a row, the one operation that may come up. -/
theorem wpAnyH_store_many {T : TypeId} {g off : Nat} {ds : List Value} (i : Nat) (x y : Operand) (hr : Region.ready md ops listed = [i]) (ho : (ops[i]?).map coreOf = some (.store T x y, none, none))
    (hx : a.eval x = .pointer (some ⟨g, off, none⟩)) (hy : a.eval y = .agg ds.toArray) (hz : (P.info? T).map (·.size) = some ds.length) (h1 : ∀ v ∈ ds, v.oneCell' = true)
    (hc : ∀ j, j < ds.length → (w.cell? ⟨g, off + j, none⟩).isSome = true) (hf : ∀ j, j < ds.length → w.frozen? ⟨g, off + j, none⟩ = false) (hS : S (w.setCells g off ds))
    (h : wpAnyH P md ops Q S fuel (listed.setIfInBounds i true) a (w.setCells g off ds)) : wpAnyH P md ops Q S (fuel + 1) listed a w := by
  obtain ⟨o, h1', h2, h3, h4⟩ := core_spec ho
  refine Grow.wpAnyH_one hr h1' (by unfold Region.wanted; rw [h4]) (wp_skip (exec_store_many h2 hx hy hz h1 hc hf) ⟨hS, ?_⟩)
  rw [h3]
  exact h
end
theorem layL_y (a b c d : Value) (z y : List Value) (h : z.length = y.length) : layL (a :: b :: c :: d :: z) 4 y = a :: b :: c :: d :: y := by
  have := layL_mid [a, b, c, d] z [] y h
  simpa using this
def cellN (w : World) (g : Nat) : Nat := (intOf ((w.cell? ⟨g, 3, none⟩).getD undef)).toNat
theorem cellN_row {w : World} {g : Nat} {c : Chg} (h : Row w g 34 c.cells) : cellN w g = c.num.toNat := by
  unfold cellN
  rw [h.at 3, Chg.c3]
  rfl
theorem infoNode : (Try.prog.info? 32).map (·.size) = some 51 := by kernel_rfl
set_option maxRecDepth 100000 in
set_option maxHeartbeats 8000000 in
theorem MutateBack_walk (w : World) (A : Option Addr) (n k : Nat) (L : List (List Value)) (x : Int) (_wx : (Lit.int .i64 x).wf = true) (R : IsNodes w A n k L) (cs : List Value) (ok : OkAll chgLs cs) :
    Calls Try.prog 5 #[.agg #[.slice A n k, .int .i64 x], .agg ⟨cs⟩] w fun e w' => e = .returned (.bool true) ∧ Below w.heap.size w w' := by
  obtain ⟨c, hc, hcs⟩ := chg_of ok
  rw [show (⟨cs⟩ : Array Value) = c.cells from hcs]
  have hnc := R.len_
  obtain ⟨W0, hW0, bD, rC, hg0⟩ := boxes2 w (.slice A n k) x c
  have CA := Lib.hid (awake_any W0)
  have hok := Lib.hid (fun y hy => (R.2.2.2.1 y hy).2)
  have hlen := Lib.hid R.1
  have hrd := Lib.hid (fun W (hg : w.grownBy W none) => (R.2.2.2.2.grown0 hg).more hg.size)
  have CG := Lib.hid (fun W (hg : w.grownBy W none) => great7_any A n k L x c W hok.out hlen.out (hrd.out W hg) (by omega) hc)
  have hc' := Lib.hid hc
  have hW0' := Lib.hid hW0
  have bD' := Lib.hid (fun W (hg : W0.grownBy W none) => bD.kept hg (by simp))
  have rC' := Lib.hid (fun W (hg : W0.grownBy W none) => rC.kept0 hg)
  have hg0' := Lib.hid hg0
  have hkb := hc.kd
  have hcz := Lib.hid (Chg.size hc)
  clear R hcs ok hW0 bD rC hg0 hc
  go_enter Try.func5, Try.ntmps5
  go_wp2_with fail
  rw [hW0'.out]
  refine CA.out.mono ?_; rintro r w1 ⟨rfl, hg⟩
  have c0 := (bD'.out _ hg).c0
  have c1 := (bD'.out _ hg).c1
  have rc := rC'.out _ hg
  go_wp2_with (refine wpList_row bigC rc hcz.out (x := .tmp 3) rfl (by kernel_rfl) (by kernel_rfl) ?_; simp only [Act.put, List.setIfInBounds_toArray, List.set_cons_zero, List.set_cons_succ])
  refine (CG.out _ (grown_trans hg0'.out hg)).mono ?_; rintro r w2 ⟨b, rfl, hb, hg2⟩
  replace hg := grown_trans hg hg2
  clear c0 c1 rc hg2 CA CG
  cases b with
  | true =>
    clear hb
    go_wp2_with fail
    go_ret
    exact ⟨rfl, grown_below (grown_trans hg0'.out hg)⟩
  | false =>
    obtain ⟨⟨hn, ht⟩, hy⟩ := hb rfl
    have hN := Lib.hid (fun W (hg : W0.grownBy W none) => show NodesAt W W.heap.size A n L from ⟨hok.out, hlen.out, hrd.out W (grown_trans hg0'.out hg), by omega⟩)
    have hsm := Lib.hid (fun i (hi : i < n) => show lenN (nd L i) ≤ 5000 from Nat.le_trans (total_mem _ (List.mem_of_getElem? (nd_get (by rw [hlen.out]; exact hi)))) ht)
    have CAp := Lib.hid (apply_any A n k x L c w2 (hN.out _ hg) hsm.out hc'.out hy)
    have c0 := (bD'.out _ hg).c0
    have c1 := (bD'.out _ hg).c1
    have rc := rC'.out _ hg
    clear hb ht hy
    go_wp2_with (refine wpList_row bigC rc hcz.out (x := .tmp 3) rfl (by kernel_rfl) (by kernel_rfl) ?_; simp only [Act.put, List.setIfInBounds_toArray, List.set_cons_zero, List.set_cons_succ])
    refine CAp.out.mono ?_; rintro r w3 ⟨⟨res, hap, hans⟩, hg3⟩
    replace hg := grown_trans hg hg3
    clear c0 c1 rc CAp hg3
    cases res with
    | error e =>
      have he0 := (applies_err hap).1
      have ha := World.grownBy_alloc w3 (.cells #[.slice none 0 0, .int .i64 0] 24) none
      have hga := grown_trans hg ha
      have b0 : (e != 0) = true := by simpa using he0
      obtain rfl : r = _ := hans
      clear hap ha he0
      go_wp2_with fail
      go_ret
      exact ⟨rfl, grown_below (grown_trans hg0'.out hga)⟩
    | ok v =>
      obtain ⟨L', x'⟩ := v
      obtain ⟨A3, n3, k3, hans, hown, hl3, hok3⟩ := hans
      subst hans
      obtain ⟨hM, hkd, hop, hM'⟩ := hap
      obtain ⟨_, hl300, _, _⟩ := hM'.facts
      have hN3 : NodesAt w3 w3.heap.size A3 n3 L' := ⟨hok3, hl3, hown.reads, by omega⟩
      have hsm3 := Lib.hid (fun i (hi : i < n3) => show lenN (nd L' i) ≤ 5000 from by
        have h1 := total_mem _ (List.mem_of_getElem? (nd_get (L := L') (i := i) (by omega)))
        have h2 := hM'.1.2.2.2.2.2
        omega)
      have ha := World.grownBy_alloc w3 (.cells #[.slice A3 n3 k3, .int .i64 x'] 24) none
      have D1 := DB.new (k := k3) (x := x') hN3
      have hga := grown_trans hg ha
      have D0 : DB (w3.alloc (.cells #[.slice A3 n3 k3, .int .i64 x'] 24)) w.heap.size A n k L x := ⟨bD'.out _ hga, hN.out _ hga⟩
      have rC1 := rC'.out _ hga
      have hga' := Lib.hid hga
      have hM0 := Lib.hid hM
      have hM1 := Lib.hid hM'
      have hop' := Lib.hid hop
      have hl3' := Lib.hid hl3
      have hok3' := Lib.hid hok3
      obtain ⟨pd, hpd⟩ : ∃ pd, pd = w3.heap.size := ⟨_, rfl⟩
      obtain ⟨p0, hp0⟩ : ∃ p0, p0 = w.heap.size := ⟨_, rfl⟩
      obtain ⟨pc, hpc⟩ : ∃ pc, pc = w.heap.size + 1 := ⟨_, rfl⟩
      have e0 := (rC1.at 0).trans Chg.c0
      clear hop hM hM' hN3 ha hga hown hok3 hl3
      by_cases hk2 : c.kd = 2
      · have b2 : (c.kd == 2) = true := by simp [hk2]
        clear hk2 hpd hp0 hpc
        go_wp2_with fail
        go_ret
        exact ⟨rfl, grown_below (grown_trans hg0'.out hga'.out)⟩
      have b2 : (c.kd == 2) = false := by simp [hk2]
      go_upto_region 8 with fail
      generalize w3.alloc (.cells #[.slice A3 n3 k3, .int .i64 x'] 24) = W1 at *
      rw [← hpd] at D1 ⊢
      rw [← hpc] at rC1 e0 ⊢
      rw [← hp0] at D0 ⊢
      clear hpd hpc hp0
      have HB := Lib.hid (fun W (hg : W1.grownBy W none) => show ((W.cell? ⟨p0, 0, none⟩ = some (.slice A n k) ∧ W.cell? ⟨p0, 1, none⟩ = some (.int .i64 x)) ∧ W.cell? ⟨pd, 0, none⟩ = some (.slice A3 n3 k3) ∧ W.cell? ⟨pd, 1, none⟩ = some (.int .i64 x')) ∧ W.cell? ⟨pc, 0, none⟩ = some (.int .u8 c.kd) ∧ W.cell? ⟨pc, 1, none⟩ = some (.int .i64 c.key) from
        ⟨⟨(D0.grow hg).cells, (D1.grow hg).cells⟩, ((rC1.kept0 hg).at 0).trans Chg.c0, ((rC1.kept0 hg).at 1).trans Chg.c1⟩)
      have D0' := Lib.hid D0
      have D1' := Lib.hid D1
      have hbk0 := Lib.hid (show (⟨c.kd, c.key, 0, 0, zeroNode⟩ : Chg).ok from ⟨hc'.out.kd, hc'.out.key, by show (-9223372036854775808 : Int) ≤ 0 ∧ (0 : Int) ≤ 9223372036854775807; omega, by show (-9223372036854775808 : Int) ≤ 0 ∧ (0 : Int) ≤ 9223372036854775807; omega, zero_ok⟩)
      clear D0 D1 rC1 e0
      obtain ⟨⟨⟨c0, c1⟩, c2, c3⟩, e0, e1⟩ := HB.out _ (World.grownBy.refl _ _)
      go_upto_region 9 with (first
        | (refine wpList_build (o := ⟨some 34, _, _, _, _, _⟩) rfl (T := 34) rfl (⟨c.kd, c.key, 0, 0, zeroNode⟩ : Chg).cells (by kernel_rfl) ?_; simp only [Act.put, List.setIfInBounds_toArray, List.set_cons_zero, List.set_cons_succ])
        | (refine wpList_fresh bigC (by kernel_rfl) rfl rfl rfl _ _ rfl (⟨c.kd, c.key, 0, 0, zeroNode⟩ : Chg).cells (Chg.size hbk0.out) (Chg.one hbk0.out) rfl rfl ?_; intro W2 hgx hrb; simp only [Act.put, List.setIfInBounds_toArray, List.set_cons_zero, List.set_cons_succ]))
      obtain ⟨pb, hpb⟩ : ∃ pb, pb = W1.heap.size := ⟨_, rfl⟩
      rw [← hpb] at hrb ⊢
      have hpb' := Lib.hid (show W1.heap.size ≤ pb by omega)
      clear c0 c1 c2 c3 e0 e1 hpb
      obtain ⟨⟨⟨c0, c1⟩, c2, c3⟩, e0, e1⟩ := HB.out _ hgx
      rcases (by omega : c.kd = 1 ∨ c.kd = 3 ∨ (c.kd ≠ 1 ∧ c.kd ≠ 3)) with hk1 | hk3 | ⟨hk1, hk3⟩
      · have b1 : (c.kd == 1) = true := by simp [hk1]
        have hx1 := opL_next hop'.out
        rw [if_pos hk1] at hx1
        have happ := Lib.hid (back_insert hM0.out hM1.out hk1 hop'.out)
        have hbk := Lib.hid (show (⟨2, x, 0, 0, zeroNode⟩ : Chg).ok from ⟨by show (0 : Int) ≤ 2 ∧ (2 : Int) ≤ 255; omega, wfI _wx, by show (-9223372036854775808 : Int) ≤ 0 ∧ (0 : Int) ≤ 9223372036854775807; omega, by show (-9223372036854775808 : Int) ≤ 0 ∧ (0 : Int) ≤ 9223372036854775807; omega, zero_ok⟩)
        have hbl := Lib.hid (show lenN (⟨2, x, 0, 0, zeroNode⟩ : Chg).y ≤ 5000 from by show lenN zeroNode ≤ 5000; decide)
        have hrs := Lib.hid (hrb.store (⟨2, x, 0, 0, zeroNode⟩ : Chg).cells)
        have hgs := Lib.hid (grown_new hgx (grownBy_setRow W2 pb (⟨2, x, 0, 0, zeroNode⟩ : Chg).cells) (fun g e => by cases e; exact hpb'.out))
        clear hx1 hk1 hkd hk2 hgx
        go_upto_region 19 with (first
          | (refine wpList_build (o := ⟨some 50, _, _, _, _, _⟩) rfl (T := 34) rfl (⟨2, x, 0, 0, zeroNode⟩ : Chg).cells (by kernel_rfl) ?_; simp only [Act.put, List.setIfInBounds_toArray, List.set_cons_zero, List.set_cons_succ])
          | (refine wpList_put bigC hrb (Chg.size hbk0.out) (Chg.size hbk.out) (Chg.one hbk.out) (x := .tmp 7) (y := .tmp 50) rfl rfl rfl rfl ?_; simp only [Act.put, List.setIfInBounds_toArray, List.set_cons_zero, List.set_cons_succ]))
        have hrz := hrs.out
        have hgz := hgs.out
        clear hrs hgs hrb c0 c1 c2 c3 e0 e1
        generalize W2.setRow pb (⟨2, x, 0, 0, zeroNode⟩ : Chg).cells = W3 at *
        have CA2 := apply_ok (k := k3) ((D1'.out.grow hgz).nodes) hsm3.out hbk.out hbl.out happ.out (by rw [hlen.out]; omega)
        rw [hlen.out] at CA2
        have CA2' := Lib.hid CA2
        obtain ⟨⟨⟨c0, c1⟩, c2, c3⟩, e0, e1⟩ := HB.out _ hgz
        clear CA2
        go_wp2_with (refine wpList_row bigC hrz (Chg.size hbk.out) (x := .tmp 7) rfl (by kernel_rfl) (by kernel_rfl) ?_; simp only [Act.put, List.setIfInBounds_toArray, List.set_cons_zero, List.set_cons_succ])
        refine CA2'.out.mono ?_; rintro r w6 ⟨A6, k6, rfl, N6, hg6⟩
        clear c0 c1 c2 c3 e0 e1 hrz CA2'
        have ha6 := World.grownBy_alloc w6 (.cells #[.slice A6 n k6, .int .i64 x'] 24) none
        obtain ⟨⟨⟨c0, c1⟩, c2, c3⟩, e0, e1⟩ := HB.out _ (grown_trans hgz (grown_trans hg6 ha6))
        have ha7 := World.grownBy_alloc w6 (.cells #[.slice A6 n k6, .int .i64 x] 24) none
        have D7 := Lib.hid (DB.new (k := k6) (x := x) N6)
        have hg8 := Lib.hid (grown_trans hgz (grown_trans hg6 ha7))
        clear N6 ha6 ha7 hg6 hgz
        go_upto_region 21 with fail
        clear c0 c1 c2 c3 e0 e1
        generalize w6.alloc (.cells #[.slice A6 n k6, .int .i64 x] 24) = W7 at *
        have f0 := D7.out.two.c0
        have f1 := D7.out.two.c1
        obtain ⟨⟨⟨c0, c1⟩, c2, c3⟩, e0, e1⟩ := HB.out _ hg8.out
        have CS := dsame_any A6 n k6 L x _ n k L x W7 hok.out hok.out hlen.out hlen.out D7.out.nodes.reads ((D0'.out.grow hg8.out).nodes).reads (by omega) (by omega)
        rw [(docEq_iff' hok.out hok.out).2 ⟨rfl, rfl⟩] at CS
        have CS' := Lib.hid CS
        clear CS
        go_wp2_with fail
        refine CS'.out.mono ?_; rintro r w8 ⟨rfl, hg9⟩
        go_wp2_with fail
        go_ret
        exact ⟨rfl, grown_below (grown_trans hg0'.out (grown_trans hga'.out (grown_trans hg8.out hg9)))⟩
      · have b1 : (c.kd == 1) = false := by simp [hk3]
        have b3 : (c.kd == 3) = true := by simp [hk3]
        have hxx := opL_next hop'.out
        rw [if_neg (by omega)] at hxx
        subst hxx
        have hop2 := move_op hk3 hop'.out
        obtain ⟨u, m, g, v, q, T, RR, hMv⟩ := moved_of hok.out hM0.out.1 hop2
        have hun := hMv.cut.un
        have hm0 := hMv.cut.m0
        rw [hlen.out] at hun
        have hul : u < n := by omega
        obtain ⟨p, hpp, hpu, _, _, hkid, hbox, hup⟩ := parent_facts hM0.out.1 hMv.cut.u0 (u := u) (by rw [hlen.out]; exact hul)
        obtain ⟨q0, hq0⟩ : ∃ q0, q0 = cntK' (dp L) p u := ⟨_, rfl⟩
        have happ0 := back_move hMv hM0.out hM1.out hpp
        rw [← hq0] at happ0 hkid
        rw [hlen.out] at hkid
        obtain ⟨K, hK⟩ : ∃ K, K = (kidsN (dp L) n p).length := ⟨_, rfl⟩
        have hqK : q0 < K := by rw [hK]; exact (List.getElem?_eq_some_iff.1 hkid).1
        have hpn : p < n := by omega
        have hK3 : K ≤ n := by
          rw [hK]
          unfold kidsN
          have h1 := List.length_filter_le (fun j => decide (dp L j = dp L p + 1)) (List.range' (p + 1) (endN (dp L) n p - (p + 1)))
          have h2 := endN_le (d := dp L) (n := n) (i := p) (by omega)
          rw [List.length_range'] at h1
          omega
        have hkd0 := Lib.hid (fun j kid (h : (kidsN (dp L) n p)[j]? = some kid) (hne : j ≠ q0) => show kid ≠ u from fun e => hne (by rw [e] at h; rw [hq0]; exact kids_idx hpn h))
        obtain ⟨ku, hku⟩ : ∃ ku, ku = upK L u := ⟨_, rfl⟩
        have hkub : -9223372036854775808 ≤ ku ∧ ku ≤ 9223372036854775807 := by
          rw [hku, hup]
          exact (n_key (nd_ok_ hok.out (show p < L.length by rw [hlen.out]; exact hpn))).2
        rw [← hku] at happ0
        have happ := Lib.hid happ0
        have hbkj := Lib.hid (fun (j : Nat) (hj : j ≤ n) => show (⟨3, c.key, ku, (j : Int), zeroNode⟩ : Chg).ok from ⟨by show (0 : Int) ≤ 3 ∧ (3 : Int) ≤ 255; omega, hc'.out.key, hkub, by show (-9223372036854775808 : Int) ≤ (j : Int) ∧ (j : Int) ≤ 9223372036854775807; omega, zero_ok⟩)
        have hbl := Lib.hid (show lenN (⟨3, c.key, ku, (q0 : Int), zeroNode⟩ : Chg).y ≤ 5000 from by show lenN zeroNode ≤ 5000; decide)
        have hfu := hMv.fu
        have CF := Lib.hid (fun W (hg : W1.grownBy W none) => show Calls Try.prog 12 #[.agg #[.slice A n k, .int .i64 x'], .int .i64 c.key] W fun e w' => e = .returned (.int .i64 (u : Int)) ∧ W.grownBy w' none from by
          have := dfind_any A n k L x' c.key W ((D0'.out.grow hg).nodes)
          rw [hfu] at this
          exact this)
        have CU := Lib.hid (fun W (hg : W1.grownBy W none) => show Calls Try.prog 14 #[.agg #[.slice A n k, .int .i64 x'], .int .i64 (u : Int)] W fun e w' => e = .returned (.int .i64 ku) ∧ W.grownBy w' none from by
          have := up_any A n k x' u L W ((D0'.out.grow hg).nodes) hul
          rw [← hku] at this
          exact this)
        have CP := Lib.hid (fun W (hg : W1.grownBy W none) => show Calls Try.prog 16 #[.agg #[.slice A n k, .int .i64 x'], .int .i64 (u : Int)] W fun e w' => e = .returned (.int .i64 (p : Int)) ∧ W.grownBy w' none from by
          have := dparent_in A n k x' u L W ((D0'.out.grow hg).nodes) hul
          rw [hpp] at this
          exact this)
        have CK := Lib.hid (fun W (hg : W1.grownBy W none) => dkids_in A n k x' p L W ((D0'.out.grow hg).nodes) hpn)
        have hkid' := Lib.hid hkid
        have hK' := Lib.hid hK
        rw [hk3] at hrb
        have hrb' := Lib.hid (fun W (hg : W2.grownBy W none) => show Row W pb 34 (⟨3, c.key, 0, 0, zeroNode⟩ : Chg).cells from hrb.kept0 hg)
        clear hop2 hMv happ0 hku hup hbox hpp hkid hq0 hK hk3 hkd hk2 hfu hm0 hun hrb
        have hgx' := Lib.hid hgx
        go_wp2_with fail
        refine (CF.out _ hgx).mono ?_; rintro r w5 ⟨rfl, hgk⟩
        have hrb := hrb'.out _ hgk
        replace hgx := grown_trans hgx hgk
        clear c0 c1 c2 c3 e0 e1 hgk CF hrb'
        obtain ⟨⟨⟨c0, c1⟩, c2, c3⟩, e0, e1⟩ := HB.out _ hgx
        go_wp2_with fail
        refine (CU.out _ hgx).mono ?_; rintro r w6 ⟨rfl, hgk⟩
        have hr6 := hrb.kept0 hgk
        replace hgx := grown_trans hgx hgk
        clear c0 c1 c2 c3 e0 e1 hgk CU hrb
        have z2 : w6.cell? ⟨pb, 2, none⟩ = some (.int .i64 0) := (hr6.at 2).trans Chg.c2
        have zf := hr6.free 2
        have hr7 : Row (w6.setCell ⟨pb, 2, none⟩ (.int .i64 ku)) pb 34 (⟨3, c.key, ku, 0, zeroNode⟩ : Chg).cells := hr6.set 2 (.int .i64 ku)
        have hg7 := grown_new hgx (grownBy_setCell w6 pb 2 (.int .i64 ku)) (fun g e => by cases e; exact hpb'.out)
        have hr7' := Lib.hid hr7
        clear hr7 hr6 hgx
        go_upto_region 16 with fail
        clear z2 zf
        generalize w6.setCell ⟨pb, 2, none⟩ (.int .i64 ku) = W3 at *
        have hr7d := Lib.hid (fun W (hg : W3.grownBy W none) => hr7'.out.kept0 hg)
        have hgd := grown_drew (World.grownBy.refl W3 none)
        obtain ⟨⟨⟨c0, c1⟩, c2, c3⟩, e0, e1⟩ := HB.out _ (grown_trans hg7 hgd)
        go_region_held3 (fun W => W.cell? ⟨p0, 0, none⟩ = some (.slice A n k) ∧ W.cell? ⟨p0, 1, none⟩ = some (.int .i64 x')) (first | exact ⟨c0, c1⟩ | go_keep) (first
          | (go_at_call 16; ((with_reducible refine (CP.out _ (grown_trans hg7 hgd)).mono ?_); rintro e vv ⟨rfl, hgk⟩); clear c0 c1 c2 c3 e0 e1; replace hgd := grown_trans hgd hgk; obtain ⟨⟨⟨c0, c1⟩, c2, c3⟩, e0, e1⟩ := HB.out _ (grown_trans hg7 hgd); clear hgk)
          | (go_at_call 15; ((with_reducible refine (CK.out _ (grown_trans hg7 hgd)).mono ?_); rintro e v5 ⟨A5, k5, rfl, hownK, hgk⟩); clear c0 c1 c2 c3 e0 e1; replace hgd := grown_trans hgd hgk; obtain ⟨⟨⟨c0, c1⟩, c2, c3⟩, e0, e1⟩ := HB.out _ (grown_trans hg7 hgd); clear hgk))
        rw [← hK'.out]
        rw [← hK'.out] at hownK
        have hr8 := hr7d.out _ hgd
        have hg8 := grown_trans hg7 hgd
        obtain ⟨g5, hA5, _, hb5, _, _⟩ := hownK.cells_ (by rw [List.length_map, ← hK'.out]; omega)
        subst hA5
        have hownK' := Lib.hid hownK
        have hr8' := Lib.hid hr8
        clear hownK hg7 hgd c0 c1 c2 c3 e0 e1 CP CK hr7d hr7' hr8
        go_upto_region 17 with fail
        go_loopw [] (fun wr => ∃ j : Nat, j ≤ q0 ∧ Row wr pb 34 (⟨3, c.key, ku, (j : Int), zeroNode⟩ : Chg).cells ∧ v5.grownBy wr (some pb)) (fun wr => q0 - cellN wr pb)
        case atStart => exact ⟨0, by omega, hr8'.out, World.grownBy.refl _ _⟩
        case round =>
          obtain ⟨j, hj, hrj, hgr⟩ := hrel
          obtain ⟨wo, rfl⟩ : ∃ wo : World, wo = wr := ⟨_, rfl⟩
          have hgz := grown_new hg8 hgr (fun g e => by cases e; exact hpb'.out)
          obtain ⟨g6, hg6, _, _, _, hcK⟩ := (hownK'.out.kept_ hgr hr8'.out (by decide)).cells_ (by rw [List.length_map, ← hK'.out]; omega)
          cases hg6
          have hjK : j < K := by omega
          obtain ⟨kid, hkd1⟩ : ∃ kid, (kidsN (dp L) n p)[j]? = some kid := ⟨_, List.getElem?_eq_getElem (by rw [← hK'.out]; exact hjK)⟩
          have zk : wo.cell? ⟨g5, j, none⟩ = some (.int .i64 (kid : Int)) := by
            rw [hcK j (by rw [List.length_map, ← hK'.out]; exact hjK), List.getElem?_map, hkd1]
            rfl
          have z3 : wo.cell? ⟨pb, 3, none⟩ = some (.int .i64 (j : Int)) := (hrj.at 3).trans Chg.c3
          have zf := hrj.free 3
          have d2 : decide ((j : Int) < (K : Int)) = true := decide_eq_true (by omega)
          have j1 : (0 : Int) ≤ (j : Int) := by omega
          have j2 : (j : Int) < (K : Int) := by omega
          clear hcK
          by_cases hlt : j < q0
          · have bne : ((kid : Int) != (u : Int)) = true := by
              have := hkd0.out j kid hkd1 (by omega)
              simp; omega
            have hwj : IntKind.i64.wrap ((j : Int) + 1) = (j : Int) + 1 := by rw [IntKind.wrap_i64]; omega
            have hrn := Lib.hid (show Row (wo.setCell ⟨pb, 3, none⟩ (.int .i64 ((j : Int) + 1))) pb 34 (⟨3, c.key, ku, ((j + 1 : Nat) : Int), zeroNode⟩ : Chg).cells from hrj.set 3 (.int .i64 ((j : Int) + 1)))
            have hgn := Lib.hid (show v5.grownBy (wo.setCell ⟨pb, 3, none⟩ (.int .i64 ((j : Int) + 1))) (some pb) from hgr.trans (grownBy_setCell wo pb 3 _))
            have hme := Lib.hid (cellN_row hrj)
            clear hkd1 hrj hgr hgz
            go_wp2_with fail
            refine ⟨⟨j + 1, by omega, hrn.out, hgn.out⟩, ?_⟩
            rw [cellN_row hrn.out, hme.out]
            simp
            omega
          · obtain rfl : j = q0 := by omega
            have hku0 : kid = u := by
              have := hkid'.out
              rw [hkd1] at this
              exact Option.some.inj this
            subst hku0
            have bne : ((kid : Int) != (kid : Int)) = false := by simp
            have hbk := Lib.hid (hbkj.out j (by omega))
            have hrz := hrj
            clear hkd1 hrj hgr hkd0
            go_upto_region 19 with fail
            clear zk z3 zf
            have CA2 := apply_ok (k := k3) ((D1'.out.grow hgz).nodes) hsm3.out hbk.out hbl.out happ.out (by rw [hlen.out]; omega)
            rw [hlen.out] at CA2
            have CA2' := Lib.hid CA2
            obtain ⟨⟨⟨c0, c1⟩, c2, c3⟩, e0, e1⟩ := HB.out _ hgz
            clear CA2
            go_wp2_with (refine wpList_row bigC hrz (Chg.size hbk.out) (x := .tmp 7) rfl (by kernel_rfl) (by kernel_rfl) ?_; simp only [Act.put, List.setIfInBounds_toArray, List.set_cons_zero, List.set_cons_succ])
            refine CA2'.out.mono ?_; rintro r w6 ⟨A6, k6, rfl, N6, hg6⟩
            clear c0 c1 c2 c3 e0 e1 hrz CA2'
            have ha6 := World.grownBy_alloc w6 (.cells #[.slice A6 n k6, .int .i64 x'] 24) none
            obtain ⟨⟨⟨c0, c1⟩, c2, c3⟩, e0, e1⟩ := HB.out _ (grown_trans hgz (grown_trans hg6 ha6))
            have ha7 := World.grownBy_alloc w6 (.cells #[.slice A6 n k6, .int .i64 x'] 24) none
            have D7 := Lib.hid (DB.new (k := k6) (x := x') N6)
            have hg8 := Lib.hid (grown_trans hgz (grown_trans hg6 ha7))
            clear N6 ha6 ha7 hg6 hgz
            go_upto_region 21 with fail
            clear c0 c1 c2 c3 e0 e1
            generalize w6.alloc (.cells #[.slice A6 n k6, .int .i64 x'] 24) = W7 at *
            have f0 := D7.out.two.c0
            have f1 := D7.out.two.c1
            obtain ⟨⟨⟨c0, c1⟩, c2, c3⟩, e0, e1⟩ := HB.out _ hg8.out
            have CS := dsame_any A6 n k6 L x' _ n k L x' W7 hok.out hok.out hlen.out hlen.out D7.out.nodes.reads ((D0'.out.grow hg8.out).nodes).reads (by omega) (by omega)
            rw [(docEq_iff' hok.out hok.out).2 ⟨rfl, rfl⟩] at CS
            have CS' := Lib.hid CS
            clear CS
            go_wp2_with fail
            refine CS'.out.mono ?_; rintro r w8 ⟨rfl, hg9⟩
            go_wp2_with fail
            go_ret
            exact ⟨rfl, grown_below (grown_trans hg0'.out (grown_trans hga'.out (grown_trans hg8.out hg9)))⟩
      · have b1 : (c.kd == 1) = false := by simp [hk1]
        have b3 : (c.kd == 3) = false := by simp [hk3]
        have hxx := opL_next hop'.out
        rw [if_neg hk1] at hxx
        subst hxx
        have h45 : ∃ u : Nat, findI L c.key = (u : Int) ∧ u < n ∧ Applies L' x' ⟨c.kd, c.key, 0, 0, nd L u⟩ (.ok (L, x')) := by
          rcases (by omega : c.kd = 4 ∨ c.kd = 5) with h4 | h5
          · obtain ⟨u, hs, hk0, _⟩ := styled_of hok.out h4 hop'.out
            refine ⟨u, hs.fu, by have := hs.ul; rw [hlen.out] at this; exact this, ?_⟩
            rw [h4]
            exact back_style hok.out hc'.out hs hk0 hM0.out hM1.out
          · obtain ⟨u, hs, hk0, _⟩ := texted_of (by omega) hop'.out
            refine ⟨u, hs.fu, by have := hs.ul; rw [hlen.out] at this; exact this, ?_⟩
            rw [h5]
            exact back_text hok.out hs hk0 hM0.out hM1.out
        obtain ⟨u, hfu, hul, happ0⟩ := h45
        have happ := Lib.hid happ0
        have hoku := Lib.hid (nd_ok_ hok.out (show u < L.length by rw [hlen.out]; exact hul))
        have hbk := Lib.hid (show (⟨c.kd, c.key, 0, 0, nd L u⟩ : Chg).ok from ⟨hc'.out.kd, hc'.out.key, by show (-9223372036854775808 : Int) ≤ 0 ∧ (0 : Int) ≤ 9223372036854775807; omega, by show (-9223372036854775808 : Int) ≤ 0 ∧ (0 : Int) ≤ 9223372036854775807; omega, hoku.out⟩)
        have hbl := Lib.hid (show lenN (⟨c.kd, c.key, 0, 0, nd L u⟩ : Chg).y ≤ 5000 from hsm.out u hul)
        have CF := Lib.hid (fun W (hg : W1.grownBy W none) => show Calls Try.prog 12 #[.agg #[.slice A n k, .int .i64 x'], .int .i64 c.key] W fun e w' => e = .returned (.int .i64 (u : Int)) ∧ W.grownBy w' none from by
          have := dfind_any A n k L x' c.key W ((D0'.out.grow hg).nodes)
          rw [hfu] at this
          exact this)
        have hld := Lib.hid (fun W (hg : W1.grownBy W none) => show ∃ ad, A = some ad ∧ (Instr.loadAt 32 (.pointer (some (ad.add (u * 51))))).run Try.prog W = .ok (.agg (nd L u).toArray) W from by
          obtain ⟨ad, h1, _⟩ := ((D0'.out.grow hg).nodes).some_ hul
          subst h1
          exact ⟨ad, rfl, ((D0'.out.grow hg).nodes).load hul⟩)
        have hrb' := Lib.hid (fun W (hg : W2.grownBy W none) => hrb.kept0 hg)
        have i1 : (0 : Int) ≤ (u : Int) := by omega
        have i2 : (u : Int) < (n : Int) := by omega
        clear happ0 hfu hk1 hk3 hkd hk2 hrb
        go_upto_region 10 with fail
        have hgd := grown_drew (World.grownBy.refl W2 none)
        have hg7 := grown_trans hgx hgd
        clear c0 c1 c2 c3 e0 e1
        refine wp_region_held (S := fun V => W1.grownBy V none) (by kernel_rfl) ?_
        refine wpAnyH_take (i := 0) (v := .pointer (some ⟨p0, 0, none⟩)) rfl (by kernel_rfl) (by kernel_rfl) (by kernel_rfl) (fun _ _ _ h => h) (Or.inl ⟨by kernel_rfl, fun V _ => by kernel_rfl⟩) hg7 ?_
        simp only [Act.put, List.getElem_toArray, List.getElem_cons_succ, List.getElem_cons_zero, List.setIfInBounds_toArray, List.set_cons_zero, List.set_cons_succ]
        refine wpAnyH_take (i := 1) (v := .slice A n k) rfl (by kernel_rfl) (by kernel_rfl) (by kernel_rfl) (fun _ _ _ h => h) (Or.inl ⟨by kernel_rfl, fun V hV => by obtain ⟨⟨⟨c0, c1⟩, c2, c3⟩, e0, e1⟩ := HB.out _ hV; go_simp⟩) hg7 ?_
        simp only [Act.put, List.getElem_toArray, List.getElem_cons_succ, List.getElem_cons_zero, List.setIfInBounds_toArray, List.set_cons_zero, List.set_cons_succ]
        refine wpAnyH_take (i := 2) (v := .agg #[.slice A n k, .int .i64 x']) rfl (by kernel_rfl) (by kernel_rfl) (by kernel_rfl) (fun _ _ _ h => h) (Or.inl ⟨by kernel_rfl, fun V hV => by obtain ⟨⟨⟨c0, c1⟩, c2, c3⟩, e0, e1⟩ := HB.out _ hV; go_simp⟩) hg7 ?_
        simp only [Act.put, List.getElem_toArray, List.getElem_cons_succ, List.getElem_cons_zero, List.setIfInBounds_toArray, List.set_cons_zero, List.set_cons_succ]
        refine wpAnyH_take (i := 3) (v := .pointer (some ⟨pc, 1, none⟩)) rfl (by kernel_rfl) (by kernel_rfl) (by kernel_rfl) (fun _ _ _ h => h) (Or.inl ⟨by kernel_rfl, fun V _ => by kernel_rfl⟩) hg7 ?_
        simp only [Act.put, List.getElem_toArray, List.getElem_cons_succ, List.getElem_cons_zero, List.setIfInBounds_toArray, List.set_cons_zero, List.set_cons_succ]
        refine wpAnyH_take (i := 4) (v := .int .i64 c.key) rfl (by kernel_rfl) (by kernel_rfl) (by kernel_rfl) (fun _ _ _ h => h) (Or.inl ⟨by kernel_rfl, fun V hV => by obtain ⟨⟨⟨c0, c1⟩, c2, c3⟩, e0, e1⟩ := HB.out _ hV; go_simp⟩) hg7 ?_
        simp only [Act.put, List.getElem_toArray, List.getElem_cons_succ, List.getElem_cons_zero, List.setIfInBounds_toArray, List.set_cons_zero, List.set_cons_succ]
        refine wpAnyH_ready (rs := [5]) (by kernel_rfl) (by simp) ?_
        refine AllReadyH.cons rfl (fun K hK => ?_) AllReadyH.nil
        go_simp
        refine (CF.out _ hg7).mono ?_; rintro r w5 ⟨rfl, hg5⟩
        have hg8 := grown_trans hg7 hg5
        refine hK.out _ _ hg8 (fun _ => ?_)
        clear hK K
        obtain ⟨ad, hA, _⟩ := hld.out _ hg8
        subst hA
        refine wpAnyH_take (i := 6) (v := .pointer (some (ad.add (u * 51)))) rfl (by kernel_rfl) (by kernel_rfl) (by kernel_rfl) (fun _ _ _ h => h) (Or.inl ⟨by kernel_rfl, fun V _ => by go_simp⟩) hg8 ?_
        simp only [Act.put, List.getElem_toArray, List.getElem_cons_succ, List.getElem_cons_zero, List.setIfInBounds_toArray, List.set_cons_zero, List.set_cons_succ]
        refine wpAnyH_take (i := 7) (v := .agg (nd L u).toArray) rfl (by kernel_rfl) (by kernel_rfl) (by kernel_rfl) (fun _ _ _ h => h) (Or.inl ⟨by kernel_rfl, fun V hV => by
          obtain ⟨ad', hA', hl'⟩ := hld.out V hV
          cases hA'
          exact exec_load rfl rfl hl'⟩) hg8 ?_
        simp only [Act.put, List.getElem_toArray, List.getElem_cons_succ, List.getElem_cons_zero, List.setIfInBounds_toArray, List.set_cons_zero, List.set_cons_succ]
        refine wpAnyH_take (i := 8) (v := .pointer (some ⟨pb, 4, none⟩)) rfl (by kernel_rfl) (by kernel_rfl) (by kernel_rfl) (fun _ _ _ h => h) (Or.inl ⟨by kernel_rfl, fun V _ => by kernel_rfl⟩) hg8 ?_
        simp only [Act.put, List.getElem_toArray, List.getElem_cons_succ, List.getElem_cons_zero, List.setIfInBounds_toArray, List.set_cons_zero, List.set_cons_succ]
        have hr5 := hrb'.out _ (grown_trans hgd hg5)
        have hl51 := hoku.out.len
        rw [nodeLs_len] at hl51
        have hg9 := grown_new hg8 (grownBy_setCells (nd L u) 4 w5) (fun g e => by cases e; exact hpb'.out)
        refine wpAnyH_store_many (T := 32) (g := pb) (off := 4) (ds := nd L u) 9 (.tmp 45) (.tmp 44) (by kernel_rfl) (by kernel_rfl) rfl rfl (by rw [hl51]; exact infoNode) (okAll_one hoku.out) (fun j hj => by
          rw [hr5.at]
          unfold Chg.cells
          rw [List.getElem?_toArray, List.getElem?_eq_getElem (by simp only [List.length_cons]; have : zeroNode.length = 51 := rfl; omega)]
          rfl) (fun j hj => hr5.free _) hg9 ?_
        refine wpAnyH_done (by kernel_rfl) ?_ _
        have hrz : Row (w5.setCells pb 4 (nd L u)) pb 34 (⟨c.kd, c.key, 0, 0, nd L u⟩ : Chg).cells := by
          have h1 := hr5.setCells (nd L u) 4
          rw [layL_y _ _ _ _ _ _ (by rw [hl51]; rfl)] at h1
          exact h1
        have hgz := hg9
        clear hr5 hg9 hg8 hg7 hg5 hgd hld hrb' CF hl51 i1 i2
        generalize w5.setCells pb 4 (nd L u) = W3 at *
        go_upto_region 19 with fail
        have CA2 := apply_ok (k := k3) ((D1'.out.grow hgz).nodes) hsm3.out hbk.out hbl.out happ.out (by rw [hlen.out]; omega)
        rw [hlen.out] at CA2
        have CA2' := Lib.hid CA2
        obtain ⟨⟨⟨c0, c1⟩, c2, c3⟩, e0, e1⟩ := HB.out _ hgz
        clear CA2
        go_wp2_with (refine wpList_row bigC hrz (Chg.size hbk.out) (x := .tmp 7) rfl (by kernel_rfl) (by kernel_rfl) ?_; simp only [Act.put, List.setIfInBounds_toArray, List.set_cons_zero, List.set_cons_succ])
        refine CA2'.out.mono ?_; rintro r w6 ⟨A6, k6, rfl, N6, hg6⟩
        clear c0 c1 c2 c3 e0 e1 hrz CA2'
        have ha6 := World.grownBy_alloc w6 (.cells #[.slice A6 n k6, .int .i64 x'] 24) none
        obtain ⟨⟨⟨c0, c1⟩, c2, c3⟩, e0, e1⟩ := HB.out _ (grown_trans hgz (grown_trans hg6 ha6))
        have ha7 := World.grownBy_alloc w6 (.cells #[.slice A6 n k6, .int .i64 x'] 24) none
        have D7 := Lib.hid (DB.new (k := k6) (x := x') N6)
        have hg8 := Lib.hid (grown_trans hgz (grown_trans hg6 ha7))
        clear N6 ha6 ha7 hg6 hgz
        go_upto_region 21 with fail
        clear c0 c1 c2 c3 e0 e1
        generalize w6.alloc (.cells #[.slice A6 n k6, .int .i64 x'] 24) = W7 at *
        have f0 := D7.out.two.c0
        have f1 := D7.out.two.c1
        obtain ⟨⟨⟨c0, c1⟩, c2, c3⟩, e0, e1⟩ := HB.out _ hg8.out
        have CS := dsame_any A6 n k6 L x' _ n k L x' W7 hok.out hok.out hlen.out hlen.out D7.out.nodes.reads ((D0'.out.grow hg8.out).nodes).reads (by omega) (by omega)
        rw [(docEq_iff' hok.out hok.out).2 ⟨rfl, rfl⟩] at CS
        have CS' := Lib.hid CS
        clear CS
        go_wp2_with fail
        refine CS'.out.mono ?_; rintro r w8 ⟨rfl, hg9⟩
        go_wp2_with fail
        go_ret
        exact ⟨rfl, grown_below (grown_trans hg0'.out (grown_trans hga'.out (grown_trans hg8.out hg9)))⟩
end Go.Proofs.Ytjnbfgogmhfbiaa
