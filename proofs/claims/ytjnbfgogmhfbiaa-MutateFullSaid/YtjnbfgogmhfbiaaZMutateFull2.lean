/- Texts of the claim MutateFull, joined (part 2). -/
import Derived.Test.YtjnbfgogmhfbiaaZMutateFull1
import Derived.Test.YtjnbfgogmhfbiaaNs
/- The law's own examples: awake, walked. -/
namespace Go.Proofs.Ytjnbfgogmhfbiaa
open Go Go.RowKit
/-- A document in a box. -/
structure DB (w : World) (p : Nat) (A : Option Addr) (n k : Nat) (L : List (List Value)) (x : Int) : Prop where
  two : Two w p 24 (.slice A n k) (.int .i64 x)
  nodes : NodesAt w w.heap.size A n L
theorem DB.grow {w w' : World} {p : Nat} {A : Option Addr} {n k : Nat} {L : List (List Value)} {x : Int} (h : DB w p A n k L x) (hg : w.grownBy w' none) : DB w' p A n k L x := ⟨h.two.kept hg (by simp), h.nodes.grow hg⟩
theorem DB.new {w : World} {A : Option Addr} {n k : Nat} {L : List (List Value)} {x : Int} (h : NodesAt w w.heap.size A n L) : DB (w.alloc (.cells #[.slice A n k, .int .i64 x] 24)) w.heap.size A n k L x := ⟨Two.new _ _ _ _, h.grow (World.grownBy_alloc _ _ _)⟩
theorem reads_row {w : World} {g : Nat} {T : TypeId} {cs : Array Value} (h : Row w g T cs) {xs : List Value} (hx : cs.toList = xs) : Reads w w.heap.size (some ⟨g, 0, none⟩) xs := fun _ =>
  ⟨_, rfl, h.lt, fun j u hu => by rw [Addr.add_lit, Nat.zero_add, h.at, ← Array.getElem?_toList, hx]; exact hu⟩
set_option maxRecDepth 100000 in
set_option maxHeartbeats 8000000 in
theorem awake_any (w : World) : Calls Try.prog 8 #[] w fun e w' => e = .returned (.bool true) ∧ w.grownBy w' none := by
  go_enter Try.func8, Try.ntmps8
  go_wp2_with fail
  refine (four_any w).mono ?_; rintro e v0 ⟨rfl, own, hg⟩
  have hN0 : NodesAt v0 v0.heap.size (some ⟨w.heap.size + 1, 0, none⟩) 4 fourL := ⟨four_ok, rfl, own.reads, by omega⟩
  clear own
  have ga := World.grownBy_alloc v0 (.cells #[.slice (some ⟨w.heap.size + 1, 0, none⟩) 4 4, .int .i64 5] 24) none
  have Dd := Lib.hid (DB.new (k := 4) (x := 5) hN0)
  replace hg := grown_trans hg ga
  clear ga hN0
  have c0 := Dd.out.two.c0
  have c1 := Dd.out.two.c1
  go_wp2_with (first
    | (refine wpList_build (o := ⟨some 25, _, _, _, _, _⟩) rfl (T := 34) rfl ch1.cells (by kernel_rfl) ?_; simp only [Act.put, List.setIfInBounds_toArray, List.set_cons_zero, List.set_cons_succ]))
  generalize v0.alloc (.cells #[.slice (some ⟨w.heap.size + 1, 0, none⟩) 4 4, .int .i64 5] 24) = W1 at *
  refine (apply_ok Dd.out.nodes four_len ch1_ok (by decide) ap1 (by decide)).mono ?_; rintro r v1 ⟨A1, k1, rfl, N1, g1⟩
  clear c0 c1
  have ga := World.grownBy_alloc v1 (.cells #[.slice A1 doc1.length k1, .int .i64 6] 24) none
  replace Dd := Lib.hid ((Dd.out.grow g1).grow ga)
  have Da := Lib.hid (DB.new (k := k1) (x := 6) N1)
  clear N1
  replace hg := grown_trans hg (grown_trans g1 ga)
  clear ga g1
  have c0 := Dd.out.two.c0
  have c1 := Dd.out.two.c1
  go_wp2_with (first
    | (refine wpList_build (o := ⟨some 32, _, _, _, _, _⟩) rfl (T := 34) rfl ch2.cells (by kernel_rfl) ?_; simp only [Act.put, List.setIfInBounds_toArray, List.set_cons_zero, List.set_cons_succ])
    | (refine wpList_build (o := ⟨some 31, _, _, _, _, _⟩) rfl (T := 32) rfl txtNode.toArray (by kernel_rfl) ?_; simp only [Act.put, List.setIfInBounds_toArray, List.set_cons_zero, List.set_cons_succ]))
  generalize v1.alloc (.cells #[.slice A1 doc1.length k1, .int .i64 6] 24) = W2 at *
  refine (apply_ok Dd.out.nodes four_len ch2_ok (by decide) ap2 (by decide)).mono ?_; rintro r v2 ⟨A2, k2, rfl, N2, g2⟩
  clear c0 c1
  have ga := World.grownBy_alloc v2 (.cells #[.slice A2 doc2.length k2, .int .i64 6] 24) none
  replace Dd := Lib.hid ((Dd.out.grow g2).grow ga)
  replace Da := Lib.hid ((Da.out.grow g2).grow ga)
  have Db := Lib.hid (DB.new (k := k2) (x := 6) N2)
  clear N2
  replace hg := grown_trans hg (grown_trans g2 ga)
  clear ga g2
  have c0 := Dd.out.two.c0
  have c1 := Dd.out.two.c1
  go_wp2_with (first
    | (refine wpList_build (o := ⟨some 38, _, _, _, _, _⟩) rfl (T := 34) rfl ch3.cells (by kernel_rfl) ?_; simp only [Act.put, List.setIfInBounds_toArray, List.set_cons_zero, List.set_cons_succ]))
  generalize v2.alloc (.cells #[.slice A2 doc2.length k2, .int .i64 6] 24) = W3 at *
  refine (apply_err Dd.out.nodes four_len ch3_ok (by decide) ap3).mono ?_; rintro r v3 ⟨rfl, g3⟩
  clear c0 c1
  have ga := World.grownBy_alloc v3 (.cells #[.slice none 0 0, .int .i64 0] 24) none
  replace Dd := Lib.hid ((Dd.out.grow g3).grow ga)
  replace Da := Lib.hid ((Da.out.grow g3).grow ga)
  replace Db := Lib.hid ((Db.out.grow g3).grow ga)
  replace hg := grown_trans hg (grown_trans g3 ga)
  clear ga g3
  have c0 := Dd.out.two.c0
  have c1 := Dd.out.two.c1
  go_wp2_with (first
    | (refine wpList_build (o := ⟨some 44, _, _, _, _, _⟩) rfl (T := 34) rfl ch4.cells (by kernel_rfl) ?_; simp only [Act.put, List.setIfInBounds_toArray, List.set_cons_zero, List.set_cons_succ]))
  generalize v3.alloc (.cells #[.slice none 0 0, .int .i64 0] 24) = W4 at *
  refine (apply_ok Dd.out.nodes four_len ch4_ok (by decide) ap4 (by decide)).mono ?_; rintro r v4 ⟨A4, k4, rfl, N4, g4⟩
  clear c0 c1
  have ga := World.grownBy_alloc v4 (.cells #[.slice A4 doc4.length k4, .int .i64 5] 24) none
  replace Dd := Lib.hid ((Dd.out.grow g4).grow ga)
  replace Da := Lib.hid ((Da.out.grow g4).grow ga)
  replace Db := Lib.hid ((Db.out.grow g4).grow ga)
  have Dc := Lib.hid (DB.new (k := k4) (x := 5) N4)
  clear N4
  replace hg := grown_trans hg (grown_trans g4 ga)
  clear ga g4
  have c0 := Dd.out.two.c0
  have c1 := Dd.out.two.c1
  go_wp2_with (first
    | (refine wpList_build (o := ⟨some 50, _, _, _, _, _⟩) rfl (T := 34) rfl ch5.cells (by kernel_rfl) ?_; simp only [Act.put, List.setIfInBounds_toArray, List.set_cons_zero, List.set_cons_succ]))
  generalize v4.alloc (.cells #[.slice A4 doc4.length k4, .int .i64 5] 24) = W5 at *
  refine (apply_err Dd.out.nodes four_len ch5_ok (by decide) ap5).mono ?_; rintro r v5 ⟨rfl, g5⟩
  clear c0 c1
  have ga := World.grownBy_alloc v5 (.cells #[.slice none 0 0, .int .i64 0] 24) none
  replace Dd := Lib.hid ((Dd.out.grow g5).grow ga)
  replace Da := Lib.hid ((Da.out.grow g5).grow ga)
  replace Db := Lib.hid ((Db.out.grow g5).grow ga)
  replace Dc := Lib.hid ((Dc.out.grow g5).grow ga)
  replace hg := grown_trans hg (grown_trans g5 ga)
  clear ga g5
  have c0 := Dd.out.two.c0
  have c1 := Dd.out.two.c1
  go_wp2_with (first
    | (refine wpList_build (o := ⟨some 56, _, _, _, _, _⟩) rfl (T := 34) rfl ch6.cells (by kernel_rfl) ?_; simp only [Act.put, List.setIfInBounds_toArray, List.set_cons_zero, List.set_cons_succ]))
  generalize v5.alloc (.cells #[.slice none 0 0, .int .i64 0] 24) = W6 at *
  refine (apply_ok Dd.out.nodes four_len ch6_ok (by decide) ap6 (by decide)).mono ?_; rintro r v6 ⟨A6, k6, rfl, N6, g6⟩
  clear c0 c1
  have ga := World.grownBy_alloc v6 (.cells #[.slice A6 doc6.length k6, .int .i64 5] 24) none
  replace Dd := Lib.hid ((Dd.out.grow g6).grow ga)
  replace Da := Lib.hid ((Da.out.grow g6).grow ga)
  replace Db := Lib.hid ((Db.out.grow g6).grow ga)
  replace Dc := Lib.hid ((Dc.out.grow g6).grow ga)
  have Dm := Lib.hid (DB.new (k := k6) (x := 5) N6)
  clear N6
  replace hg := grown_trans hg (grown_trans g6 ga)
  clear ga g6
  have c0 := Dd.out.two.c0
  have c1 := Dd.out.two.c1
  go_wp2_with (first
    | (refine wpList_build (o := ⟨some 62, _, _, _, _, _⟩) rfl (T := 34) rfl ch7.cells (by kernel_rfl) ?_; simp only [Act.put, List.setIfInBounds_toArray, List.set_cons_zero, List.set_cons_succ]))
  generalize v6.alloc (.cells #[.slice A6 doc6.length k6, .int .i64 5] 24) = W7 at *
  refine (apply_err Dd.out.nodes four_len ch7_ok (by decide) ap7).mono ?_; rintro r v7 ⟨rfl, g7⟩
  clear c0 c1
  have ga := World.grownBy_alloc v7 (.cells #[.slice none 0 0, .int .i64 0] 24) none
  replace Dd := Lib.hid ((Dd.out.grow g7).grow ga)
  replace Da := Lib.hid ((Da.out.grow g7).grow ga)
  replace Db := Lib.hid ((Db.out.grow g7).grow ga)
  replace Dc := Lib.hid ((Dc.out.grow g7).grow ga)
  replace Dm := Lib.hid ((Dm.out.grow g7).grow ga)
  replace hg := grown_trans hg (grown_trans g7 ga)
  clear ga g7
  have c0 := Dd.out.two.c0
  have c1 := Dd.out.two.c1
  go_wp2_with (first
    | (refine wpList_build (o := ⟨some 68, _, _, _, _, _⟩) rfl (T := 34) rfl ch8.cells (by kernel_rfl) ?_; simp only [Act.put, List.setIfInBounds_toArray, List.set_cons_zero, List.set_cons_succ]))
  generalize v7.alloc (.cells #[.slice none 0 0, .int .i64 0] 24) = W8 at *
  refine (apply_ok Dd.out.nodes four_len ch8_ok (by decide) ap8 (by decide)).mono ?_; rintro r v8 ⟨A8, k8, rfl, N8, g8⟩
  clear c0 c1
  have ga := World.grownBy_alloc v8 (.cells #[.slice A8 doc8.length k8, .int .i64 5] 24) none
  replace Dd := Lib.hid ((Dd.out.grow g8).grow ga)
  replace Da := Lib.hid ((Da.out.grow g8).grow ga)
  replace Db := Lib.hid ((Db.out.grow g8).grow ga)
  replace Dc := Lib.hid ((Dc.out.grow g8).grow ga)
  replace Dm := Lib.hid ((Dm.out.grow g8).grow ga)
  have Dn := Lib.hid (DB.new (k := k8) (x := 5) N8)
  clear N8
  replace hg := grown_trans hg (grown_trans g8 ga)
  clear ga g8
  have c0 := Dd.out.two.c0
  have c1 := Dd.out.two.c1
  go_wp2_with (first
    | (refine wpList_build (o := ⟨some 74, _, _, _, _, _⟩) rfl (T := 34) rfl ch9.cells (by kernel_rfl) ?_; simp only [Act.put, List.setIfInBounds_toArray, List.set_cons_zero, List.set_cons_succ]))
  generalize v8.alloc (.cells #[.slice A8 doc8.length k8, .int .i64 5] 24) = W9 at *
  refine (apply_err Dd.out.nodes four_len ch9_ok (by decide) ap9).mono ?_; rintro r v9 ⟨rfl, g9⟩
  clear c0 c1
  have ga := World.grownBy_alloc v9 (.cells #[.slice none 0 0, .int .i64 0] 24) none
  replace Dd := Lib.hid ((Dd.out.grow g9).grow ga)
  replace Da := Lib.hid ((Da.out.grow g9).grow ga)
  replace Db := Lib.hid ((Db.out.grow g9).grow ga)
  replace Dc := Lib.hid ((Dc.out.grow g9).grow ga)
  replace Dm := Lib.hid ((Dm.out.grow g9).grow ga)
  replace Dn := Lib.hid ((Dn.out.grow g9).grow ga)
  replace hg := grown_trans hg (grown_trans g9 ga)
  clear ga g9
  have c0 := Dd.out.two.c0
  have c1 := Dd.out.two.c1
  go_wp2_with (first
    | (refine wpList_build (o := ⟨some 82, _, _, _, _, _⟩) rfl (T := 34) rfl ch10.cells (by kernel_rfl) ?_; simp only [Act.put, List.setIfInBounds_toArray, List.set_cons_zero, List.set_cons_succ])
    | (refine wpList_build (o := ⟨some 80, _, _, _, _, _⟩) rfl (T := 30) rfl (styN badNode).toArray (by kernel_rfl) ?_; simp only [Act.put, List.setIfInBounds_toArray, List.set_cons_zero, List.set_cons_succ])
    | (refine wpList_build (o := ⟨some 81, _, _, _, _, _⟩) rfl (T := 32) rfl badNode.toArray (by kernel_rfl) ?_; simp only [Act.put, List.setIfInBounds_toArray, List.set_cons_zero, List.set_cons_succ]))
  generalize v9.alloc (.cells #[.slice none 0 0, .int .i64 0] 24) = W10 at *
  refine (apply_err Dd.out.nodes four_len ch10_ok (by decide) ap10).mono ?_; rintro r v10 ⟨rfl, g10⟩
  clear c0 c1
  have ga := World.grownBy_alloc v10 (.cells #[.slice none 0 0, .int .i64 0] 24) none
  replace Dd := Lib.hid ((Dd.out.grow g10).grow ga)
  replace Da := Lib.hid ((Da.out.grow g10).grow ga)
  replace Db := Lib.hid ((Db.out.grow g10).grow ga)
  replace Dc := Lib.hid ((Dc.out.grow g10).grow ga)
  replace Dm := Lib.hid ((Dm.out.grow g10).grow ga)
  replace Dn := Lib.hid ((Dn.out.grow g10).grow ga)
  replace hg := grown_trans hg (grown_trans g10 ga)
  clear ga g10
  have c0 := Da.out.two.c0
  have c1 := Da.out.two.c1
  go_upto_region 14 with fail
  generalize v10.alloc (.cells #[.slice none 0 0, .int .i64 0] 24) = W11 at *
  go_wp2_with fail
  have ga := World.grownBy_alloc W11 (.cells #[.int .i64 1, .int .i64 0, .int .i64 2, .int .i64 1, .int .i64 3, .int .i64 2, .int .i64 5, .int .i64 1, .int .i64 4, .int .i64 1] 3) none
  have hS : Reads (W11.alloc (.cells #[.int .i64 1, .int .i64 0, .int .i64 2, .int .i64 1, .int .i64 3, .int .i64 2, .int .i64 5, .int .i64 1, .int .i64 4, .int .i64 1] 3)) (W11.alloc (.cells #[.int .i64 1, .int .i64 0, .int .i64 2, .int .i64 1, .int .i64 3, .int .i64 2, .int .i64 5, .int .i64 1, .int .i64 4, .int .i64 1] 3)).heap.size (some ⟨W11.heap.size, 0, none⟩) (([1, 0, 2, 1, 3, 2, 5, 1, 4, 1] : List Int).map fun v => .int .i64 v) := reads_row (Row.new W11 3 #[.int .i64 1, .int .i64 0, .int .i64 2, .int .i64 1, .int .i64 3, .int .i64 2, .int .i64 5, .int .i64 1, .int .i64 4, .int .i64 1]) rfl
  have NN := (Da.out.grow ga).nodes
  generalize W11.alloc (.cells #[.int .i64 1, .int .i64 0, .int .i64 2, .int .i64 1, .int .i64 3, .int .i64 2, .int .i64 5, .int .i64 1, .int .i64 4, .int .i64 1] 3) = V1 at *
  refine (told_yes _ _ _ doc1 _ _ _ _ [1, 0, 2, 1, 3, 2, 5, 1, 4, 1] V1 NN hS rfl told1).mono ?_; rintro r U1 ⟨rfl, g1⟩
  clear c0 c1 NN hS
  replace Dd := Lib.hid ((Dd.out.grow ga).grow g1)
  replace Db := Lib.hid ((Db.out.grow ga).grow g1)
  replace Dc := Lib.hid ((Dc.out.grow ga).grow g1)
  replace Dm := Lib.hid ((Dm.out.grow ga).grow g1)
  replace Dn := Lib.hid ((Dn.out.grow ga).grow g1)
  replace hg := grown_trans hg (grown_trans ga g1)
  clear ga g1 Da
  have c0 := Db.out.two.c0
  have c1 := Db.out.two.c1
  go_wp2_with fail
  have ga := World.grownBy_alloc U1 (.cells #[.int .i64 1, .int .i64 0, .int .i64 2, .int .i64 1, .int .i64 3, .int .i64 2, .int .i64 4, .int .i64 1, .int .i64 5, .int .i64 2] 3) none
  have hS : Reads (U1.alloc (.cells #[.int .i64 1, .int .i64 0, .int .i64 2, .int .i64 1, .int .i64 3, .int .i64 2, .int .i64 4, .int .i64 1, .int .i64 5, .int .i64 2] 3)) (U1.alloc (.cells #[.int .i64 1, .int .i64 0, .int .i64 2, .int .i64 1, .int .i64 3, .int .i64 2, .int .i64 4, .int .i64 1, .int .i64 5, .int .i64 2] 3)).heap.size (some ⟨U1.heap.size, 0, none⟩) (([1, 0, 2, 1, 3, 2, 4, 1, 5, 2] : List Int).map fun v => .int .i64 v) := reads_row (Row.new U1 3 #[.int .i64 1, .int .i64 0, .int .i64 2, .int .i64 1, .int .i64 3, .int .i64 2, .int .i64 4, .int .i64 1, .int .i64 5, .int .i64 2]) rfl
  have NN := (Db.out.grow ga).nodes
  generalize U1.alloc (.cells #[.int .i64 1, .int .i64 0, .int .i64 2, .int .i64 1, .int .i64 3, .int .i64 2, .int .i64 4, .int .i64 1, .int .i64 5, .int .i64 2] 3) = V2 at *
  refine (told_yes _ _ _ doc2 _ _ _ _ [1, 0, 2, 1, 3, 2, 4, 1, 5, 2] V2 NN hS rfl told2).mono ?_; rintro r U2 ⟨rfl, g2⟩
  clear c0 c1 NN hS
  replace Dd := Lib.hid ((Dd.out.grow ga).grow g2)
  replace Dc := Lib.hid ((Dc.out.grow ga).grow g2)
  replace Dm := Lib.hid ((Dm.out.grow ga).grow g2)
  replace Dn := Lib.hid ((Dn.out.grow ga).grow g2)
  replace hg := grown_trans hg (grown_trans ga g2)
  clear ga g2 Db
  have c0 := Dc.out.two.c0
  have c1 := Dc.out.two.c1
  go_wp2_with fail
  have ga := World.grownBy_alloc U2 (.cells #[.int .i64 1, .int .i64 0, .int .i64 4, .int .i64 1] 3) none
  have hS : Reads (U2.alloc (.cells #[.int .i64 1, .int .i64 0, .int .i64 4, .int .i64 1] 3)) (U2.alloc (.cells #[.int .i64 1, .int .i64 0, .int .i64 4, .int .i64 1] 3)).heap.size (some ⟨U2.heap.size, 0, none⟩) (([1, 0, 4, 1] : List Int).map fun v => .int .i64 v) := reads_row (Row.new U2 3 #[.int .i64 1, .int .i64 0, .int .i64 4, .int .i64 1]) rfl
  have NN := (Dc.out.grow ga).nodes
  generalize U2.alloc (.cells #[.int .i64 1, .int .i64 0, .int .i64 4, .int .i64 1] 3) = V4 at *
  refine (told_yes _ _ _ doc4 _ _ _ _ [1, 0, 4, 1] V4 NN hS rfl told4).mono ?_; rintro r U4 ⟨rfl, g4⟩
  clear c0 c1 NN hS
  replace Dd := Lib.hid ((Dd.out.grow ga).grow g4)
  replace Dm := Lib.hid ((Dm.out.grow ga).grow g4)
  replace Dn := Lib.hid ((Dn.out.grow ga).grow g4)
  replace hg := grown_trans hg (grown_trans ga g4)
  clear ga g4 Dc
  have c0 := Dm.out.two.c0
  have c1 := Dm.out.two.c1
  go_wp2_with fail
  have ga := World.grownBy_alloc U4 (.cells #[.int .i64 1, .int .i64 0, .int .i64 4, .int .i64 1, .int .i64 2, .int .i64 2, .int .i64 3, .int .i64 3] 3) none
  have hS : Reads (U4.alloc (.cells #[.int .i64 1, .int .i64 0, .int .i64 4, .int .i64 1, .int .i64 2, .int .i64 2, .int .i64 3, .int .i64 3] 3)) (U4.alloc (.cells #[.int .i64 1, .int .i64 0, .int .i64 4, .int .i64 1, .int .i64 2, .int .i64 2, .int .i64 3, .int .i64 3] 3)).heap.size (some ⟨U4.heap.size, 0, none⟩) (([1, 0, 4, 1, 2, 2, 3, 3] : List Int).map fun v => .int .i64 v) := reads_row (Row.new U4 3 #[.int .i64 1, .int .i64 0, .int .i64 4, .int .i64 1, .int .i64 2, .int .i64 2, .int .i64 3, .int .i64 3]) rfl
  have NN := (Dm.out.grow ga).nodes
  generalize U4.alloc (.cells #[.int .i64 1, .int .i64 0, .int .i64 4, .int .i64 1, .int .i64 2, .int .i64 2, .int .i64 3, .int .i64 3] 3) = V6 at *
  refine (told_yes _ _ _ doc6 _ _ _ _ [1, 0, 4, 1, 2, 2, 3, 3] V6 NN hS rfl told6).mono ?_; rintro r U6 ⟨rfl, g6⟩
  clear c0 c1 NN hS
  replace Dd := Lib.hid ((Dd.out.grow ga).grow g6)
  replace Dn := Lib.hid ((Dn.out.grow ga).grow g6)
  replace hg := grown_trans hg (grown_trans ga g6)
  clear ga g6 Dm
  have c0 := Dn.out.two.c0
  have c1 := Dn.out.two.c1
  go_wp2_with fail
  have ga := World.grownBy_alloc U6 (.cells #[.int .i64 1, .int .i64 0, .int .i64 4, .int .i64 1, .int .i64 2, .int .i64 1, .int .i64 3, .int .i64 2] 3) none
  have hS : Reads (U6.alloc (.cells #[.int .i64 1, .int .i64 0, .int .i64 4, .int .i64 1, .int .i64 2, .int .i64 1, .int .i64 3, .int .i64 2] 3)) (U6.alloc (.cells #[.int .i64 1, .int .i64 0, .int .i64 4, .int .i64 1, .int .i64 2, .int .i64 1, .int .i64 3, .int .i64 2] 3)).heap.size (some ⟨U6.heap.size, 0, none⟩) (([1, 0, 4, 1, 2, 1, 3, 2] : List Int).map fun v => .int .i64 v) := reads_row (Row.new U6 3 #[.int .i64 1, .int .i64 0, .int .i64 4, .int .i64 1, .int .i64 2, .int .i64 1, .int .i64 3, .int .i64 2]) rfl
  have NN := (Dn.out.grow ga).nodes
  generalize U6.alloc (.cells #[.int .i64 1, .int .i64 0, .int .i64 4, .int .i64 1, .int .i64 2, .int .i64 1, .int .i64 3, .int .i64 2] 3) = V8 at *
  refine (told_yes _ _ _ doc8 _ _ _ _ [1, 0, 4, 1, 2, 1, 3, 2] V8 NN hS rfl told8).mono ?_; rintro r U8 ⟨rfl, g8⟩
  clear c0 c1 NN hS
  replace Dd := Lib.hid ((Dd.out.grow ga).grow g8)
  replace hg := grown_trans hg (grown_trans ga g8)
  clear ga g8 Dn
  have c0 := Dd.out.two.c0
  have c1 := Dd.out.two.c1
  go_wp2_with fail
  refine (may_ok Dd.out.nodes four_len four_may).mono ?_; rintro r X1 ⟨rfl, g1⟩
  replace hg := grown_trans hg g1
  clear c0 c1 Dd g1
  go_wp2_with fail
  refine (may_not (A := none) (n := 0) (k := 0) (x := 0) (L := []) (w := X1) ⟨by simp, rfl, Reads.nil_, by omega⟩ (fun i hi => absurd hi (by omega)) none_may).mono ?_; rintro r X2 ⟨rfl, g2⟩
  go_wp2_with fail
  go_ret
  exact ⟨rfl, grown_trans hg g2⟩
end Go.Proofs.Ytjnbfgogmhfbiaa
/- MutateKeeps: the walk. -/
namespace Go.Proofs.Ytjnbfgogmhfbiaa
open Go Go.RowKit
def chgLs : List Lf := [.int .u8, .int .i64, .int .i64, .int .i64] ++ nodeLs
theorem wf_u8 {n : Int} (h : (Lit.int .u8 n).wf = true) : 0 ≤ n ∧ n ≤ 255 := by simpa [Lit.wf, IntKind.min, IntKind.max, IntKind.signed, IntKind.bits] using h
theorem chg_of {cs : List Value} (h : OkAll chgLs cs) : ∃ c : Chg, c.ok ∧ cs.toArray = c.cells := by
  obtain ⟨v0, r0, rfl, ⟨kd, rfl, h0⟩, h⟩ := h
  obtain ⟨v1, r1, rfl, ⟨key, rfl, h1⟩, h⟩ := h
  obtain ⟨v2, r2, rfl, ⟨par, rfl, h2⟩, h⟩ := h
  obtain ⟨v3, y, rfl, ⟨num, rfl, h3⟩, h⟩ := h
  exact ⟨⟨kd, key, par, num, y⟩, ⟨wf_u8 h0, wfI h1, wfI h2, wfI h3, h⟩, rfl⟩
theorem opL_err {L : List (List Value)} {x e : Int} {c : Chg} (h : opL L x c = .error e) : e = 60 ∨ e = 70 := by
  have hg : ∀ {L : List (List Value)} {p n e : Int}, gapE L p n = .error e → e = 70 := fun h => by
    unfold gapE at h
    split at h
    · dsimp only at h
      split at h
      · cases h
      · cases h; rfl
    · cases h; rfl
  have hc : ∀ {L : List (List Value)} {k e : Int}, cutL L k = .error e → e = 70 := fun h => by
    unfold cutL at h
    split at h
    · cases h
    · cases h; rfl
  unfold opL at h
  split at h
  · unfold insertL at h
    split at h
    · rename_i e' he
      cases h
      exact .inr (hg he)
    · split at h
      · split at h
        · cases h
        · cases h; exact .inl rfl
      · split at h
        · cases h
        · cases h; exact .inr rfl
  split at h
  · unfold removeL at h
    split at h
    · rename_i e' he
      cases h
      exact .inr (hc he)
    · cases h
  split at h
  · unfold moveL at h
    split at h
    · rename_i e' he
      cases h
      exact .inr (hc he)
    · split at h
      · rename_i e' he
        cases h
        exact .inr (hg he)
      · cases h
  split at h
  · unfold styleL at h
    split at h
    · dsimp only at h
      split at h
      · split at h
        · cases h
        · cases h; exact .inl rfl
      · cases h; exact .inr rfl
    · cases h; exact .inr rfl
  · unfold textL at h
    split at h
    · dsimp only at h
      split at h
      · cases h
      · cases h; exact .inr rfl
    · cases h; exact .inr rfl
theorem opL_next {L L' : List (List Value)} {x x' : Int} {c : Chg} (h : opL L x c = .ok (L', x')) : x' = if c.kd = 1 then x + 1 else x := by
  unfold opL at h
  split at h
  · rename_i hk
    rw [if_pos hk]
    unfold insertL at h
    split at h
    · cases h
    · split at h
      · split at h
        · cases h; rfl
        · cases h
      · split at h
        · cases h; rfl
        · cases h
  rename_i hk
  rw [if_neg hk]
  split at h
  · unfold removeL at h
    split at h
    · cases h
    · cases h; rfl
  split at h
  · unfold moveL at h
    split at h
    · cases h
    · split at h
      · cases h
      · cases h; rfl
  split at h
  · unfold styleL at h
    split at h
    · dsimp only at h
      split at h
      · split at h
        · cases h; rfl
        · cases h
      · cases h
    · cases h
  · unfold textL at h
    split at h
    · dsimp only at h
      split at h
      · cases h; rfl
      · cases h
    · cases h
theorem applies_err {L : List (List Value)} {x e : Int} {c : Chg} (h : Applies L x c (.error e)) : e ≠ 0 ∧ (e = 50 ↔ ¬ MayL L x) := by
  rcases h with ⟨h1, rfl⟩ | ⟨h1, h2, rfl⟩ | ⟨h1, h2, h3⟩ | ⟨h1, h2, h3, rfl⟩
  · exact ⟨by decide, fun _ => h1, fun _ => rfl⟩
  · exact ⟨by decide, fun e => absurd e (by decide), fun e => absurd h1 e⟩
  · rcases opL_err h3 with rfl | rfl
    · exact ⟨by decide, fun e => absurd e (by decide), fun e => absurd h1 e⟩
    · exact ⟨by decide, fun e => absurd e (by decide), fun e => absurd h1 e⟩
  · exact ⟨by decide, fun e => absurd e (by decide), fun e => absurd h1 e⟩
theorem total_mem {L : List (List Value)} : ∀ y ∈ L, lenN y ≤ total L := by
  induction L with
  | nil => intro y hy; simp at hy
  | cons a r ih =>
    intro y hy
    have : total (a :: r) = lenN a + total r := by simp [total]
    rcases List.mem_cons.1 hy with rfl | hy
    · omega
    · have := ih y hy; omega
/-- The law's two boxes. -/
theorem boxes2 (w : World) (v : Value) (x : Int) (c : Chg) : ∃ W, (w.alloc (.cells #[v, .int .i64 x] 24)).alloc (.cells c.cells 34) = W ∧
    Two W w.heap.size 24 v (.int .i64 x) ∧ Row W (w.heap.size + 1) 34 c.cells ∧ w.grownBy W none := by
  refine ⟨_, rfl, (Two.new w _ _ _).kept (World.grownBy_alloc _ _ none) (by simp), ?_, grown_trans (World.grownBy_alloc _ _ _) (World.grownBy_alloc _ _ _)⟩
  have := Row.new (w.alloc (.cells #[v, .int .i64 x] 24)) 34 c.cells
  rwa [World.size_alloc] at this
set_option maxRecDepth 100000 in
set_option maxHeartbeats 4000000 in
theorem MutateKeeps_walk (w : World) (A : Option Addr) (n k : Nat) (L : List (List Value)) (x : Int) (_wx : (Lit.int .i64 x).wf = true) (R : IsNodes w A n k L) (cs : List Value) (ok : OkAll chgLs cs) :
    Calls Try.prog 3 #[.agg #[.slice A n k, .int .i64 x], .agg ⟨cs⟩] w fun e w' => e = .returned (.bool true) ∧ Below w.heap.size w w' := by
  obtain ⟨c, hc, hcs⟩ := chg_of ok
  rw [show (⟨cs⟩ : Array Value) = c.cells from hcs]
  have hnc := R.len_
  obtain ⟨W0, hW0, bD, rC, hg0⟩ := boxes2 w (.slice A n k) x c
  have CA := Lib.hid (awake_any W0)
  have hok := Lib.hid (fun y hy => (R.2.2.2.1 y hy).2)
  have hlen := Lib.hid R.1
  have hrd := Lib.hid (fun W (hg : w.grownBy W none) => (R.2.2.2.2.grown0 hg).more hg.size)
  have CG := Lib.hid (fun W (hg : w.grownBy W none) => great7_any A n k L x c W hok.out hlen.out (hrd.out W hg) (by omega) hc)
  have hc' := Lib.hid hc
  have hW0' := Lib.hid hW0
  have bD' := Lib.hid (fun W (hg : W0.grownBy W none) => bD.kept hg (by simp))
  have rC' := Lib.hid (fun W (hg : W0.grownBy W none) => rC.kept0 hg)
  have hg0' := Lib.hid hg0
  have hkb := hc.kd
  have hcz := Lib.hid (Chg.size hc)
  clear R hcs ok hW0 bD rC hg0 hc
  go_enter Try.func3, Try.ntmps3
  go_wp2_with fail
  rw [hW0'.out]
  refine CA.out.mono ?_; rintro r w1 ⟨rfl, hg⟩
  have c0 := (bD'.out _ hg).c0
  have c1 := (bD'.out _ hg).c1
  have rc := rC'.out _ hg
  go_wp2_with (refine wpList_row bigC rc hcz.out (x := .tmp 3) rfl (by kernel_rfl) (by kernel_rfl) ?_; simp only [Act.put, List.setIfInBounds_toArray, List.set_cons_zero, List.set_cons_succ])
  refine (CG.out _ (grown_trans hg0'.out hg)).mono ?_; rintro r w2 ⟨b, rfl, hb, hg2⟩
  replace hg := grown_trans hg hg2
  clear c0 c1 rc hg2 CA CG
  cases b with
  | true =>
    clear hb
    go_wp2_with fail
    go_ret
    exact ⟨rfl, grown_below (grown_trans hg0'.out hg)⟩
  | false =>
    obtain ⟨⟨hn, ht⟩, hy⟩ := hb rfl
    have hN := Lib.hid (fun W (hg : W0.grownBy W none) => show NodesAt W W.heap.size A n L from ⟨hok.out, hlen.out, hrd.out W (grown_trans hg0'.out hg), by omega⟩)
    have hsm := Lib.hid (fun i (hi : i < n) => show lenN (nd L i) ≤ 5000 from Nat.le_trans (total_mem _ (List.mem_of_getElem? (nd_get (by rw [hlen.out]; exact hi)))) ht)
    have CAp := Lib.hid (apply_any A n k x L c w2 (hN.out _ hg) hsm.out hc'.out hy)
    have CMd := Lib.hid (fun W (hg : W0.grownBy W none) => may7_any A n k x L W (hN.out W hg) hsm.out)
    have c0 := (bD'.out _ hg).c0
    have c1 := (bD'.out _ hg).c1
    have rc := rC'.out _ hg
    clear hb ht hy
    go_wp2_with (refine wpList_row bigC rc hcz.out (x := .tmp 3) rfl (by kernel_rfl) (by kernel_rfl) ?_; simp only [Act.put, List.setIfInBounds_toArray, List.set_cons_zero, List.set_cons_succ])
    refine CAp.out.mono ?_; rintro r w3 ⟨⟨res, hap, hans⟩, hg3⟩
    replace hg := grown_trans hg hg3
    clear c0 c1 rc CAp
    cases res with
    | error e =>
      obtain ⟨he0, he50⟩ := applies_err hap
      have ha := World.grownBy_alloc w3 (.cells #[.slice none 0 0, .int .i64 0] 24) none
      have bO := Two.new w3 24 (.slice none 0 0) (.int .i64 0)
      have d0 := bO.c0
      have d1 := bO.c1
      have hga := grown_trans hg ha
      have c0 := (bD'.out _ hga).c0
      have c1 := (bD'.out _ hga).c1
      have b0 : (e != 0) = true := by simpa using he0
      obtain rfl : r = _ := hans
      have he50' := Lib.hid he50
      clear he50 hap ha bO hg3 he0
      go_wp2_with fail
      refine (CMd.out _ hga).mono ?_; rintro r w4 ⟨⟨b, rfl, hb⟩, hg4⟩
      have hbe : ((e == 50) == !b) = true := by
        cases b with
        | true =>
          have hm := hb.1 rfl
          have : e ≠ 50 := fun h => (he50'.out.1 h) hm
          simp [this]
        | false =>
          have hm : ¬ MayL L x := fun h => by have := hb.2 h; cases this
          have : e = 50 := he50'.out.2 hm
          simp [this]
      clear hb
      go_wp2_with fail
      go_ret
      exact ⟨rfl, grown_below (grown_trans hg0'.out (grown_trans hga hg4))⟩
    | ok v =>
      obtain ⟨L', x'⟩ := v
      obtain ⟨A3, n3, k3, hans, hown, hl3, hok3⟩ := hans
      subst hans
      obtain ⟨hM, _, hop, hM'⟩ := hap
      have hx' := opL_next hop
      obtain ⟨_, hl300, _, _⟩ := hM'.facts
      obtain ⟨_, _, hx0, _⟩ := hM.facts
      have hN3 : NodesAt w3 w3.heap.size A3 n3 L' := ⟨hok3, hl3, hown.reads, by omega⟩
      have ha := World.grownBy_alloc w3 (.cells #[.slice A3 n3 k3, .int .i64 x'] 24) none
      have bO := Two.new w3 24 (.slice A3 n3 k3) (.int .i64 x')
      have hsm3 : ∀ i, i < n3 → lenN (nd L' i) ≤ 5000 := fun i hi => by
        have h1 := total_mem _ (List.mem_of_getElem? (nd_get (L := L') (i := i) (by omega)))
        have h2 := hM'.1.2.2.2.2.2
        omega
      have hga := grown_trans hg ha
      have hdoc := Lib.hid (fun W (hg : (w3.alloc (.cells #[.slice A3 n3 k3, .int .i64 x'] 24)).grownBy W none) => show (W.cell? ⟨w.heap.size, 0, none⟩ = some (.slice A n k) ∧ W.cell? ⟨w.heap.size, 1, none⟩ = some (.int .i64 x)) ∧ (W.cell? ⟨w3.heap.size, 0, none⟩ = some (.slice A3 n3 k3) ∧ W.cell? ⟨w3.heap.size, 1, none⟩ = some (.int .i64 x')) ∧ W.cell? ⟨w.heap.size + 1, 0, none⟩ = some (.int .u8 c.kd) from
        ⟨⟨(bD'.out _ (grown_trans hga hg)).c0, (bD'.out _ (grown_trans hga hg)).c1⟩, ⟨(bO.kept hg (by simp)).c0, (bO.kept hg (by simp)).c1⟩, ((rC'.out _ (grown_trans hga hg)).at 0).trans Chg.c0⟩)
      have CM1 := Lib.hid (fun W (hg : (w3.alloc (.cells #[.slice A3 n3 k3, .int .i64 x'] 24)).grownBy W none) => may_ok (k := k) (hN.out W (grown_trans hga hg)) hsm.out hM)
      have CM2 := Lib.hid (fun W (hg : (w3.alloc (.cells #[.slice A3 n3 k3, .int .i64 x'] 24)).grownBy W none) => may_ok (k := k3) (hN3.grow (grown_trans ha hg)) hsm3 hM')
      have hga' := Lib.hid hga
      have hr := World.grownBy.refl (w3.alloc (.cells #[.slice A3 n3 k3, .int .i64 x'] 24)) none
      obtain ⟨⟨c0, c1⟩, ⟨d0, d1⟩, e0⟩ := hdoc.out _ hr
      have hx'' := Lib.hid hx'
      clear hop hM hM' hN3 ha bO hsm3 hga hown hok3 hx' hg3 hl300
      by_cases hk : c.kd = 1
      · have hxk := Lib.hid (show x' = x + 1 by have := hx''.out; rw [if_pos hk] at this; exact this)
        have bk : (c.kd == 1) = true := by simp [hk]
        clear hk
        go_wp2_with fail
        refine (CM1.out _ hr).mono ?_; rintro r w5 ⟨rfl, hg5⟩
        clear c0 c1 d0 d1 e0
        obtain ⟨⟨c0, c1⟩, ⟨d0, d1⟩, e0⟩ := hdoc.out _ hg5
        go_wp2_with fail
        refine (CM2.out _ hg5).mono ?_; rintro r w6 ⟨rfl, hg6⟩
        replace hg5 := grown_trans hg5 hg6
        clear c0 c1 d0 d1 e0
        obtain ⟨⟨c0, c1⟩, ⟨d0, d1⟩, e0⟩ := hdoc.out _ hg5
        have hwx : IntKind.i64.wrap (x + 1) = x + 1 := by rw [IntKind.wrap_i64]; omega
        have bx : (x' == x + 1) = true := by simp [hxk.out]
        clear hxk
        go_wp2_with fail
        go_ret
        exact ⟨rfl, grown_below (grown_trans hg0'.out (grown_trans hga'.out hg5))⟩
      · have hxk := Lib.hid (show x' = x by have := hx''.out; rw [if_neg hk] at this; exact this)
        have bk : (c.kd == 1) = false := by simpa using hk
        clear hk
        go_wp2_with fail
        refine (CM1.out _ hr).mono ?_; rintro r w5 ⟨rfl, hg5⟩
        clear c0 c1 d0 d1 e0
        obtain ⟨⟨c0, c1⟩, ⟨d0, d1⟩, e0⟩ := hdoc.out _ hg5
        go_wp2_with fail
        refine (CM2.out _ hg5).mono ?_; rintro r w6 ⟨rfl, hg6⟩
        replace hg5 := grown_trans hg5 hg6
        clear c0 c1 d0 d1 e0
        obtain ⟨⟨c0, c1⟩, ⟨d0, d1⟩, e0⟩ := hdoc.out _ hg5
        have hwx : IntKind.i64.wrap (x + 0) = x := by rw [IntKind.wrap_i64]; omega
        have hwx2 : IntKind.i64.wrap x = x := by rw [IntKind.wrap_i64]; omega
        have bx : (x' == x) = true := by simp [hxk.out]
        clear hxk
        go_wp2_with fail
        go_ret
        exact ⟨rfl, grown_below (grown_trans hg0'.out (grown_trans hga'.out hg5))⟩
end Go.Proofs.Ytjnbfgogmhfbiaa
/- Nodes put in, cut out: plain. -/
namespace Go.Proofs.Ytjnbfgogmhfbiaa
open Go Go.RowKit
section
variable {L T : List (List Value)} {g : Nat}
theorem put_len (hg : g ≤ L.length) : (putAt L g T).length = L.length + T.length := by
  unfold putAt
  simp
  omega
theorem nd_put (hg : g ≤ L.length) (i : Nat) : nd (putAt L g T) i = if i < g then nd L i else if i < g + T.length then nd T (i - g) else nd L (i - T.length) := by
  have h1 : (L.take g).length = g := by simp; omega
  unfold nd putAt
  by_cases h : i < g
  · rw [if_pos h, List.append_assoc, List.getElem?_append_left (by omega), List.getElem?_take, if_pos h]
  · rw [if_neg h]
    by_cases h2 : i < g + T.length
    · rw [if_pos h2, List.append_assoc, List.getElem?_append_right (by omega), List.getElem?_append_left (by omega), h1]
    · rw [if_neg h2, List.getElem?_append_right (by rw [List.length_append]; omega), List.getElem?_drop, List.length_append, h1]
      congr 2
      omega
theorem nd_put_lo (hg : g ≤ L.length) {i : Nat} (h : i < g) : nd (putAt L g T) i = nd L i := by rw [nd_put hg, if_pos h]
theorem nd_put_mid (hg : g ≤ L.length) {i : Nat} (h : i < T.length) : nd (putAt L g T) (g + i) = nd T i := by
  rw [nd_put hg, if_neg (by omega), if_pos (by omega), show g + i - g = i by omega]
theorem nd_put_hi (hg : g ≤ L.length) {i : Nat} (h : g ≤ i) : nd (putAt L g T) (i + T.length) = nd L i := by
  rw [nd_put hg, if_neg (by omega), if_neg (by omega), show i + T.length - T.length = i by omega]
theorem dp_put_lo (hg : g ≤ L.length) {i : Nat} (h : i < g) : dp (putAt L g T) i = dp L i := by unfold dp; rw [nd_put_lo hg h]
theorem dp_put_mid (hg : g ≤ L.length) {i : Nat} (h : i < T.length) : dp (putAt L g T) (g + i) = dp T i := by unfold dp; rw [nd_put_mid hg h]
theorem dp_put_hi (hg : g ≤ L.length) {i : Nat} (h : g ≤ i) : dp (putAt L g T) (i + T.length) = dp L i := by unfold dp; rw [nd_put_hi hg h]
end
/-- A key's place. -/
theorem find_key {L : List (List Value)} {x : Int} (h : Shape L x) {i : Nat} (hi : i < L.length) : findI L (keyN (nd L i)) = i :=
  findI_at hi (fun j hj => by
    simp only [beq_eq_false_iff_ne]
    exact (h.2.2.2.1 i hi).2.1 j hj) (by simp)
theorem find_none {L : List (List Value)} {key : Int} (h : ∀ j, j < L.length → keyN (nd L j) ≠ key) : findI L key = -1 :=
  findI_no (fun j hj => by simp only [beq_eq_false_iff_ne]; exact h j hj)
/-- Kids ahead of a place. -/
def cntK' (d : Nat → Int) (v g : Nat) : Nat := ((List.range' (v + 1) (g - (v + 1))).filter (fun j => decide (d j = d v + 1))).length
theorem kids_split {d : Nat → Int} {n v g : Nat} (h1 : v < g) (h2 : g ≤ endN d n v) :
    kidsN d n v = (List.range' (v + 1) (g - (v + 1))).filter (fun j => decide (d j = d v + 1)) ++ (List.range' g (endN d n v - g)).filter (fun j => decide (d j = d v + 1)) := by
  unfold kidsN
  rw [← List.filter_append]
  congr 1
  have := List.range'_append (s := v + 1) (m := g - (v + 1)) (n := endN d n v - g) (step := 1)
  rw [Nat.one_mul, show v + 1 + (g - (v + 1)) = g by omega, show g - (v + 1) + (endN d n v - g) = endN d n v - (v + 1) by omega] at this
  exact this.symm
theorem kids_at {d : Nat → Int} {n v g : Nat} (h1 : v < g) (h2 : g < endN d n v) (h3 : d g = d v + 1) : (kidsN d n v)[cntK' d v g]? = some g := by
  have hc : cntK' d v g = ((List.range' (v + 1) (g - (v + 1))).filter (fun j => decide (d j = d v + 1))).length := rfl
  rw [kids_split h1 (Nat.le_of_lt h2), hc, List.getElem?_append_right (Nat.le_refl _), Nat.sub_self]
  obtain ⟨k, hk⟩ : ∃ k, endN d n v - g = k + 1 := ⟨endN d n v - g - 1, by omega⟩
  rw [hk, List.range'_succ, List.filter_cons, if_pos (by simp [h3])]
  rfl
theorem kids_len {d : Nat → Int} {n v : Nat} (h1 : v < endN d n v) : (kidsN d n v).length = cntK' d v (endN d n v) := by
  rw [kids_split h1 (Nat.le_refl _), Nat.sub_self]
  simp [cntK']
theorem kids_idx {d : Nat → Int} {n v g k : Nat} (hv : v < n) (h : (kidsN d n v)[k]? = some g) : k = cntK' d v g := by
  have hm := (mem_kids hv).1 (List.mem_of_getElem? h)
  have h2 := kids_at hm.1 hm.2.1 hm.2.2
  obtain ⟨l1, e1⟩ := List.getElem?_eq_some_iff.1 h
  obtain ⟨l2, e2⟩ := List.getElem?_eq_some_iff.1 h2
  have hs := List.pairwise_iff_getElem.1 (kids_sorted (d := d) (n := n) (i := v))
  rcases Nat.lt_trichotomy k (cntK' d v g) with h' | h' | h'
  · have := hs _ _ l1 l2 h'; omega
  · exact h'
  · have := hs _ _ l2 l1 h'; omega
theorem cntK_congr {d d' : Nat → Int} {v g : Nat} (h : ∀ j, v ≤ j → j < g → d j = d' j) (hv : v < g) : cntK' d v g = cntK' d' v g := by
  unfold cntK'
  rw [List.filter_congr (q := fun j => decide (d' j = d' v + 1))]
  intro j hj
  rw [List.mem_range'_1] at hj
  rw [h j (by omega) (by omega), h v (Nat.le_refl _) hv]
/-- What a gap is. -/
theorem gap_facts {L : List (List Value)} {par num : Int} {v k : Nat} (h : GapYes L par num v k) :
    v < gapAt L v k ∧ gapAt L v k ≤ endN (dp L) L.length v ∧ gapAt L v k ≤ L.length ∧ k = cntK' (dp L) v (gapAt L v k) ∧ (gapAt L v k = L.length ∨ dp L (gapAt L v k) ≤ dp L v + 1) ∧
      (∀ j, v < j → j < gapAt L v k → dp L v < dp L j) := by
  obtain ⟨_, hv, _, _, hk⟩ := h
  obtain ⟨b1, b2, b3⟩ := gapAt_bounds (k := k) hv
  have e1 := endN_gt (d := dp L) hv
  refine ⟨b1, b2, b3, ?_, ?_, fun j h1 h2 => endN_in (n := L.length) h1 (by omega)⟩
  · unfold gapAt
    cases hh : (kidsN (dp L) L.length v)[k]? with
    | none =>
      have := List.getElem?_eq_none_iff.1 hh
      have h2 := kids_len e1
      simp only [Option.getD_none]
      omega
    | some j => exact kids_idx hv hh
  · unfold gapAt
    cases hh : (kidsN (dp L) L.length v)[k]? with
    | none =>
      simp only [Option.getD_none]
      rcases endN_out (d := dp L) hv with h | h
      · exact .inl h
      · right; omega
    | some j =>
      have := (mem_kids hv).1 (List.mem_of_getElem? hh)
      right
      simp only [Option.getD_some]
      omega
/-- A block put in where nothing deeper follows: whose kid a place is stays. -/
def posP (g m j : Nat) : Nat := if j < g then j else j + m
structure Fits_ (L T : List (List Value)) (g : Nat) (deep : Int) : Prop where
  steps : Steps (dp L) L.length
  le : g ≤ L.length
  out : g = L.length ∨ dp L g ≤ deep
  inn : ∀ i, i < T.length → deep ≤ dp T i
theorem nd_pos {L T : List (List Value)} {g : Nat} (hg : g ≤ L.length) (j : Nat) : nd (putAt L g T) (posP g T.length j) = nd L j := by
  unfold posP
  split
  · exact nd_put_lo hg (by assumption)
  · exact nd_put_hi hg (by omega)
theorem pos_parent {L T : List (List Value)} {g : Nat} {deep : Int} (h : Fits_ L T g deep) {j : Nat} (hj : j < L.length) :
    (parentN (dp L) j = -1 ∧ parentN (dp (putAt L g T)) (posP g T.length j) = -1) ∨ ∃ p : Nat, p < j ∧ parentN (dp L) j = p ∧ parentN (dp (putAt L g T)) (posP g T.length j) = (posP g T.length p : Nat) := by
  have hlo := fun i (hi : i < g) => dp_put_lo (T := T) h.le hi
  have hmid := fun i (hi : i < T.length) => dp_put_mid (T := T) h.le hi
  have hhi := fun i (hi : g ≤ i) => dp_put_hi (T := T) h.le hi
  have hdj : dp (putAt L g T) (posP g T.length j) = dp L j := by unfold dp; rw [nd_pos h.le]
  rcases upFrom_spec (dp L) (dp L j - 1) j with ⟨h1, h2⟩ | ⟨p, h1, h2, h3, h4⟩
  · refine .inl ⟨h1, ?_⟩
    unfold parentN
    rw [hdj]
    rcases upFrom_spec (dp (putAt L g T)) (dp L j - 1) (posP g T.length j) with ⟨g1, _⟩ | ⟨q, g1, g2, g3, _⟩
    · exact g1
    · exfalso
      have hq1 : (j < g ∧ q < j) ∨ (g ≤ j ∧ q < j + T.length) := by
        unfold posP at g2
        split at g2 <;> omega
      rcases Nat.lt_or_ge q g with hq | hq
      · rw [hlo q hq] at g3
        refine h2 q ?_ g3
        omega
      · have g2' : g ≤ j ∧ q < j + T.length := by omega
        rcases Nat.lt_or_ge q (g + T.length) with hq2 | hq2
        · have e := hmid (q - g) (by omega)
          rw [show g + (q - g) = q by omega, g3] at e
          have e2 := h.inn (q - g) (by omega)
          have hjd : dp L j ≤ deep := by
            rcases h.out with ho | ho
            · omega
            · rcases Nat.lt_or_ge g j with hgj | hgj
              · rcases Int.lt_or_le (dp L j - 1) (dp L g) with h5 | h5
                · omega
                · obtain ⟨m, m1, m2, m3⟩ := steps_pass h.steps (a := dp L j - 1) (j - g) g (by omega) h5 (by rw [show g + (j - g) = j by omega]; omega)
                  exact absurd m3 (h2 m (by omega))
              · have : j = g := by omega
                rw [this]; exact ho
          omega
        · have e := hhi (q - T.length) (by omega)
          rw [show q - T.length + T.length = q by omega, g3] at e
          exact h2 (q - T.length) (by omega) e.symm
  · refine .inr ⟨p, h2, h1, ?_⟩
    unfold parentN
    rw [hdj]
    refine upFrom_uniq ?_ ?_ ?_
    · unfold posP
      split <;> split <;> omega
    · have : dp (putAt L g T) (posP g T.length p) = dp L p := by unfold dp; rw [nd_pos h.le]
      rw [this]; exact h3
    · intro q q1 q2 q3
      have hq1 : (p < g ∧ p < q) ∨ (g ≤ p ∧ p + T.length < q) := by
        unfold posP at q1
        split at q1 <;> omega
      have hq2 : (j < g ∧ q < j) ∨ (g ≤ j ∧ q < j + T.length) := by
        unfold posP at q2
        split at q2 <;> omega
      clear q1 q2
      rcases Nat.lt_or_ge q g with hq | hq
      · rw [hlo q hq] at q3
        exact h4 q (by omega) (by omega) q3
      · rcases Nat.lt_or_ge q (g + T.length) with hq3 | hq3
        · have e := hmid (q - g) (by omega)
          rw [show g + (q - g) = q by omega, q3] at e
          have e2 := h.inn (q - g) (by omega)
          have hjd : dp L j ≤ deep := by
            rcases h.out with ho | ho
            · omega
            · rcases Nat.lt_or_ge g j with hgj | hgj
              · rcases Int.lt_or_le (dp L j - 1) (dp L g) with h5 | h5
                · omega
                · obtain ⟨m, m1, m2, m3⟩ := steps_pass h.steps (a := dp L j - 1) (j - g) g (by omega) h5 (by rw [show g + (j - g) = j by omega]; omega)
                  exact absurd m3 (h4 m (by omega) (by omega))
              · have : j = g := by omega
                rw [this]; exact ho
          omega
        · have e := hhi (q - T.length) (by omega)
          rw [show q - T.length + T.length = q by omega, q3] at e
          exact h4 (q - T.length) (by omega) (by omega) e.symm
end Go.Proofs.Ytjnbfgogmhfbiaa
/- The document's Find, End, less, Parent. -/
namespace Go.Proofs.Ytjnbfgogmhfbiaa
open Go Go.RowKit
theorem less_any (a b : Int) (ha : -9223372036854775808 ≤ a ∧ a ≤ 9223372036854775807) (hb : -9223372036854775808 ≤ b ∧ b ≤ 9223372036854775807) (w : World) :
    Calls Try.prog 28 #[.int .i64 a, .int .i64 b] w fun e w' => e = .returned (.bool (decide (a + 1 = b))) ∧ w' = w := by
  by_cases h : a < b
  · have d0 : decide (a < b) = true := decide_eq_true h
    have hw : IntKind.i64.wrap (a + 1) = a + 1 := by rw [IntKind.wrap_i64]; omega
    go_enter Try.func28, Try.ntmps28
    go_wp2_with fail
    go_ret
    exact ⟨by simp [Bool.beq_eq_decide_eq], rfl⟩
  · have d0 : decide (a < b) = false := decide_eq_false h
    have h2 : decide (a + 1 = b) = false := decide_eq_false (by omega)
    go_enter Try.func28, Try.ntmps28
    go_wp2_with fail
    go_ret
    exact ⟨by simp [h2], rfl⟩
theorem dfind_any (A : Option Addr) (n c : Nat) (L : List (List Value)) (x key : Int) (w : World) (hN : NodesAt w w.heap.size A n L) :
    Calls Try.prog 12 #[.agg #[.slice A n c, .int .i64 x], .int .i64 key] w fun e w' => e = .returned (.int .i64 (findI L key)) ∧ w.grownBy w' none := by
  have hn := hN.few
  have hl := hN.len
  have hg0 := World.grownBy_alloc w (.cells #[.slice A n c, .int .i64 x] 24) none
  have b0 := Row.new w 24 #[.slice A n c, .int .i64 x]
  have c0 : (w.alloc (.cells #[.slice A n c, .int .i64 x] 24)).cell? ⟨w.heap.size, 0, none⟩ = some (.slice A n c) := b0.at 0
  have hN0 := Lib.hid (hN.grow hg0)
  have hg0' := Lib.hid hg0
  have hl' := Lib.hid hl
  clear hN b0 hg0 hl
  go_enter Try.func12, Try.ntmps12
  go_wp2_with fail
  generalize w.alloc (.cells #[.slice A n c, .int .i64 x] 24) = W0 at *
  go_loop [5] (fun i => ∃ j : Nat, j ≤ n ∧ i = .int .i64 (j : Int) ∧ Hid (∀ t, t < j → (keyN (nd L t) == key) = false)) (fun i => n - (intOf i).toNat)
  case atStart => exact ⟨0, by omega, rfl, Lib.hid fun t ht => absurd ht (by omega)⟩
  case round =>
    obtain ⟨j, hj, rfl, hno⟩ := hrel
    by_cases hlt : j < n
    · obtain ⟨ad, rfl, _⟩ := hN0.out.some_ hlt
      have z0 := hN0.out.key_ hlt
      have i1 : (0 : Int) ≤ (j : Int) := by omega
      have i2 : (j : Int) < (n : Int) := by omega
      cases hk : (keyN (nd L j) == key) with
      | true =>
        have hf := Lib.hid (findI_at (L := L) (key := key) (k := j) (by have := hl'.out; omega) hno.out hk)
        go_wp2_with fail
        go_ret
        exact ⟨by rw [hf.out]; rfl, hg0'.out⟩
      | false =>
        have hk' := Lib.hid (show ∀ t, t < j + 1 → (keyN (nd L t) == key) = false from fun t ht => by
          rcases Nat.lt_or_ge t j with h | h
          · exact hno.out t h
          · obtain rfl : t = j := by omega
            exact hk)
        go_wp2_with fail
        exact ⟨⟨j + 1, by omega, by go_num, hk'⟩, by simp [intOf]; omega⟩
    · obtain rfl : j = n := by omega
      have hf := Lib.hid (findI_no (L := L) (key := key) (fun t ht => hno.out t (by have := hl'.out; omega)))
      clear hno
      go_wp2_with fail
      go_ret
      exact ⟨by rw [hf.out]; rfl, hg0'.out⟩
theorem dend_no (A : Option Addr) (n c : Nat) (x t : Int) (w : World) (hn : n ≤ 1000) (ht : t < 0 ∨ (n : Int) ≤ t) :
    Calls Try.prog 18 #[.agg #[.slice A n c, .int .i64 x], .int .i64 t] w fun e w' => e = .returned (.int .i64 (-1)) ∧ w.grownBy w' none := by
  have hg0 := World.grownBy_alloc w (.cells #[.slice A n c, .int .i64 x] 24) none
  have c0 : (w.alloc (.cells #[.slice A n c, .int .i64 x] 24)).cell? ⟨w.heap.size, 0, none⟩ = some (.slice A n c) := (Row.new w 24 #[.slice A n c, .int .i64 x]).at 0
  by_cases h : t < 0
  · have d0 : decide (t < 0) = true := decide_eq_true h
    go_enter Try.func18, Try.ntmps18
    go_wp2_with fail
    go_ret
    exact ⟨rfl, hg0⟩
  · have d0 : decide (t < 0) = false := decide_eq_false h
    have d1 : decide ((n : Int) ≤ t) = true := decide_eq_true (by omega)
    clear ht h
    go_enter Try.func18, Try.ntmps18
    go_wp2_with fail
    go_ret
    exact ⟨rfl, hg0⟩
set_option maxHeartbeats 1000000 in
theorem dend_in (A : Option Addr) (n c : Nat) (x : Int) (t : Nat) (L : List (List Value)) (w : World) (hN : NodesAt w w.heap.size A n L) (ht : t < n) :
    Calls Try.prog 18 #[.agg #[.slice A n c, .int .i64 x], .int .i64 (t : Int)] w fun e w' => e = .returned (.int .i64 (endN (dp L) n t : Nat)) ∧ w.grownBy w' none := by
  have hn := hN.few
  have hg0 := World.grownBy_alloc w (.cells #[.slice A n c, .int .i64 x] 24) none
  have b0 := Row.new w 24 #[.slice A n c, .int .i64 x]
  have c0 : (w.alloc (.cells #[.slice A n c, .int .i64 x] 24)).cell? ⟨w.heap.size, 0, none⟩ = some (.slice A n c) := b0.at 0
  have hN0 := Lib.hid (hN.grow hg0)
  have HB := Lib.hid (fun W (hg : (w.alloc (.cells #[.slice A n c, .int .i64 x] 24)).grownBy W none) => show W.cell? ⟨w.heap.size, 0, none⟩ = some (.slice A n c) from (b0.kept0 hg).at 0)
  have hg0' := Lib.hid hg0
  clear hN b0 hg0
  have d0 : decide ((t : Int) < 0) = false := decide_eq_false (by omega)
  have d1 : decide ((n : Int) ≤ (t : Int)) = false := decide_eq_false (by omega)
  have hw : IntKind.i64.wrap ((t : Int) + 1) = (t : Int) + 1 := by rw [IntKind.wrap_i64]; omega
  have t1 : (0 : Int) ≤ (t : Int) := by omega
  have t2 : (t : Int) < (n : Int) := by omega
  go_enter Try.func18, Try.ntmps18
  go_wp2_with fail
  generalize w.alloc (.cells #[.slice A n c, .int .i64 x] 24) = W0 at *
  clear hw
  go_loopw [5] (fun i wr => ∃ j : Nat, t < j ∧ j ≤ n ∧ i = .int .i64 (j : Int) ∧ Hid (∀ m, t < m → m < j → dp L t < dp L m) ∧ W0.grownBy wr none) (fun i _ => n - (intOf i).toNat)
  case atStart => exact ⟨t + 1, by omega, by omega, by go_num, Lib.hid fun m h1 h2 => absurd h2 (by omega), World.grownBy.refl _ _⟩
  case round =>
    obtain ⟨j, hj0, hj, rfl, hin, hgr⟩ := hrel
    clear c0
    have c0 := HB.out _ hgr
    obtain ⟨wo, rfl⟩ : ∃ wo : World, wo = wr := ⟨_, rfl⟩
    by_cases hlt : j < n
    · have hN := hN0.out.grow hgr
      obtain ⟨ad, rfl, _⟩ := hN.some_ hlt
      have z0 := hN.dep_ hlt
      have z1 := hN.dep_ ht
      have d2 : decide ((j : Int) < (n : Int)) = true := decide_eq_true (by omega)
      have i1 : (0 : Int) ≤ (j : Int) := by omega
      have i2 : (j : Int) < (n : Int) := by omega
      clear hN
      by_cases hd : dp L t < dp L j
      · have d3 : decide (dp L t < dp L j) = true := decide_eq_true hd
        have hin' := Lib.hid (show ∀ m, t < m → m < j + 1 → dp L t < dp L m from fun m h1 h2 => by
          rcases Nat.lt_or_ge m j with h | h
          · exact hin.out m h1 h
          · obtain rfl : m = j := by omega
            exact hd)
        clear hd
        go_wp2_with fail
        go_quiet (fail)
        go_wp2_with fail
        exact ⟨⟨j + 1, by omega, by omega, by go_num, hin', grown_drewN hgr _⟩, by simp [intOf]; omega⟩
      · have d3 : decide (dp L t < dp L j) = false := decide_eq_false hd
        have hf := Lib.hid (endN_uniq (d := dp L) (n := n) ht hj0 hj hin.out (.inr (by omega)))
        clear hd
        go_wp2_with fail
        go_quiet (fail)
        go_wp2_with fail
        go_ret
        exact ⟨by rw [hf.out]; rfl, grown_trans hg0'.out (grown_drewN hgr _)⟩
    · have d2 : decide ((j : Int) < (n : Int)) = false := decide_eq_false (by omega)
      obtain rfl : j = n := by omega
      have hf := Lib.hid (endN_uniq (d := dp L) (n := j) ht hj0 (Nat.le_refl _) hin.out (.inl rfl))
      go_wp2_with fail
      go_quiet (fail)
      go_wp2_with fail
      go_ret
      exact ⟨by rw [hf.out]; rfl, grown_trans hg0'.out (grown_drewN hgr _)⟩
theorem dparent_no (A : Option Addr) (n c : Nat) (x t : Int) (w : World) (hn : n ≤ 1000) (ht : t < 0 ∨ (n : Int) ≤ t) :
    Calls Try.prog 16 #[.agg #[.slice A n c, .int .i64 x], .int .i64 t] w fun e w' => e = .returned (.int .i64 (-1)) ∧ w.grownBy w' none := by
  have hg0 := World.grownBy_alloc w (.cells #[.slice A n c, .int .i64 x] 24) none
  have c0 : (w.alloc (.cells #[.slice A n c, .int .i64 x] 24)).cell? ⟨w.heap.size, 0, none⟩ = some (.slice A n c) := (Row.new w 24 #[.slice A n c, .int .i64 x]).at 0
  by_cases h : t < 0
  · have d0 : decide (t < 0) = true := decide_eq_true h
    go_enter Try.func16, Try.ntmps16
    go_wp2_with fail
    go_ret
    exact ⟨rfl, hg0⟩
  · have d0 : decide (t < 0) = false := decide_eq_false h
    have d1 : decide ((n : Int) ≤ t) = true := decide_eq_true (by omega)
    clear ht h
    go_enter Try.func16, Try.ntmps16
    go_wp2_with fail
    go_ret
    exact ⟨rfl, hg0⟩
set_option maxHeartbeats 1000000 in
theorem dparent_in (A : Option Addr) (n c : Nat) (x : Int) (t : Nat) (L : List (List Value)) (w : World) (hN : NodesAt w w.heap.size A n L) (ht : t < n) :
    Calls Try.prog 16 #[.agg #[.slice A n c, .int .i64 x], .int .i64 (t : Int)] w fun e w' => e = .returned (.int .i64 (parentN (dp L) t)) ∧ w.grownBy w' none := by
  have hn := hN.few
  have hg0 := World.grownBy_alloc w (.cells #[.slice A n c, .int .i64 x] 24) none
  have b0 := Row.new w 24 #[.slice A n c, .int .i64 x]
  have c0 : (w.alloc (.cells #[.slice A n c, .int .i64 x] 24)).cell? ⟨w.heap.size, 0, none⟩ = some (.slice A n c) := b0.at 0
  have hN0 := Lib.hid (hN.grow hg0)
  have HB := Lib.hid (fun W (hg : (w.alloc (.cells #[.slice A n c, .int .i64 x] 24)).grownBy W none) => show W.cell? ⟨w.heap.size, 0, none⟩ = some (.slice A n c) from (b0.kept0 hg).at 0)
  have hg0' := Lib.hid hg0
  have hdb := Lib.hid (fun i (hi : i < n) => hN.dep_b hi)
  clear hN b0 hg0
  have d0 : decide ((t : Int) < 0) = false := decide_eq_false (by omega)
  have d1 : decide ((n : Int) ≤ (t : Int)) = false := decide_eq_false (by omega)
  have hw : IntKind.i64.wrap ((t : Int) - 1) = (t : Int) - 1 := by rw [IntKind.wrap_i64]; omega
  have t1 : (0 : Int) ≤ (t : Int) := by omega
  have t2 : (t : Int) < (n : Int) := by omega
  go_enter Try.func16, Try.ntmps16
  go_wp2_with fail
  generalize w.alloc (.cells #[.slice A n c, .int .i64 x] 24) = W0 at *
  clear hw
  go_loopw [5] (fun i wr => ∃ j : Nat, j ≤ t ∧ i = .int .i64 ((j : Int) - 1) ∧ Hid (∀ m, j ≤ m → m < t → dp L m ≠ dp L t - 1) ∧ W0.grownBy wr none) (fun i _ => (intOf i + 1).toNat)
  case atStart => exact ⟨t, by omega, rfl, Lib.hid fun m h1 h2 => absurd h2 (by omega), World.grownBy.refl _ _⟩
  case round =>
    obtain ⟨j, hj, rfl, hno, hgr⟩ := hrel
    clear c0
    have c0 := HB.out _ hgr
    obtain ⟨wo, rfl⟩ : ∃ wo : World, wo = wr := ⟨_, rfl⟩
    by_cases h0 : 0 < j
    · obtain ⟨i, rfl⟩ : ∃ i, j = i + 1 := ⟨j - 1, by omega⟩
      have hin : i < n := by omega
      have hN := hN0.out.grow hgr
      obtain ⟨ad, rfl, _⟩ := hN.some_ hin
      have z0 := hN.dep_ hin
      have z1 := hN.dep_ ht
      have hii : ((i + 1 : Nat) : Int) - 1 = (i : Int) := by omega
      have hb1 := Lib.hid (hdb.out i hin)
      have hb2 := Lib.hid (hdb.out t ht)
      have i1 : (0 : Int) ≤ (i : Int) := by omega
      have i2 : (i : Int) < (n : Int) := by omega
      rw [hii]
      have hii' := Lib.hid hii
      clear hN hii
      cases hd : decide (dp L i + 1 = dp L t) with
      | true =>
        have hf := Lib.hid (show parentN (dp L) t = (i : Int) from upFrom_uniq (by omega) (by have := of_decide_eq_true hd; omega) (fun m h1 h2 => hno.out m (by omega) h2))
        have CL := Lib.hid (fun W => less_any (dp L i) (dp L t) hb1.out hb2.out W)
        rw [hd] at CL
        clear hd
        go_wp2_with fail
        go_quiet (focus (go_at_call 28; exact Calls.quiet_of_same (CL.out _)))
        go_wp2_with fail
        go_ret
        exact ⟨by rw [hf.out]; rfl, grown_trans hg0'.out (grown_drewN hgr _)⟩
      | false =>
        have hno' := Lib.hid (show ∀ m, i ≤ m → m < t → dp L m ≠ dp L t - 1 from fun m h1 h2 => by
          rcases Nat.lt_or_ge i m with h | h
          · exact hno.out m (by omega) h2
          · obtain rfl : m = i := by omega
            have := of_decide_eq_false hd
            omega)
        have CL := Lib.hid (fun W => less_any (dp L i) (dp L t) hb1.out hb2.out W)
        rw [hd] at CL
        have hws : IntKind.i64.wrap ((i : Int) - 1) = (i : Int) - 1 := by rw [IntKind.wrap_i64]; omega
        clear hd
        go_wp2_with fail
        go_quiet (focus (go_at_call 28; exact Calls.quiet_of_same (CL.out _)))
        go_wp2_with fail
        exact ⟨⟨i, by omega, by go_num, hno', grown_drewN hgr _⟩, by simp [intOf]⟩
    · obtain rfl : j = 0 := by omega
      have hf := Lib.hid (show parentN (dp L) t = -1 from by
        rcases upFrom_spec (dp L) (dp L t - 1) t with ⟨h1, _⟩ | ⟨p, _, h2, h3, _⟩
        · exact h1
        · exact absurd h3 (hno.out p (by omega) h2))
      have d2 : decide ((0 : Int) ≤ ((0 : Nat) : Int) - 1) = false := by decide
      go_wp2_with fail
      go_ret
      exact ⟨by rw [hf.out]; rfl, grown_trans hg0'.out hgr⟩
end Go.Proofs.Ytjnbfgogmhfbiaa
/- The document's Kids; up, gone. -/
namespace Go.Proofs.Ytjnbfgogmhfbiaa
open Go Go.RowKit
theorem dkids_none (A : Option Addr) (n c : Nat) (x : Int) (w : World) (hn : n ≤ 1000) :
    Calls Try.prog 15 #[.agg #[.slice A n c, .int .i64 x], .int .i64 (-1)] w fun e w' => e = .returned (.slice none 0 0) ∧ w.grownBy w' none := by
  have hg0 := World.grownBy_alloc w (.cells #[.slice A n c, .int .i64 x] 24) none
  have b0 := Row.new w 24 #[.slice A n c, .int .i64 x]
  have c0 : (w.alloc (.cells #[.slice A n c, .int .i64 x] 24)).cell? ⟨w.heap.size, 0, none⟩ = some (.slice A n c) := b0.at 0
  have c1 : (w.alloc (.cells #[.slice A n c, .int .i64 x] 24)).cell? ⟨w.heap.size, 1, none⟩ = some (.int .i64 x) := b0.at 1
  have CE := Lib.hid (dend_no A n c x (-1) (w.alloc (.cells #[.slice A n c, .int .i64 x] 24)) hn (.inl (by omega)))
  clear b0
  go_enter Try.func15, Try.ntmps15
  go_wp2_with fail
  generalize w.alloc (.cells #[.slice A n c, .int .i64 x] 24) = W0 at *
  go_loopw [5, 6] (fun l i wr => l = .slice none 0 0 ∧ i = .int .i64 0 ∧ wr = W0) (fun _ _ _ => 0)
  case atStart => exact ⟨rfl, by go_num, rfl⟩
  case round =>
    obtain ⟨rfl, rfl, rfl⟩ := hrel
    go_wp2_with fail
    refine CE.out.mono ?_; rintro r w2 ⟨rfl, hg2⟩
    go_wp2_with fail
    go_ret
    exact ⟨rfl, grown_trans hg0 hg2⟩
set_option maxHeartbeats 1000000 in
theorem dkids_in (A : Option Addr) (n c : Nat) (x : Int) (t : Nat) (L : List (List Value)) (w : World) (hN : NodesAt w w.heap.size A n L) (ht : t < n) :
    Calls Try.prog 15 #[.agg #[.slice A n c, .int .i64 x], .int .i64 (t : Int)] w fun e w' => ∃ A' c', e = .returned (.slice A' (kidsN (dp L) n t).length c') ∧ Own w' w.heap.size 3 1 A' (kidsN (dp L) n t).length c' ((kidsN (dp L) n t).map intV) ∧ w.grownBy w' none := by
  have hn := hN.few
  have hg0 := World.grownBy_alloc w (.cells #[.slice A n c, .int .i64 x] 24) none
  have b0 := Row.new w 24 #[.slice A n c, .int .i64 x]
  have c0 : (w.alloc (.cells #[.slice A n c, .int .i64 x] 24)).cell? ⟨w.heap.size, 0, none⟩ = some (.slice A n c) := b0.at 0
  have c1 : (w.alloc (.cells #[.slice A n c, .int .i64 x] 24)).cell? ⟨w.heap.size, 1, none⟩ = some (.int .i64 x) := b0.at 1
  have hN0 := Lib.hid (hN.grow hg0)
  have HB := Lib.hid (fun W (hg : (w.alloc (.cells #[.slice A n c, .int .i64 x] 24)).grownBy W none) => show W.cell? ⟨w.heap.size, 0, none⟩ = some (.slice A n c) ∧ W.cell? ⟨w.heap.size, 1, none⟩ = some (.int .i64 x) from ⟨(b0.kept0 hg).at 0, (b0.kept0 hg).at 1⟩)
  have hg0' := Lib.hid hg0
  have hdb := Lib.hid (fun i (hi : i < n) => hN.dep_b hi)
  obtain ⟨e, he⟩ : ∃ e, e = endN (dp L) n t := ⟨_, rfl⟩
  have he1 : t < e := by rw [he]; exact endN_gt ht
  have he2 : e ≤ n := by rw [he]; exact endN_le ht
  have he' := Lib.hid he
  have hkn := Lib.hid (show kidsN (dp L) n t = kidsF L t (List.range' (t + 1) (e - (t + 1))) from by rw [he]; rfl)
  have hszb := hg0.size
  clear hN b0 hg0 he
  obtain ⟨i0, hi0, hz0, hz1, hz2⟩ := info_parts infoI
  have hw : IntKind.i64.wrap ((t : Int) + 1) = (t : Int) + 1 := by rw [IntKind.wrap_i64]; omega
  have t1 : (0 : Int) ≤ (t : Int) := by omega
  have t2 : (t : Int) < (n : Int) := by omega
  go_enter Try.func15, Try.ntmps15
  go_wp2_with fail
  generalize w.alloc (.cells #[.slice A n c, .int .i64 x] 24) = W0 at *
  clear hw
  go_loopw [5, 6] (fun l i wr => ∃ (j m : Nat) (A' : Option Addr) (c' : Nat), t < j ∧ j ≤ e ∧ i = .int .i64 (j : Int) ∧ l = .slice A' m c' ∧ Hid (m = (kidsF L t (List.range' (t + 1) (j - (t + 1)))).length ∧ Own wr W0.heap.size 3 1 A' m c' ((kidsF L t (List.range' (t + 1) (j - (t + 1)))).map intV) ∧ W0.grownBy wr none)) (fun _ i _ => n - (intOf i).toNat)
  case atStart => exact ⟨t + 1, 0, none, 0, by omega, by omega, by go_num, rfl, Lib.hid ⟨by simp [kidsF], by simp [kidsF]; exact Own.nil_ _ _ _ _ _, World.grownBy.refl _ _⟩⟩
  case round =>
    obtain ⟨j, m, A', c', hj0, hj, rfl, rfl, hst⟩ := hrel
    clear c0 c1
    obtain ⟨hm, hown, hgr⟩ := hst.out
    obtain ⟨c0, c1⟩ := HB.out _ hgr
    obtain ⟨wo, rfl⟩ : ∃ wo : World, wo = wr := ⟨_, rfl⟩
    have CE := Lib.hid (dend_in A n c x t L wo (hN0.out.grow hgr) ht)
    rw [← he'.out] at CE
    have hm2 : m ≤ n := by
      have h1 := List.length_filter_le (fun i => decide (dp L i = dp L t + 1)) (List.range' (t + 1) (j - (t + 1)))
      rw [List.length_range'] at h1
      unfold kidsF at hm
      omega
    clear hm hown hgr
    go_wp2_with fail
    refine CE.out.mono ?_; rintro r w2 ⟨rfl, hg2⟩
    have hgr := grown_trans hst.out.2.2 hg2
    have hown := Lib.hid (hst.out.2.1.grown0 hg2)
    have hm := Lib.hid hst.out.1
    clear c0 c1 CE hst
    obtain ⟨c0, c1⟩ := HB.out _ hgr
    by_cases hlt : j < e
    · have hjn : j < n := by omega
      have hN := hN0.out.grow hgr
      obtain ⟨ad, rfl, _⟩ := hN.some_ hjn
      have z0 := hN.dep_ hjn
      have z1 := hN.dep_ ht
      have i1 : (0 : Int) ≤ (j : Int) := by omega
      have i2 : (j : Int) < (n : Int) := by omega
      have CL := Lib.hid (fun W => less_any (dp L t) (dp L j) (hdb.out t ht) (hdb.out j hjn) W)
      have hsn := Lib.hid (show kidsF L t (List.range' (t + 1) (j + 1 - (t + 1))) = if dp L j = dp L t + 1 then kidsF L t (List.range' (t + 1) (j - (t + 1))) ++ [j] else kidsF L t (List.range' (t + 1) (j - (t + 1))) by rw [below_snoc t j (by omega), kidsF_snoc])
      clear hN hg2
      cases hd : decide (dp L t + 1 = dp L j) with
      | true =>
        have hdj := Lib.hid (show dp L j = dp L t + 1 from (of_decide_eq_true hd).symm)
        rw [hd] at CL
        clear hd
        go_wp2_with fail
        go_quiet (focus (go_at_call 28; exact Calls.quiet_of_same (CL.out _)))
        have hgr2 := grown_drewN hgr nq
        have hown2 := Lib.hid (hown.out.grown0 (grown_drewN (World.grownBy.refl w2 none) nq))
        clear c0 c1 z0 z1 hgr hown CL
        generalize w2.drewN nq = w3 at *
        go_wp2_with (at_builtin; refine wpList_append_Own rfl (.tmp 29) (.tmp 31) _ rfl W0.heap.size 3 i0 _ 1 8 Try.underlying43 hi0 hz0 hz1 hz2 rfl (by omega) A' m c' _ rfl (hown2.out.alloc _) (some ⟨w3.heap.size, 0, none⟩) 1 1 (w3.heap.size + 1) [.int .i64 (j : Int)] rfl rfl (Reads.one_ _ _ _) (by simp [Value.oneCell']) (by simp only [maxLen]; omega) (by omega) (by have := hgr2.size; simp; omega) ?_; intro A2 c2 w4 hown4 hg4 _)
        have hgA := World.grownBy_alloc w3 (.cells #[.int .i64 (j : Int)] 3) none
        have hge := grown_new (grown_trans hgr2 hgA) hg4 (fun g e => (hown2.out.row_ge g e).1)
        refine ⟨⟨j + 1, m + 1, A2, c2, by omega, by omega, by go_num, rfl, Lib.hid ⟨?_, ?_, hge⟩⟩, by simp [intOf]; omega⟩
        · rw [hsn.out, if_pos hdj.out, List.length_append, hm.out]
          rfl
        · rw [hsn.out, if_pos hdj.out, List.map_append]
          exact hown4
      | false =>
        have hdj := Lib.hid (show ¬ dp L j = dp L t + 1 from fun h => of_decide_eq_false hd h.symm)
        rw [hd] at CL
        clear hd
        go_wp2_with fail
        go_quiet (focus (go_at_call 28; exact Calls.quiet_of_same (CL.out _)))
        go_wp2_with fail
        refine ⟨⟨j + 1, m, A', c', by omega, by omega, by go_num, rfl, Lib.hid ⟨?_, ?_, grown_drewN hgr nq⟩⟩, by simp [intOf]; omega⟩
        · rw [hsn.out, if_neg hdj.out]
          exact hm.out
        · rw [hsn.out, if_neg hdj.out]
          exact hown.out.grown0 (grown_drewN (World.grownBy.refl w2 none) nq)
    · obtain rfl : j = e := by omega
      have d0 : decide ((j : Int) < (j : Int)) = false := by simp
      go_wp2_with fail
      go_ret
      refine ⟨A', c', ?_, ?_, grown_trans hg0'.out hgr⟩
      · rw [hkn.out, ← hm.out]
        rfl
      · rw [hkn.out, ← hm.out]
        exact hown.out.base_ hszb
/-- The key of a node's parent. -/
def upK (L : List (List Value)) (t : Nat) : Int := if parentN (dp L) t < 0 then 0 else keyN (nd L (parentN (dp L) t).toNat)
theorem up_any (A : Option Addr) (n c : Nat) (x : Int) (t : Nat) (L : List (List Value)) (w : World) (hN : NodesAt w w.heap.size A n L) (ht : t < n) :
    Calls Try.prog 14 #[.agg #[.slice A n c, .int .i64 x], .int .i64 (t : Int)] w fun e w' => e = .returned (.int .i64 (upK L t)) ∧ w.grownBy w' none := by
  have hn := hN.few
  have hg0 := World.grownBy_alloc w (.cells #[.slice A n c, .int .i64 x] 24) none
  have b0 := Row.new w 24 #[.slice A n c, .int .i64 x]
  have c0 : (w.alloc (.cells #[.slice A n c, .int .i64 x] 24)).cell? ⟨w.heap.size, 0, none⟩ = some (.slice A n c) := b0.at 0
  have c1 : (w.alloc (.cells #[.slice A n c, .int .i64 x] 24)).cell? ⟨w.heap.size, 1, none⟩ = some (.int .i64 x) := b0.at 1
  have hN0 := Lib.hid (hN.grow hg0)
  have HB := Lib.hid (fun W (hg : (w.alloc (.cells #[.slice A n c, .int .i64 x] 24)).grownBy W none) => show W.cell? ⟨w.heap.size, 0, none⟩ = some (.slice A n c) from (b0.kept0 hg).at 0)
  have hg0' := Lib.hid hg0
  have CP := Lib.hid (dparent_in A n c x t L _ hN0.out ht)
  have hlt := parent_lt (d := dp L) (j := t)
  have hge := parent_ge (d := dp L) (j := t)
  obtain ⟨p, hp⟩ : ∃ p, p = parentN (dp L) t := ⟨_, rfl⟩
  rw [← hp] at CP hlt hge
  have hup := Lib.hid (show upK L t = if p < 0 then 0 else keyN (nd L p.toNat) by unfold upK; rw [hp])
  clear hN b0 hg0 hp
  go_enter Try.func14, Try.ntmps14
  go_wp2_with fail
  generalize w.alloc (.cells #[.slice A n c, .int .i64 x] 24) = W0 at *
  refine CP.out.mono ?_; rintro r w2 ⟨rfl, hg2⟩
  clear c0 c1
  have c0 := HB.out _ hg2
  by_cases h0 : p < 0
  · have d0 : decide (p < 0) = true := decide_eq_true h0
    have hu := Lib.hid (show upK L t = 0 by rw [hup.out, if_pos h0])
    clear h0
    go_wp2_with fail
    go_ret
    exact ⟨by rw [hu.out]; rfl, grown_trans hg0'.out hg2⟩
  · have d0 : decide (p < 0) = false := decide_eq_false h0
    obtain ⟨q, rfl⟩ := Int.eq_ofNat_of_zero_le (show 0 ≤ p by omega)
    have hu := Lib.hid (show upK L t = keyN (nd L q) by rw [hup.out, if_neg h0]; rfl)
    have hqn : q < n := by omega
    have hN := hN0.out.grow hg2
    obtain ⟨ad, rfl, _⟩ := hN.some_ hqn
    have z0 := hN.key_ hqn
    have i1 : (0 : Int) ≤ (q : Int) := by omega
    have i2 : (q : Int) < (n : Int) := by omega
    clear h0 hN
    go_wp2_with fail
    go_ret
    exact ⟨by rw [hu.out]; rfl, grown_trans hg0'.out hg2⟩
/-- Is a place in the tree that goes? -/
def goneB (L : List (List Value)) (c : Chg) (t : Nat) : Bool := (decide (c.kd = 2) || decide (c.kd = 3)) && (decide (findI L c.key ≤ (t : Int)) && decide ((t : Int) < endN (dp L) L.length (findI L c.key).toNat))
theorem gone_any (A : Option Addr) (n k : Nat) (x : Int) (t : Nat) (L : List (List Value)) (c : Chg) (w : World) (hN : NodesAt w w.heap.size A n L) (hc : c.ok) (ht : t < n) (hk : c.kd = 2 ∨ c.kd = 3 → 0 ≤ findI L c.key) :
    Calls Try.prog 13 #[.agg #[.slice A n k, .int .i64 x], .agg c.cells, .int .i64 (t : Int)] w fun e w' => e = .returned (.bool (goneB L c t)) ∧ w.grownBy w' none := by
  have hn := hN.few
  have hl := hN.len
  obtain ⟨W0, hW0, bD, rC, hg0⟩ := boxes2 w (.slice A n k) x c
  have hN0 := Lib.hid (fun W (hg : W0.grownBy W none) => hN.grow (grown_trans hg0 hg))
  have CF := Lib.hid (dfind_any A n k L x c.key W0 (hN.grow hg0))
  obtain ⟨f, hf⟩ : ∃ f, f = findI L c.key := ⟨_, rfl⟩
  rw [← hf] at CF hk
  have hgo := Lib.hid (show goneB L c t = ((decide (c.kd = 2) || decide (c.kd = 3)) && (decide (f ≤ (t : Int)) && decide ((t : Int) < endN (dp L) n f.toNat))) by unfold goneB; rw [hf, hl])
  have hfu := Lib.hid (show 0 ≤ f → ∃ u : Nat, f = u ∧ u < n from fun h => by
    rw [hf] at h ⊢
    obtain ⟨u, h1, h2, _⟩ := findI_spec h
    exact ⟨u, h1, by omega⟩)
  have HB := Lib.hid (fun W (hg : W0.grownBy W none) => show (W.cell? ⟨w.heap.size, 0, none⟩ = some (.slice A n k) ∧ W.cell? ⟨w.heap.size, 1, none⟩ = some (.int .i64 x)) ∧ W.cell? ⟨w.heap.size + 1, 0, none⟩ = some (.int .u8 c.kd) ∧ W.cell? ⟨w.heap.size + 1, 1, none⟩ = some (.int .i64 c.key) from
    ⟨⟨(bD.kept hg (by simp)).c0, (bD.kept hg (by simp)).c1⟩, ((rC.kept0 hg).at 0).trans Chg.c0, ((rC.kept0 hg).at 1).trans Chg.c1⟩)
  have hW0' := Lib.hid hW0
  have hg0' := Lib.hid hg0
  have hkb := hc.kd
  have hr := World.grownBy.refl W0 none
  obtain ⟨⟨c0, c1⟩, e0, e1⟩ := HB.out _ hr
  clear hN hf hW0 bD rC hg0 hc hl
  generalize hcs : c.cells = cs at hW0'
  go_enter Try.func13, Try.ntmps13
  go_upto_region 1 with fail
  rw [hW0'.out]
  go_wp2_with fail
  refine CF.out.mono ?_; rintro r w2 ⟨rfl, hg2⟩
  clear c0 c1 e0 e1 hr
  obtain ⟨⟨c0, c1⟩, e0, e1⟩ := HB.out _ hg2
  by_cases h23 : c.kd = 2 ∨ c.kd = 3
  · obtain ⟨u, rfl, hun⟩ := hfu.out (hk h23)
    have CE := Lib.hid (dend_in A n k x u L w2 (hN0.out _ hg2) hun)
    have hgx := Lib.hid (show goneB L c t = (decide ((u : Int) ≤ (t : Int)) && decide ((t : Int) < endN (dp L) n u)) by
      rw [hgo.out]
      rcases h23 with h | h <;> rw [h] <;> rfl)
    clear hk hfu hgo
    have hstep : ∀ (hh : (c.kd == 2) = true ∨ ((c.kd == 2) = false ∧ (c.kd == 3) = true)), True := fun _ => trivial
    clear hstep
    by_cases hut : u ≤ t
    · have d0 : decide ((u : Int) ≤ (t : Int)) = true := decide_eq_true (by omega)
      rcases h23 with h | h
      · have b1 : (c.kd == 2) = true := by simp [h]
        clear h
        go_wp2_with fail
        refine CE.out.mono ?_; rintro r w3 ⟨rfl, hg3⟩
        go_wp2_with fail
        go_ret
        exact ⟨by rw [hgx.out, d0]; simp, grown_trans hg0'.out (grown_trans hg2 hg3)⟩
      · have b1 : (c.kd == 2) = false := by simp [h]
        have b2 : (c.kd == 3) = true := by simp [h]
        clear h
        go_wp2_with fail
        refine CE.out.mono ?_; rintro r w3 ⟨rfl, hg3⟩
        go_wp2_with fail
        go_ret
        exact ⟨by rw [hgx.out, d0]; simp, grown_trans hg0'.out (grown_trans hg2 hg3)⟩
    · have d0 : decide ((u : Int) ≤ (t : Int)) = false := decide_eq_false (by omega)
      rcases h23 with h | h
      · have b1 : (c.kd == 2) = true := by simp [h]
        clear h
        go_wp2_with fail
        go_ret
        exact ⟨by rw [hgx.out, d0]; simp, grown_trans hg0'.out hg2⟩
      · have b1 : (c.kd == 2) = false := by simp [h]
        have b2 : (c.kd == 3) = true := by simp [h]
        clear h
        go_wp2_with fail
        go_ret
        exact ⟨by rw [hgx.out, d0]; simp, grown_trans hg0'.out hg2⟩
  · have b1 : (c.kd == 2) = false := by simp; omega
    have b2 : (c.kd == 3) = false := by simp; omega
    have hgx := Lib.hid (show goneB L c t = false by
      rw [hgo.out, decide_eq_false (by omega), decide_eq_false (by omega)]
      rfl)
    clear h23 hk hfu hgo
    go_wp2_with fail
    go_ret
    exact ⟨by rw [hgx.out]; rfl, grown_trans hg0'.out hg2⟩
end Go.Proofs.Ytjnbfgogmhfbiaa
/- A tree cut out, put in: plain. -/
namespace Go.Proofs.Ytjnbfgogmhfbiaa
open Go Go.RowKit
theorem upK_pos {L T : List (List Value)} {g : Nat} {deep : Int} (h : Fits_ L T g deep) {j : Nat} (hj : j < L.length) : upK (putAt L g T) (posP g T.length j) = upK L j := by
  unfold upK
  rcases pos_parent h hj with ⟨h1, h2⟩ | ⟨p, hp, h1, h2⟩
  · rw [h1, h2]; rfl
  · rw [h1, h2, if_neg (by omega), if_neg (by omega), Int.toNat_natCast, Int.toNat_natCast, nd_pos h.le]
theorem cutL_inv {L T R : List (List Value)} {key : Int} (h : cutL L key = .ok (T, R)) : ∃ u : Nat, findI L key = u ∧ 0 < u ∧ u < L.length ∧ keyN (nd L u) = key ∧ T = (L.drop u).take (endN (dp L) L.length u - u) ∧ R = L.take u ++ L.drop (endN (dp L) L.length u) := by
  unfold cutL at h
  split at h
  · rename_i h0
    obtain ⟨u, hu, hul, hk⟩ := findI_spec (L := L) (key := key) (by omega)
    rw [hu] at h
    injection h with h
    injection h with h1 h2
    exact ⟨u, hu, by omega, hul, hk, h1.symm, h2.symm⟩
  · cases h
theorem gapE_inv {L : List (List Value)} {par num deep : Int} {g : Nat} (h : gapE L par num = .ok (g, deep)) : ∃ v k, GapYes L par num v k ∧ g = gapAt L v k ∧ deep = dp L v + 1 := by
  unfold gapE at h
  split at h
  · rename_i h0
    obtain ⟨v, hv, hvl, _⟩ := findI_spec (L := L) (key := par) h0
    rw [hv] at h
    dsimp only at h
    split at h
    · rename_i h1
      injection h with h
      injection h with h2 h3
      obtain ⟨k, rfl⟩ := Int.eq_ofNat_of_zero_le h1.2.1
      simp only [Int.toNat_natCast] at h2 h3 h1
      exact ⟨v, k, ⟨hv, hvl, h1.1, rfl, by omega⟩, h2.symm, h3.symm⟩
    · cases h
  · cases h
/-- A tree of a document, and what is left without it. -/
structure Cut (L T R : List (List Value)) (x : Int) (u m : Nat) : Prop where
  u0 : 0 < u
  un : u + m ≤ L.length
  m0 : 0 < m
  end_ : endN (dp L) L.length u = u + m
  tlen : T.length = m
  rlen : R.length = L.length - m
  back : putAt R u T = L
  tnd : ∀ i, i < m → nd T i = nd L (u + i)
  rlo : ∀ j, j < u → nd R j = nd L j
  rhi : ∀ j, u ≤ j → nd R j = nd L (j + m)
  shape : Shape R x
  fits : Fits_ R T u (dp L u)
theorem cut_of {L : List (List Value)} {x : Int} (h : Shape L x) {u : Nat} (h0 : 0 < u) (hu : u < L.length) :
    Cut L ((L.drop u).take (endN (dp L) L.length u - u)) (L.take u ++ L.drop (endN (dp L) L.length u)) x u (endN (dp L) L.length u - u) := by
  have e1 := endN_gt (d := dp L) hu
  have e2 := endN_le (d := dp L) hu
  have hS := h.less h0 hu
  obtain ⟨e, he⟩ : ∃ e, e = endN (dp L) L.length u := ⟨_, rfl⟩
  have hout := endN_out (d := dp L) hu
  have hinn := fun j (h1 : u < j) (h2 : j < e) => endN_in (d := dp L) (n := L.length) h1 (by rw [← he]; exact h2)
  rw [← he] at e1 e2 hS hout ⊢
  have tl : ((L.drop u).take (e - u)).length = e - u := by simp; omega
  have rl : (L.take u ++ L.drop e).length = L.length - (e - u) := by simp; omega
  have tn : ∀ i, i < e - u → nd ((L.drop u).take (e - u)) i = nd L (u + i) := fun i hi => by
    unfold nd
    rw [List.getElem?_take, if_pos hi, List.getElem?_drop]
  have lo : ∀ j, j < u → nd (L.take u ++ L.drop e) j = nd L j := fun j hj => by rw [nd_less L u e j (by omega), if_pos hj]
  have hi : ∀ j, u ≤ j → nd (L.take u ++ L.drop e) j = nd L (j + (e - u)) := fun j hj => by
    rw [nd_less L u e j (by omega), if_neg (by omega)]
    congr 1
    omega
  refine ⟨h0, by omega, by omega, by omega, tl, rl, ?_, tn, lo, hi, hS, ⟨hS.steps, by omega, ?_, ?_⟩⟩
  · unfold putAt
    have h1 : (L.take u ++ L.drop e).take u = L.take u := by rw [List.take_left' (by simp; omega)]
    have h2 : (L.take u ++ L.drop e).drop u = L.drop e := by rw [List.drop_left' (by simp; omega)]
    rw [h1, h2, List.append_assoc]
    have h3 : (L.drop u).take (e - u) ++ L.drop e = L.drop u := by
      have := List.take_append_drop (e - u) (L.drop u)
      rw [List.drop_drop, show u + (e - u) = e by omega] at this
      exact this
    rw [h3, List.take_append_drop]
  · rcases hout with h1 | h1
    · left; omega
    · right
      unfold dp
      rw [hi u (Nat.le_refl _), show u + (e - u) = e by omega]
      exact h1
  · intro i hi
    rw [tl] at hi
    unfold dp
    rw [tn i hi]
    rcases Nat.eq_zero_or_pos i with h1 | h1
    · rw [h1]; exact Int.le_refl _
    · exact Int.le_of_lt (hinn (u + i) (by omega) (by omega))
theorem deepen_dep {y : List Value} (hy : OkAll nodeLs y) (d : Int) : depN (deepen d y) = depN y + d := by
  have := hy.len
  rw [nodeLs_len] at this
  unfold depN intAt deepen
  rw [List.getElem?_set_self (by omega)]
  rfl
theorem deepen_key (y : List Value) (d : Int) : keyN (deepen d y) = keyN y := by
  unfold keyN intAt deepen
  rw [List.getElem?_set_ne (by omega)]
theorem deepen_back {y : List Value} (hy : OkAll nodeLs y) (d : Int) : deepen (-d) (deepen d y) = y := by
  have h1 := deepen_dep hy d
  have h2 := (n_dep hy).1
  have h3 := hy.len
  rw [nodeLs_len] at h3
  unfold deepen at h1 ⊢
  rw [h1, List.set_set, show depN y + d + -d = depN y by omega]
  apply List.ext_getElem?
  intro t
  rw [List.getElem?_set]
  by_cases ht : 1 = t
  · subst ht
    rw [if_pos rfl, if_pos (by omega), h2]
  · rw [if_neg ht]
theorem map_nd {T : List (List Value)} {f : List Value → List Value} {i : Nat} (h : i < T.length) : nd (T.map f) i = f (nd T i) := by
  unfold nd
  rw [List.getElem?_map, List.getElem?_eq_getElem h]
  rfl
/-- What comes of a move. -/
structure Moved (L L' : List (List Value)) (x : Int) (key par num : Int) (u m g v k : Nat) (T R : List (List Value)) : Prop where
  cut : Cut L T R x u m
  fu : findI L key = u
  gap : GapYes R par num v k
  ge : g = gapAt R v k
  out : L' = putAt R g (T.map (deepen (dp R v + 1 - dp L u)))
  fits : Fits_ R (T.map (deepen (dp R v + 1 - dp L u))) g (dp R v + 1)
  len : L'.length = L.length
  tok : ∀ y ∈ T, OkAll nodeLs y
theorem moved_of {L L' : List (List Value)} {x x' : Int} {key par num : Int} (hL : ∀ y ∈ L, OkAll nodeLs y) (hS : Shape L x) (h : moveL L x key par num = .ok (L', x')) : ∃ u m g v k T R, Moved L L' x key par num u m g v k T R := by
  unfold moveL at h
  split at h
  · cases h
  · rename_i T R hcut
    split at h
    · cases h
    · rename_i g deep hgap
      injection h with h
      injection h with h1 h2
      obtain ⟨u, hu, h0, hul, hk, hT, hR⟩ := cutL_inv hcut
      obtain ⟨v, k, hy, hg, hd⟩ := gapE_inv hgap
      have hc := cut_of hS h0 hul
      rw [← hT, ← hR] at hc
      obtain ⟨m, hm⟩ : ∃ m, m = endN (dp L) L.length u - u := ⟨_, rfl⟩
      rw [← hm] at hc
      have hT0 : dp T 0 = dp L u := by unfold dp; rw [hc.tnd 0 hc.m0]; rfl
      have htok : ∀ y ∈ T, OkAll nodeLs y := fun y hy => hL y ((cutL_mem hcut).1 y hy)
      obtain ⟨f1, f2, f3, f4, f5, f6⟩ := gap_facts hy
      rw [← hg] at f1 f2 f3 f4 f5 f6
      rw [hT0, hd] at h1
      refine ⟨u, m, g, v, k, T, R, hc, hu, hy, hg, h1.symm, ⟨hc.shape.steps, f3, f5, fun i hi => ?_⟩, ?_, htok⟩
      · rw [List.length_map] at hi
        unfold dp
        rw [map_nd hi, deepen_dep (nd_ok_ htok hi)]
        have h3 := hc.fits.inn i hi
        unfold dp at h3
        omega
      · rw [← h1, put_len f3, List.length_map, hc.tlen, hc.rlen]
        have := hc.un
        omega
theorem Moved.tlen {L L' T R : List (List Value)} {x key par num : Int} {u m g v k : Nat} (h : Moved L L' x key par num u m g v k T R) (d : Int) : (T.map (deepen d)).length = m := by rw [List.length_map, h.cut.tlen]
section
variable {L L' T R : List (List Value)} {x key par num : Int} {u m g v k : Nat} (h : Moved L L' x key par num u m g v k T R)
include h
theorem Moved.gb : v < g ∧ g ≤ R.length ∧ g + m ≤ L.length := by
  obtain ⟨f1, f2, f3, f4, f5, f6⟩ := gap_facts h.gap
  rw [← h.ge] at f1 f2 f3 f4 f5 f6
  have := h.cut.rlen
  have := h.cut.un
  omega
theorem Moved.nd_mid {i : Nat} (hi : i < m) : nd L' (g + i) = deepen (dp R v + 1 - dp L u) (nd L (u + i)) := by
  rw [h.out, nd_put_mid h.gb.2.1 (by rw [h.tlen]; exact hi), map_nd (by rw [h.cut.tlen]; exact hi), h.cut.tnd i hi]
theorem Moved.nd_lo {j : Nat} (hj : j < g) : nd L' j = nd R j := by rw [h.out, nd_put_lo h.gb.2.1 hj]
theorem Moved.nd_hi {j : Nat} (hj : g ≤ j) : nd L' (j + m) = nd R j := by
  have := nd_put_hi (T := T.map (deepen (dp R v + 1 - dp L u))) h.gb.2.1 hj
  rw [h.tlen] at this
  rw [h.out, this]
theorem Moved.dp_mid {i : Nat} (hi : i < m) : dp L' (g + i) = dp L (u + i) + (dp R v + 1 - dp L u) := by
  unfold dp
  rw [h.nd_mid hi, deepen_dep]
  · rfl
  · rw [← h.cut.tnd i hi]
    exact nd_ok_ h.tok (by rw [h.cut.tlen]; exact hi)
theorem Moved.dp_lo {j : Nat} (hj : j < g) : dp L' j = dp R j := by unfold dp; rw [h.nd_lo hj]
theorem Moved.dp_hi {j : Nat} (hj : g ≤ j) : dp L' (j + m) = dp R j := by unfold dp; rw [h.nd_hi hj]
theorem Moved.dp_g : dp L' g = dp R v + 1 := by
  have := h.dp_mid h.cut.m0
  rw [Nat.add_zero, Nat.add_zero] at this
  omega
theorem Moved.end_ : endN (dp L') L'.length g = g + m := by
  have gb := h.gb
  have m0 := h.cut.m0
  rw [h.len]
  refine endN_uniq (by omega) (by omega) gb.2.2 (fun j h1 h2 => ?_) ?_
  · obtain ⟨i, rfl⟩ : ∃ i, j = g + i := ⟨j - g, by omega⟩
    rw [h.dp_g, h.dp_mid (by omega)]
    have := endN_in (d := dp L) (n := L.length) (i := u) (j := u + i) (by omega) (by rw [h.cut.end_]; omega)
    omega
  · obtain ⟨f1, f2, f3, f4, f5, f6⟩ := gap_facts h.gap
    rw [← h.ge] at f5
    rcases f5 with f5 | f5
    · left
      have := h.cut.rlen
      have := h.cut.un
      omega
    · right
      rw [h.dp_g, h.dp_hi (Nat.le_refl _)]
      exact f5
theorem Moved.parent : parentN (dp L') g = v := by
  obtain ⟨f1, f2, f3, f4, f5, f6⟩ := gap_facts h.gap
  rw [← h.ge] at f1 f2 f3 f4 f5 f6
  unfold parentN
  rw [h.dp_g]
  refine upFrom_uniq f1 (by rw [h.dp_lo f1]; omega) fun j h1 h2 => ?_
  rw [h.dp_lo h2]
  have := f6 j h1 h2
  omega
theorem Moved.up : upK L' g = par := by
  obtain ⟨f1, _⟩ := h.gb
  unfold upK
  rw [h.parent, if_neg (by omega), Int.toNat_natCast, h.nd_lo f1]
  obtain ⟨hv, hvl, _⟩ := h.gap
  obtain ⟨v', hv', _, hk⟩ := findI_spec (L := R) (key := par) (by omega)
  have : v = v' := by omega
  rw [this]
  exact hk
theorem Moved.kid : (kidsN (dp L') L'.length v)[k]? = some g := by
  have gb := h.gb
  have m0 := h.cut.m0
  obtain ⟨f1, f2, f3, f4, f5, f6⟩ := gap_facts h.gap
  rw [← h.ge] at f1 f2 f3 f4 f5 f6
  have hc : cntK' (dp R) v g = cntK' (dp L') v g := cntK_congr (fun j h1 h2 => (h.dp_lo h2).symm) f1
  rw [f4, hc]
  have hvn : v < L'.length := by rw [h.len]; omega
  refine kids_at f1 ?_ (by rw [h.dp_g, h.dp_lo f1])
  -- the parent's tree goes beyond
  rcases Nat.lt_or_ge g (endN (dp L') L'.length v) with h1 | h1
  · exact h1
  · exfalso
    have e1 := endN_gt (d := dp L') hvn
    rcases endN_out (d := dp L') hvn with e2 | e2
    · rw [h.len] at e2 h1
      omega
    · rcases Nat.eq_or_lt_of_le h1 with h3 | h3
      · rw [h3, h.dp_g, h.dp_lo f1] at e2
        omega
      · rw [h.dp_lo h3, h.dp_lo f1] at e2
        have := f6 _ e1 h3
        omega
theorem Moved.find (hS : Shape L' x) : findI L' key = g := by
  have gb := h.gb
  have m0 := h.cut.m0
  have h1 : keyN (nd L' g) = key := by
    have := h.nd_mid m0
    rw [Nat.add_zero, Nat.add_zero] at this
    rw [this, deepen_key]
    obtain ⟨u', hu', _, hk⟩ := findI_spec (L := L) (key := key) (by have := h.fu; omega)
    have : u = u' := by have := h.fu; omega
    rw [this]
    exact hk
  have := find_key hS (i := g) (by rw [h.len]; omega)
  rw [h1] at this
  exact this
end
end Go.Proofs.Ytjnbfgogmhfbiaa
/- A text put in below a box: whether the document may be. -/
namespace Go.Proofs.Ytjnbfgogmhfbiaa
open Go Go.RowKit
def flexRun (F : Nat → Int) : List (List Value) → (Nat → Int)
  | [] => F
  | y :: r => flexRun (flexNext F y) r
theorem flexGo_append (F : Nat → Int) (A B : List (List Value)) : flexGo F (A ++ B) = (flexGo F A && flexGo (flexRun F A) B) := by
  induction A generalizing F with
  | nil => rfl
  | cons y r ih =>
    simp only [List.cons_append, flexGo, flexRun, ih, Bool.and_assoc]
theorem flexRun_append (F : Nat → Int) (A B : List (List Value)) : flexRun F (A ++ B) = flexRun (flexRun F A) B := by
  induction A generalizing F with
  | nil => rfl
  | cons y r ih => simp only [List.cons_append, flexRun, ih]
/-- Depths rise by one at most, from m on. -/
def StepsFrom (m : Int) : List (List Value) → Prop
  | [] => True
  | y :: r => 0 ≤ depN y ∧ depN y ≤ m ∧ StepsFrom (depN y + 1) r
theorem stepsFrom_drop {L : List (List Value)} {x : Int} (h : Shape L x) : ∀ k j, j + k = L.length → 0 < j → StepsFrom (dp L (j - 1) + 1) (L.drop j)
  | 0, j, hj, _ => by
    rw [List.drop_of_length_le (by omega)]
    trivial
  | k + 1, j, hj, h0 => by
    have hlt : j < L.length := by omega
    rw [List.drop_eq_getElem_cons hlt]
    have hnd : L[j] = nd L j := by unfold nd; rw [List.getElem?_eq_getElem hlt]; rfl
    have g := (h.2.2.2.1 j hlt).2.2.2 h0
    rw [hnd]
    refine ⟨by omega, g.2.1, ?_⟩
    have := stepsFrom_drop h k (j + 1) (by omega) (by omega)
    rw [Nat.add_sub_cancel] at this
    exact this
theorem flexGo_agree : ∀ (B : List (List Value)) (F F' : Nat → Int) (m : Int), (∀ k : Nat, (k : Int) ≤ m → F k = F' k) → StepsFrom m B → flexGo F B = flexGo F' B
  | [], _, _, _, _, _ => rfl
  | y :: r, F, F', m, h, ⟨h1, h2, h3⟩ => by
    have hd : F (depN y).toNat = F' (depN y).toNat := h _ (by omega)
    have hb : flexBad F y = flexBad F' y := by unfold flexBad; rw [hd]
    have hv : flexVal F y = flexVal F' y := by unfold flexVal; rw [hd]
    unfold flexGo
    rw [hb, flexGo_agree r (flexNext F y) (flexNext F' y) (depN y + 1) (fun k hk => by
      unfold flexNext
      by_cases hk2 : k = (depN y).toNat + 1
      · rw [if_pos hk2, if_pos hk2, hv]
      · rw [if_neg hk2, if_neg hk2]
        exact h k (by omega)) h3]
section
variable {x d : Int} {y : List Value}
theorem textOf_key : keyN (textOf x d y) = x := rfl
theorem textOf_dep : depN (textOf x d y) = d := rfl
theorem textOf_kind : kindN (textOf x d y) = 1 := rfl
theorem textOf_sty : styN (textOf x d y) = zeroSty := by
  unfold styN textOf
  rfl
end
theorem total_put {L T : List (List Value)} {g : Nat} : total (putAt L g T) = total L + total T := by
  unfold putAt
  rw [total_append, total_append]
  have := total_append (L.take g) (L.drop g)
  rw [List.take_append_drop] at this
  omega
theorem flex_z {L : List (List Value)} {x : Int} {y : List Value} {u : Nat} (hM : MayL L x) (hu : u < L.length) (hk : kindN (nd L u) = 0) :
    flexGo (fun _ => 0) (putAt L (u + 1) [textOf x (dp L u + 1) y]) = true ↔ disp (nd L u) ≠ 2 := by
  have hd := (hM.1.2.2.2.1 u hu).1.2.2.1
  have hA : L.take (u + 1) = L.take u ++ [nd L u] := by
    rw [List.take_add_one, nd_get hu]
    rfl
  have hL : flexGo (fun _ => 0) (L.take (u + 1) ++ L.drop (u + 1)) = true := by rw [List.take_append_drop]; exact hM.2
  rw [flexGo_append] at hL
  simp only [Bool.and_eq_true] at hL
  obtain ⟨F, hF⟩ : ∃ F, F = flexRun (fun _ => 0) (L.take (u + 1)) := ⟨_, rfl⟩
  rw [← hF] at hL
  have hFd : ∃ G, F = flexNext G (nd L u) := ⟨flexRun (fun _ => 0) (L.take u), by rw [hF, hA, flexRun_append]; rfl⟩
  obtain ⟨G, hG⟩ := hFd
  have hFv : F (dp L u + 1).toNat = flexVal G (nd L u) := by
    rw [hG]
    unfold flexNext
    rw [if_pos (by unfold dp; omega)]
  have hzb : flexBad F (textOf x (dp L u + 1) y) = decide (flexVal G (nd L u) < 0) := by
    unfold flexBad
    rw [textOf_kind, textOf_dep, hFv]
    simp [isFlex, textOf_kind]
  have hag : flexGo (flexNext F (textOf x (dp L u + 1) y)) (L.drop (u + 1)) = flexGo F (L.drop (u + 1)) := by
    refine flexGo_agree _ _ _ (dp L u + 1) (fun k hk => ?_) ?_
    · unfold flexNext
      rw [textOf_dep, if_neg (by unfold dp at hk ⊢; omega)]
    · have := stepsFrom_drop hM.1 (L.length - (u + 1)) (u + 1) (by omega) (by omega)
      rw [Nat.add_sub_cancel] at this
      exact this
  have hgo : flexGo (fun _ => 0) (putAt L (u + 1) [textOf x (dp L u + 1) y]) = !decide (flexVal G (nd L u) < 0) := by
    unfold putAt
    rw [List.append_assoc, flexGo_append, ← hF, hL.1, Bool.true_and]
    show (!flexBad F (textOf x (dp L u + 1) y) && flexGo (flexNext F (textOf x (dp L u + 1) y)) (L.drop (u + 1))) = _
    rw [hag, hL.2, hzb, Bool.and_true]
  rw [hgo]
  unfold flexVal isFlex
  rw [hk]
  by_cases h2 : disp (nd L u) = 2
  · rw [h2]
    simp only [decide_true, Bool.and_self, if_true, Bool.not_eq_true', decide_eq_false_iff_not]
    unfold absI
    constructor
    · intro h; exfalso; apply h; omega
    · intro h; exact absurd rfl h
  · simp only [h2, decide_false, Bool.and_false, Bool.false_eq_true, if_false, Bool.not_eq_true', decide_eq_false_iff_not]
    unfold absI
    constructor
    · intro _; exact h2
    · intro _; omega
theorem full_iff {L : List (List Value)} {x : Int} {y : List Value} {u : Nat} (hM : MayL L x) (hu : u < L.length) (hk : kindN (nd L u) = 0) (hy : OkAll nodeLs y) :
    MayL (putAt L (u + 1) [textOf x (dp L u + 1) y]) (x + 1) ↔ disp (nd L u) ≠ 2 ∧ lenN y ≤ 200 ∧ lenN y + total L ≤ 1500 ∧ dp L u < 15 ∧ L.length < 300 ∧ x ≤ 1073741824 := by
  have hle : u + 1 ≤ L.length := hu
  have hlen := put_len (T := [textOf x (dp L u + 1) y]) hle
  rw [List.length_singleton] at hlen
  have hmid : nd (putAt L (u + 1) [textOf x (dp L u + 1) y]) (u + 1) = textOf x (dp L u + 1) y := by
    have := nd_put_mid (T := [textOf x (dp L u + 1) y]) hle (i := 0) (by simp)
    exact this
  have htot : total (putAt L (u + 1) [textOf x (dp L u + 1) y]) = lenN y + total L := by
    rw [total_put]
    have : total [textOf x (dp L u + 1) y] = lenN (textOf x (dp L u + 1) y) := by simp [total]
    rw [this, text_text hy]
    omega
  have hd := (hM.1.2.2.2.1 u hu).1.2.2
  constructor
  · rintro ⟨⟨h1, h2, h3, h4, h5, h6⟩, h7⟩
    have hz := (h4 (u + 1) (by omega)).1
    rw [hmid] at hz
    obtain ⟨z1, z2, z3, z4, z5⟩ := hz
    rw [textOf_dep] at z4
    rw [textOf_kind, text_text hy] at z5
    rw [htot] at h6
    refine ⟨(flex_z hM hu hk).1 h7, ?_, h6, by omega, by omega, by omega⟩
    rcases z5 with z5 | z5
    · omega
    · exact z5.2.2
  · rintro ⟨h1, h2, h3, h4, h5, h6⟩
    obtain ⟨s1, s2, s3, s4, s5, s6⟩ := hM.1
    have hx1 := (s4 0 (by omega)).1
    refine ⟨⟨by omega, by omega, by omega, fun i hi => ?_, ?_, by rw [htot]; exact h3⟩, (flex_z hM hu hk).2 h1⟩
    · have hlo : ∀ j, j < u + 1 → nd (putAt L (u + 1) [textOf x (dp L u + 1) y]) j = nd L j := fun j hj => nd_put_lo hle hj
      have hhi : ∀ j, u + 1 ≤ j → nd (putAt L (u + 1) [textOf x (dp L u + 1) y]) (j + 1) = nd L j := fun j hj => nd_put_hi (T := [textOf x (dp L u + 1) y]) hle hj
      rcases Nat.lt_trichotomy i (u + 1) with hi1 | hi1 | hi1
      · obtain ⟨g1, g2, g3, g4⟩ := s4 i (by omega)
        unfold Good
        rw [hlo i hi1]
        refine ⟨⟨g1.1, by have := g1.2.1; omega, g1.2.2⟩, fun k hk => by rw [hlo k (by omega)]; exact g2 k hk, g3, fun h0 => by rw [hlo (i - 1) (by omega)]; exact g4 h0⟩
      · subst hi1
        unfold Good
        rw [hmid, Nat.add_sub_cancel, hlo u (by omega)]
        refine ⟨⟨by rw [textOf_key]; have := hx1.1; have := hx1.2.1; omega, by rw [textOf_key]; omega, by rw [textOf_dep]; unfold dp; omega, by rw [textOf_dep]; omega, .inr ⟨textOf_kind, textOf_sty, by rw [text_text hy]; exact h2⟩⟩, fun k hk => ?_, fun h0 => by omega, fun _ => ⟨by rw [textOf_dep]; unfold dp; omega, by rw [textOf_dep]; exact Int.le_refl _, fun _ => by rw [hk]; decide⟩⟩
        rw [hlo k hk, textOf_key]
        have := (s4 k (by omega)).1.2.1
        omega
      · obtain ⟨j, rfl⟩ : ∃ j, i = j + 1 := ⟨i - 1, by omega⟩
        have hj : u + 1 ≤ j := by omega
        obtain ⟨g1, g2, g3, g4⟩ := s4 j (by omega)
        unfold Good
        rw [hhi j hj]
        refine ⟨⟨g1.1, by have := g1.2.1; omega, g1.2.2⟩, fun k hk => ?_, fun h0 => by omega, fun _ => ?_⟩
        · rcases Nat.lt_trichotomy k (u + 1) with hk1 | hk1 | hk1
          · rw [hlo k hk1]; exact g2 k (by omega)
          · rw [hk1, hmid, textOf_key]
            have := g1.2.1
            omega
          · obtain ⟨k', rfl⟩ : ∃ k', k = k' + 1 := ⟨k - 1, by omega⟩
            rw [hhi k' (by omega)]
            exact g2 k' (by omega)
        · have g5 := g4 (by omega)
          rw [Nat.add_sub_cancel]
          rcases Nat.eq_or_lt_of_le hj with hj1 | hj1
          · subst hj1
            rw [hmid]
            rw [Nat.add_sub_cancel] at g5
            refine ⟨g5.1, by rw [textOf_dep]; unfold dp; omega, fun h0 => ?_⟩
            rw [textOf_dep] at h0
            unfold dp at h0
            omega
          · obtain ⟨k', rfl⟩ : ∃ k', j = k' + 1 := ⟨j - 1, by omega⟩
            rw [hhi k' (by omega)]
            rw [Nat.add_sub_cancel] at g5
            exact g5
    · have : nd (putAt L (u + 1) [textOf x (dp L u + 1) y]) 0 = nd L 0 := nd_put_lo hle (by omega)
      rw [this]
      exact s5
/-- The first kid's gap stands right behind its parent. -/
theorem gap_first {L : List (List Value)} {x : Int} (h : Shape L x) {u : Nat} (hu : u < L.length) : gapAt L u 0 = u + 1 := by
  have e1 := endN_gt (d := dp L) hu
  have e2 := endN_le (d := dp L) hu
  unfold gapAt
  rcases Nat.eq_or_lt_of_le e1 with h1 | h1
  · have hk : kidsN (dp L) L.length u = [] := by
      unfold kidsN
      rw [show endN (dp L) L.length u - (u + 1) = 0 by omega]
      rfl
    rw [hk]
    simp only [List.getElem?_nil, Option.getD_none]
    omega
  · have hs := h.steps
    have h2 := endN_in (d := dp L) (n := L.length) (i := u) (j := u + 1) (by omega) h1
    have h3 := (hs.2 (u + 1) (by omega) (by omega)).2
    rw [Nat.add_sub_cancel] at h3
    have h4 := kids_at (d := dp L) (n := L.length) (v := u) (g := u + 1) (by omega) h1 (by omega)
    have h5 : cntK' (dp L) u (u + 1) = 0 := by unfold cntK'; rw [Nat.sub_self]; rfl
    rw [h5] at h4
    rw [h4]
    rfl
end Go.Proofs.Ytjnbfgogmhfbiaa
/- MutateMoved: the walk. -/
namespace Go.Proofs.Ytjnbfgogmhfbiaa
open Go Go.RowKit
def noChg : Chg := ⟨0, 0, 0, 0, zeroNode⟩
theorem noChg_ok : noChg.ok := chg_ok zero_ok (by decide)
theorem mv_ok {key par num : Int} (h1 : (Lit.int .i64 key).wf = true) (h2 : (Lit.int .i64 par).wf = true) (h3 : (Lit.int .i64 num).wf = true) : (⟨3, key, par, num, zeroNode⟩ : Chg).ok := ⟨by show (0 : Int) ≤ 3 ∧ (3 : Int) ≤ 255; omega, wfI h1, wfI h2, wfI h3, zero_ok⟩
theorem DB.cells {w : World} {p : Nat} {A : Option Addr} {n k : Nat} {L : List (List Value)} {x : Int} (h : DB w p A n k L x) : w.cell? ⟨p, 0, none⟩ = some (.slice A n k) ∧ w.cell? ⟨p, 1, none⟩ = some (.int .i64 x) := ⟨h.two.c0, h.two.c1⟩
set_option maxRecDepth 100000 in
set_option maxHeartbeats 8000000 in
theorem MutateMoved_walk (w : World) (A : Option Addr) (n k : Nat) (L : List (List Value)) (x : Int) (_wx : (Lit.int .i64 x).wf = true) (R : IsNodes w A n k L) (key : Int) (wk : (Lit.int .i64 key).wf = true) (par : Int) (wp : (Lit.int .i64 par).wf = true) (num : Int) (wn : (Lit.int .i64 num).wf = true) :
    Calls Try.prog 6 #[.agg #[.slice A n k, .int .i64 x], .int .i64 key, .int .i64 par, .int .i64 num] w fun e w' => e = .returned (.bool true) ∧ Below w.heap.size w w' := by
  have hnc := R.len_
  have hg0 := World.grownBy_alloc w (.cells #[.slice A n k, .int .i64 x] 24) none
  have bD := Two.new w 24 (.slice A n k) (.int .i64 x)
  have CA := Lib.hid (awake_any (w.alloc (.cells #[.slice A n k, .int .i64 x] 24)))
  have hok := Lib.hid (fun y hy => (R.2.2.2.1 y hy).2)
  have hlen := Lib.hid R.1
  have hrd := Lib.hid (fun W (hg : w.grownBy W none) => (R.2.2.2.2.grown0 hg).more hg.size)
  have CG := Lib.hid (fun W (hg : w.grownBy W none) => great7_any A n k L x noChg W hok.out hlen.out (hrd.out W hg) (by omega) noChg_ok)
  have hc' := Lib.hid (mv_ok wk wp wn)
  have bD' := Lib.hid (fun W (hg : (w.alloc (.cells #[.slice A n k, .int .i64 x] 24)).grownBy W none) => bD.kept hg (by simp))
  have hg0' := Lib.hid hg0
  clear R bD hg0 wk wp wn
  go_enter Try.func6, Try.ntmps6
  go_wp2_with fail
  generalize w.alloc (.cells #[.slice A n k, .int .i64 x] 24) = W0 at *
  refine CA.out.mono ?_; rintro r w1 ⟨rfl, hg⟩
  have c0 := (bD'.out _ hg).c0
  have c1 := (bD'.out _ hg).c1
  go_wp2_with (refine wpList_build (o := ⟨some 21, _, _, _, _, _⟩) rfl (T := 34) rfl noChg.cells (by kernel_rfl) ?_; simp only [Act.put, List.setIfInBounds_toArray, List.set_cons_zero, List.set_cons_succ])
  refine (CG.out _ (grown_trans hg0'.out hg)).mono ?_; rintro r w2 ⟨b, rfl, hb, hg2⟩
  replace hg := grown_trans hg hg2
  clear c0 c1 hg2 CA CG
  cases b with
  | true =>
    clear hb
    go_wp2_with fail
    go_ret
    exact ⟨rfl, grown_below (grown_trans hg0'.out hg)⟩
  | false =>
    obtain ⟨⟨hn, ht⟩, _⟩ := hb rfl
    have hN := Lib.hid (fun W (hg : W0.grownBy W none) => show NodesAt W W.heap.size A n L from ⟨hok.out, hlen.out, hrd.out W (grown_trans hg0'.out hg), by omega⟩)
    have hsm := Lib.hid (fun i (hi : i < n) => show lenN (nd L i) ≤ 5000 from Nat.le_trans (total_mem _ (List.mem_of_getElem? (nd_get (by rw [hlen.out]; exact hi)))) ht)
    have CAp := Lib.hid (apply_any A n k x L ⟨3, key, par, num, zeroNode⟩ w2 (hN.out _ hg) hsm.out hc'.out (by show lenN zeroNode ≤ 5000; decide))
    have c0 := (bD'.out _ hg).c0
    have c1 := (bD'.out _ hg).c1
    clear hb ht
    go_wp2_with (refine wpList_build (o := ⟨some 28, _, _, _, _, _⟩) rfl (T := 34) rfl (⟨3, key, par, num, zeroNode⟩ : Chg).cells (by kernel_rfl) ?_; simp only [Act.put, List.setIfInBounds_toArray, List.set_cons_zero, List.set_cons_succ])
    refine CAp.out.mono ?_; rintro r w3 ⟨⟨res, hap, hans⟩, hg3⟩
    replace hg := grown_trans hg hg3
    clear c0 c1 CAp hg3
    cases res with
    | error e =>
      have he0 := (applies_err hap).1
      have ha := World.grownBy_alloc w3 (.cells #[.slice none 0 0, .int .i64 0] 24) none
      have hga := grown_trans hg ha
      have b0 : (e != 0) = true := by simpa using he0
      obtain rfl : r = _ := hans
      clear hap ha he0
      go_wp2_with fail
      go_ret
      exact ⟨rfl, grown_below (grown_trans hg0'.out hga)⟩
    | ok v =>
      obtain ⟨L', x'⟩ := v
      obtain ⟨A3, n3, k3, hans, hown, hl3, hok3⟩ := hans
      subst hans
      obtain ⟨hM, _, hop, hM'⟩ := hap
      obtain rfl : x' = x := by have := opL_next hop; rw [if_neg (by show ¬ (3 : Int) = 1; decide)] at this; exact this
      have hop2 : moveL L x' key par num = .ok (L', x') := by
        unfold opL at hop
        rw [if_neg (by show ¬ (3 : Int) = 1; decide), if_neg (by show ¬ (3 : Int) = 2; decide), if_pos rfl] at hop
        exact hop
      obtain ⟨u, m, g, v, q, T, RR, hMv⟩ := moved_of hok.out hM.1 hop2
      obtain ⟨_, hl300, _, hdp'⟩ := hM'.facts
      obtain ⟨_, _, _, hdp⟩ := hM.facts
      have hn3 : n3 = n := by rw [← hl3, hMv.len, hlen.out]
      subst hn3
      have hN3 : NodesAt w3 w3.heap.size A3 n3 L' := ⟨hok3, hl3, hown.reads, by omega⟩
      have hMv' := Lib.hid hMv
      have hS' := Lib.hid hM'.1
      have gb := hMv.gb
      have hu0 := hMv.cut.u0
      have hun := hMv.cut.un
      have hm0 := hMv.cut.m0
      rw [hlen.out] at hun gb
      have ha := World.grownBy_alloc w3 (.cells #[.slice A3 n3 k3, .int .i64 x'] 24) none
      have D1 := DB.new (k := k3) (x := x') hN3
      have hga := grown_trans hg ha
      have D0 : DB (w3.alloc (.cells #[.slice A3 n3 k3, .int .i64 x'] 24)) w.heap.size A n3 k L x' := ⟨bD'.out _ hga, hN.out _ hga⟩
      have hga' := Lib.hid hga
      have hfu := hMv.fu
      have hdpb := Lib.hid hdp
      have hdpb' := Lib.hid hdp'
      obtain ⟨pd, hpd⟩ : ∃ pd, pd = w3.heap.size := ⟨_, rfl⟩
      obtain ⟨p0, hp0⟩ : ∃ p0, p0 = w.heap.size := ⟨_, rfl⟩
      have hpge := Lib.hid (show p0 ≠ pd by have h1 := (D0.two).lt; have h2 := (bD'.out _ hg).lt; omega)
      go_upto_region 6 with fail
      generalize w3.alloc (.cells #[.slice A3 n3 k3, .int .i64 x'] 24) = W1 at *
      rw [← hpd] at D1 ⊢
      rw [← hp0] at D0 ⊢
      have CF0 := Lib.hid (fun W (hg : W1.grownBy W none) => show Calls Try.prog 12 #[.agg #[.slice A n3 k, .int .i64 x'], .int .i64 key] W fun e w' => e = .returned (.int .i64 (u : Int)) ∧ W.grownBy w' none from by
        have := dfind_any A n3 k L x' key W ((D0.grow hg).nodes)
        rw [hfu] at this
        exact this)
      have CF1 := Lib.hid (fun W (hg : W1.grownBy W none) => show Calls Try.prog 12 #[.agg #[.slice A3 n3 k3, .int .i64 x'], .int .i64 key] W fun e w' => e = .returned (.int .i64 (g : Int)) ∧ W.grownBy w' none from by
        have := dfind_any A3 n3 k3 L' x' key W ((D1.grow hg).nodes)
        rw [hMv'.out.find hS'.out] at this
        exact this)
      obtain ⟨e0, he0⟩ : ∃ e0, e0 = u + m := ⟨_, rfl⟩
      obtain ⟨e1, he1⟩ : ∃ e1, e1 = g + m := ⟨_, rfl⟩
      have CE0 := Lib.hid (fun W (hg : W1.grownBy W none) => show Calls Try.prog 18 #[.agg #[.slice A n3 k, .int .i64 x'], .int .i64 (u : Int)] W fun e w' => e = .returned (.int .i64 (e0 : Int)) ∧ W.grownBy w' none from by
        have := dend_in A n3 k x' u L W ((D0.grow hg).nodes) (by omega)
        rw [← hlen.out, hMv'.out.cut.end_, hlen.out, ← he0] at this
        exact this)
      have CE1 := Lib.hid (fun W (hg : W1.grownBy W none) => show Calls Try.prog 18 #[.agg #[.slice A3 n3 k3, .int .i64 x'], .int .i64 (g : Int)] W fun e w' => e = .returned (.int .i64 (e1 : Int)) ∧ W.grownBy w' none from by
        have := dend_in A3 n3 k3 x' g L' W ((D1.grow hg).nodes) (by omega)
        rw [← hl3, hMv'.out.end_, hl3, ← he1] at this
        exact this)
      have CU := Lib.hid (fun W (hg : W1.grownBy W none) => show Calls Try.prog 14 #[.agg #[.slice A3 n3 k3, .int .i64 x'], .int .i64 (g : Int)] W fun e w' => e = .returned (.int .i64 par) ∧ W.grownBy w' none from by
        have := up_any A3 n3 k3 x' g L' W ((D1.grow hg).nodes) (by omega)
        rw [hMv'.out.up] at this
        exact this)
      have CP := Lib.hid (fun W (hg : W1.grownBy W none) => show Calls Try.prog 16 #[.agg #[.slice A3 n3 k3, .int .i64 x'], .int .i64 (g : Int)] W fun e w' => e = .returned (.int .i64 (v : Int)) ∧ W.grownBy w' none from by
        have := dparent_in A3 n3 k3 x' g L' W ((D1.grow hg).nodes) (by omega)
        rw [hMv'.out.parent] at this
        exact this)
      have CK := Lib.hid (fun W (hg : W1.grownBy W none) => dkids_in A3 n3 k3 x' v L' W ((D1.grow hg).nodes) (by omega))
      have HB := Lib.hid (fun W (hg : W1.grownBy W none) => show (W.cell? ⟨p0, 0, none⟩ = some (.slice A n3 k) ∧ W.cell? ⟨p0, 1, none⟩ = some (.int .i64 x')) ∧ W.cell? ⟨pd, 0, none⟩ = some (.slice A3 n3 k3) ∧ W.cell? ⟨pd, 1, none⟩ = some (.int .i64 x') from ⟨(D0.grow hg).cells, (D1.grow hg).cells⟩)
      have hk1 := hMv.kid
      have hnum := hMv.gap.2.2.2.1
      have hw0 : IntKind.i64.wrap ((e0 : Int) - (u : Int)) = (m : Int) := by rw [IntKind.wrap_i64]; omega
      have hw1 : IntKind.i64.wrap ((e1 : Int) - (g : Int)) = (m : Int) := by rw [IntKind.wrap_i64]; omega
      have d0 : decide ((u : Int) < 1) = false := decide_eq_false (by omega)
      have d1 : decide ((g : Int) < 1) = false := decide_eq_false (by omega)
      have b1 : ((m : Int) != (m : Int)) = false := by simp
      have b2 : ((n3 : Int) != (n3 : Int)) = false := by simp
      have b3 : (par != par) = false := by simp
      have b4 : ((g : Int) != (g : Int)) = false := by simp
      have hnum' := Lib.hid hnum
      have hk1' := Lib.hid hk1
      have D0' := Lib.hid D0
      have D1' := Lib.hid D1
      have hl3' := Lib.hid hl3
      have hok3' := Lib.hid hok3
      clear hop hop2 hM hM' hMv hN3 ha D0 D1 hga hown hok3 hfu hdp hdp' hl300 he0 he1 hk1 hnum hpd hp0 hl3
      have hgd := grown_drew (World.grownBy.refl W1 none)
      obtain ⟨⟨c0, c1⟩, c2, c3⟩ := HB.out _ hgd
      go_wp2_with fail
      go_region_held3 (fun W => (W.cell? ⟨p0, 0, none⟩ = some (.slice A n3 k) ∧ W.cell? ⟨p0, 1, none⟩ = some (.int .i64 x')) ∧ W.cell? ⟨pd, 0, none⟩ = some (.slice A3 n3 k3) ∧ W.cell? ⟨pd, 1, none⟩ = some (.int .i64 x')) (first | exact ⟨⟨c0, c1⟩, c2, c3⟩ | go_keep) (first
        | (go_at_call 12; ((with_reducible refine (CF0.out _ hgd).mono ?_); rintro e vv ⟨rfl, hgk⟩); clear c0 c1 c2 c3; replace hgd := grown_trans hgd hgk; obtain ⟨⟨c0, c1⟩, c2, c3⟩ := HB.out _ hgd; clear hgk)
        | (go_at_call 12; ((with_reducible refine (CF1.out _ hgd).mono ?_); rintro e vv ⟨rfl, hgk⟩); clear c0 c1 c2 c3; replace hgd := grown_trans hgd hgk; obtain ⟨⟨c0, c1⟩, c2, c3⟩ := HB.out _ hgd; clear hgk))
      all_goals
        go_wp2_with fail
        refine (CE0.out _ hgd).mono ?_; rintro r y1 ⟨rfl, hgk⟩
        clear c0 c1 c2 c3
        replace hgd := grown_trans hgd hgk
        obtain ⟨⟨c0, c1⟩, c2, c3⟩ := HB.out _ hgd
        clear hgk
        go_wp2_with fail
        refine (CE1.out _ hgd).mono ?_; rintro r y2 ⟨rfl, hgk⟩
        clear c0 c1 c2 c3
        replace hgd := grown_trans hgd hgk
        obtain ⟨⟨c0, c1⟩, c2, c3⟩ := HB.out _ hgd
        clear hgk
        go_wp2_with fail
        refine (CU.out _ hgd).mono ?_; rintro r y3 ⟨rfl, hgk⟩
        clear c0 c1 c2 c3
        replace hgd := grown_trans hgd hgk
        obtain ⟨⟨c0, c1⟩, c2, c3⟩ := HB.out _ hgd
        clear hgk
        go_upto_region 12 with fail
        clear c0 c1 c2 c3
        replace hgd := grown_trans hgd (grown_drew (World.grownBy.refl _ none))
        obtain ⟨⟨c0, c1⟩, c2, c3⟩ := HB.out _ hgd
        go_region_held3 (fun W => W.cell? ⟨pd, 0, none⟩ = some (.slice A3 n3 k3) ∧ W.cell? ⟨pd, 1, none⟩ = some (.int .i64 x')) (first | exact ⟨c2, c3⟩ | go_keep) (first
          | (go_at_call 16; ((with_reducible refine (CP.out _ hgd).mono ?_); rintro e vv ⟨rfl, hgk⟩); clear c0 c1 c2 c3; replace hgd := grown_trans hgd hgk; obtain ⟨⟨c0, c1⟩, c2, c3⟩ := HB.out _ hgd; clear hgk)
          | (go_at_call 15; ((with_reducible refine (CK.out _ hgd).mono ?_); rintro e vv ⟨A5, k5, rfl, hownK, hgk⟩); clear c0 c1 c2 c3; replace hgd := grown_trans hgd hgk; obtain ⟨⟨c0, c1⟩, c2, c3⟩ := HB.out _ hgd; clear hgk))
        obtain rfl : num = (q : Int) := hnum'.out
        obtain ⟨K, hK⟩ : ∃ K, K = (kidsN (dp L') n3 v).length := ⟨_, rfl⟩
        have hqK : q < K := by
          have h1 := (List.getElem?_eq_some_iff.1 hk1'.out).1
          rw [hl3'.out] at h1
          omega
        have hK3 : K ≤ n3 := by
          rw [hK]
          unfold kidsN
          have h1 := List.length_filter_le (fun j => decide (dp L' j = dp L' v + 1)) (List.range' (v + 1) (endN (dp L') n3 v - (v + 1)))
          have h2 := endN_le (d := dp L') (n := n3) (i := v) (by omega)
          rw [List.length_range'] at h1
          omega
        obtain ⟨g5, hA5, _, _, _, hc5⟩ := hownK.cells_ (by rw [List.length_map]; omega)
        subst hA5
        have z5 := hc5 q (by rw [List.length_map]; omega)
        rw [List.getElem?_map] at z5
        have hk2 := hk1'.out
        rw [hl3'.out] at hk2
        rw [hk2] at z5
        replace z5 : _ = some (Value.int .i64 (g : Int)) := z5
        rw [← hK]
        have q0 : decide ((q : Int) < 0) = false := decide_eq_false (by omega)
        have q1 : decide ((K : Int) ≤ (q : Int)) = false := decide_eq_false (by omega)
        have j1 : (0 : Int) ≤ (q : Int) := by omega
        have j2 : (q : Int) < (K : Int) := by omega
        clear hownK hc5 hk2 hK
        go_upto_region 15 with fail
        clear z5 q0 q1 j1 j2
        have hg1n : g < n3 := by omega
        have hu1n : u < n3 := by omega
        have NA := (D0'.out.grow hgd).nodes
        have NB := (D1'.out.grow hgd).nodes
        obtain ⟨ad0, hA0, _⟩ := NA.some_ hu1n
        obtain ⟨ad1, hA1, _⟩ := NB.some_ hg1n
        subst hA0
        subst hA1
        have y0 := NA.dep_ hu1n
        have y1 := NB.dep_ hg1n
        have bb0 := hdpb.out u (by rw [hlen.out]; exact hu1n)
        have bb1 := hdpb'.out g (by rw [hl3'.out]; exact hg1n)
        obtain ⟨du, hdu⟩ : ∃ du, du = dp L u := ⟨_, rfl⟩
        obtain ⟨dg, hdg⟩ : ∃ dg, dg = dp L' g := ⟨_, rfl⟩
        rw [← hdu] at y0 bb0
        rw [← hdg] at y1 bb1
        obtain ⟨δ, hδ⟩ : ∃ δ, δ = dg - du := ⟨_, rfl⟩
        have hws : IntKind.i64.wrap (dg - du) = δ := by rw [IntKind.wrap_i64]; omega
        have hδb : -15 ≤ δ ∧ δ ≤ 15 := by omega
        have hmid := Lib.hid (fun i (hi : i < m) => show nd L' (g + i) = deepen δ (nd L (u + i)) from by
          rw [hMv'.out.nd_mid hi, hδ, hdg, hdu, hMv'.out.dp_g])
        have i1 : (0 : Int) ≤ (u : Int) := by omega
        have i2 : (u : Int) < (n3 : Int) := by omega
        have i3 : (0 : Int) ≤ (g : Int) := by omega
        have i4 : (g : Int) < (n3 : Int) := by omega
        clear NA NB hdu hdg hδ
        go_quiet (fail)
        clear c0 c1 c2 c3 y0 y1
        replace hgd := grown_drewN hgd nq
        obtain ⟨⟨c0, c1⟩, c2, c3⟩ := HB.out _ hgd
        go_wp2_with fail
        clear hws
        generalize hVV : World.drewN _ nq = V at *
        clear hVV
        have hgd' := Lib.hid hgd
        clear c0 c1 c2 c3 hgd
        go_loopw [16, 17] (fun i _ wr => ∃ j : Nat, j ≤ m ∧ i = .int .i64 (j : Int) ∧ V.grownBy wr none) (fun i _ _ => m - (intOf i).toNat)
        case atStart => exact ⟨0, by omega, rfl, World.grownBy.refl _ _⟩
        case round =>
          obtain ⟨j, hj, rfl, hgr⟩ := hrel
          obtain ⟨wo, rfl⟩ : ∃ wo : World, wo = wr := ⟨_, rfl⟩
          have hgo := grown_trans hgd'.out hgr
          obtain ⟨⟨c0, c1⟩, c2, c3⟩ := HB.out _ hgo
          by_cases hlt : j < m
          · have NA := (D0'.out.grow hgo).nodes
            have hld := Lib.hid (NA.load (show u + j < n3 by omega))
            have hoku := Lib.hid (NA.nd_ok (show u + j < n3 by omega))
            have hsz := Lib.hid (show (nd L (u + j)).toArray.size = 51 by rw [List.size_toArray]; exact hoku.out.len)
            have hone := Lib.hid (okAll_one hoku.out)
            have w1 : IntKind.i64.wrap ((u : Int) + (j : Int)) = (u : Int) + (j : Int) := by rw [IntKind.wrap_i64]; omega
            have w2 : ((u : Int) + (j : Int)).toNat = u + j := by omega
            have i5 : (0 : Int) ≤ (u : Int) + (j : Int) := by omega
            have i6 : (u : Int) + (j : Int) < (n3 : Int) := by omega
            have hpw := D0'.out.two.lt
            have hpw1 := D1'.out.two.lt
            have hszo := hgo.size
            clear NA
            go_upto_region 20 with (first
              | (refine wpList_value_w rfl (exec_load rfl rfl hld.out) ?_; simp only [Act.put, List.setIfInBounds_toArray, List.set_cons_zero, List.set_cons_succ])
              | (refine wpList_fresh bigN rfl rfl rfl rfl _ _ rfl (nd L (u + j)).toArray hsz.out (by have := hone.out; simpa using this) rfl rfl ?_; intro W2 hg2 hr2; simp only [Act.put, List.setIfInBounds_toArray, List.set_cons_zero, List.set_cons_succ]))
            clear c0 c1 c2 c3 w1 w2 i5 i6
            obtain ⟨_, z1, _, _⟩ := row_node hr2 hoku.out
            have zf := hr2.free 1
            obtain ⟨dj, hdj⟩ : ∃ dj, dj = depN (nd L (u + j)) := ⟨_, rfl⟩
            have bj : 0 ≤ dj ∧ dj ≤ 15 := by rw [hdj]; exact hdpb.out (u + j) (by rw [hlen.out]; omega)
            rw [← hdj] at z1
            have w3 : IntKind.i64.wrap (dj + δ) = dj + δ := by rw [IntKind.wrap_i64]; omega
            have hrowd : Row (W2.setCell ⟨wo.heap.size, 1, none⟩ (.int .i64 (dj + δ))) wo.heap.size 32 (deepen δ (nd L (u + j))).toArray := by
              have h1 := hr2.set 1 (.int .i64 (dj + δ))
              rw [List.setIfInBounds_toArray, hdj] at h1
              rw [hdj]
              exact h1
            have hgx := grown_new (grown_trans hgo hg2) (grownBy_setCell W2 wo.heap.size 1 (.int .i64 (dj + δ))) (fun g e => by cases e; exact hszo)
            have hgv := grown_new (grown_trans hgr hg2) (grownBy_setCell W2 wo.heap.size 1 (.int .i64 (dj + δ))) (fun g e => by cases e; exact hgr.size)
            have hrowd' := Lib.hid hrowd
            clear hrowd hr2 hg2 hdj
            go_upto_region 21 with fail
            clear z1 zf w3
            generalize W2.setCell ⟨wo.heap.size, 1, none⟩ (.int .i64 (dj + δ)) = W3 at *
            obtain ⟨⟨c0, c1⟩, c2, c3⟩ := HB.out _ hgx
            have NB := Lib.hid (fun q => ((D1'.out.grow (grown_drewN hgx q)).nodes).load (show g + j < n3 by omega))
            have hokg := Lib.hid (((D1'.out.grow hgx).nodes).nd_ok (show g + j < n3 by omega))
            have heq := hmid.out j hlt
            have w1 : IntKind.i64.wrap ((g : Int) + (j : Int)) = (g : Int) + (j : Int) := by rw [IntKind.wrap_i64]; omega
            have w2 : ((g : Int) + (j : Int)).toNat = g + j := by omega
            have i5 : (0 : Int) ≤ (g : Int) + (j : Int) := by omega
            have i6 : (g : Int) + (j : Int) < (n3 : Int) := by omega
            have heq' := Lib.hid heq
            clear heq
            refine wp_region_quiet_lit (by kernel_rfl) (by kernel_rfl) ?_
            repeat (first | go_big_quiet_step (fail) | quiet_step (fail))
            have hokd := Lib.hid (show OkAll nodeLs (deepen δ (nd L (u + j))) from heq'.out ▸ hokg.out)
            refine quiet_loadNode (by rfl) _ rfl (ad1.add ((g + j) * 51)) rfl (nd L' (g + j)) (fun V hV => by obtain ⟨n, rfl⟩ := hV; exact NB.out n) ?_
            simp only [Act.put, List.setIfInBounds_toArray, List.set_cons_zero, List.set_cons_succ]
            refine quiet_loadNode (by rfl) _ rfl ⟨wo.heap.size, 0, none⟩ rfl (deepen δ (nd L (u + j))) (fun V hV => by obtain ⟨n, rfl⟩ := hV; exact run_load_row bigN _ (hrowd'.out.kept0 (grown_drewN (World.grownBy.refl W3 none) n)) (by rw [List.size_toArray]; exact hokd.out.len)) ?_
            simp only [Act.put, List.setIfInBounds_toArray, List.set_cons_zero, List.set_cons_succ]
            refine quiet_neqNode (by rfl) _ _ _ rfl (nd L' (g + j)) (deepen δ (nd L (u + j))) rfl rfl hokg.out hokd.out true (by rw [heq'.out]; exact eqV_self hokd.out) ?_
            simp only [Act.put, List.setIfInBounds_toArray, List.set_cons_zero, List.set_cons_succ]
            refine wpQuiet_nil ?_
            intro w9 hw9
            obtain ⟨nq2, rfl⟩ := hw9
            simp only [Bool.not_true]
            go_wp2_with fail
            exact ⟨⟨j + 1, by omega, by go_num, grown_drewN hgv nq2⟩, by simp [intOf]; omega⟩
          · go_wp2_with fail
            go_ret
            exact ⟨rfl, grown_below (grown_trans hg0'.out (grown_trans hga'.out hgo))⟩
end Go.Proofs.Ytjnbfgogmhfbiaa
/- MutateFull: the walk. -/
namespace Go.Proofs.Ytjnbfgogmhfbiaa
open Go Go.RowKit
/-- A text's node. -/
def txtN (s : ByteArray) : List Value := (zeroNode.set 2 (.int .u8 1)).set 50 (.string s)
theorem txtN_ok {s : ByteArray} (h : s.size ≤ maxLen) : OkAll nodeLs (txtN s) := okAll_set nodeLs _ 50 .str _ (okB_ok _ _ (by decide +kernel)) rfl ⟨s, rfl, h⟩
theorem txtN_kind (s : ByteArray) : kindN (txtN s) = 1 := rfl
theorem txtN_len (s : ByteArray) : lenN (txtN s) = s.size := rfl
theorem txtN_text (s : ByteArray) : (txtN s)[50]? = some (.string s) := rfl
/-- What the change is: a text below a node. -/
theorem full_op {L : List (List Value)} {x key : Int} (s : ByteArray) (hM : MayL L x) :
    (findI L key < 0 → opL L x ⟨1, 0, key, 0, txtN s⟩ = .error 70) ∧
    (∀ u : Nat, findI L key = u → u < L.length → kindN (nd L u) = 1 → opL L x ⟨1, 0, key, 0, txtN s⟩ = .error 70) ∧
    (∀ u : Nat, findI L key = u → u < L.length → kindN (nd L u) = 0 → opL L x ⟨1, 0, key, 0, txtN s⟩ = .ok (putAt L (u + 1) [textOf x (dp L u + 1) (txtN s)], x + 1)) := by
  have hop : opL L x ⟨1, 0, key, 0, txtN s⟩ = insertL L x key 0 (txtN s) := rfl
  rw [hop]
  refine ⟨fun h => ?_, fun u h hu hk => ?_, fun u h hu hk => ?_⟩
  · have hg : gapE L key 0 = .error 70 := by
      unfold gapE
      rw [if_neg (by omega)]
    unfold insertL
    rw [hg]
  · have hg : gapE L key 0 = .error 70 := gapE_no (fun ⟨u', k', h1, h2, h3, _⟩ => by
      have : u = u' := by omega
      rw [← this, hk] at h3
      omega)
    unfold insertL
    rw [hg]
  · have hy : GapYes L key 0 u 0 := ⟨h, hu, hk, rfl, Nat.zero_le _⟩
    unfold insertL
    rw [gapE_yes hy, gap_first hM.1 hu]
    dsimp only
    rw [if_neg (by rw [txtN_kind]; decide), if_pos (txtN_kind s)]
theorem full_ok {key : Int} {s : ByteArray} (h : (Lit.int .i64 key).wf = true) (hs : s.size ≤ maxLen) : (⟨1, 0, key, 0, txtN s⟩ : Chg).ok := ⟨by show (0 : Int) ≤ 1 ∧ (1 : Int) ≤ 255; omega, by show (-9223372036854775808 : Int) ≤ 0 ∧ (0 : Int) ≤ 9223372036854775807; omega, wfI h, by show (-9223372036854775808 : Int) ≤ 0 ∧ (0 : Int) ≤ 9223372036854775807; omega, txtN_ok hs⟩
theorem NodesAt.disp_ {w : World} {B n i : Nat} {ad : Addr} {L : List (List Value)} (h : NodesAt w B (some ad) n L) (hi : i < n) : w.cell? ⟨(ad.add (i * 51)).block, (ad.add (i * 51)).off + 3, none⟩ = some (.int .u8 (disp (nd L i))) := by
  obtain ⟨ad', y, hA, _, hy, hok, hc⟩ := nodes_cell h.ok h.reads (i := i) (by rw [h.len]; exact hi)
  cases hA
  have := hc 3 (by omega)
  rw [add_pos _ _ (by omega)] at this
  rw [this, nd_some hy]
  exact (n_disp hok).1
theorem total_all {L : List (List Value)} {n : Nat} (h : L.length = n) : total (L.take n) = total L := by rw [List.take_of_length_le (by omega)]
set_option maxRecDepth 100000 in
set_option maxHeartbeats 8000000 in
theorem MutateFull_walk (w : World) (A : Option Addr) (n k : Nat) (L : List (List Value)) (x : Int) (_wx : (Lit.int .i64 x).wf = true) (R : IsNodes w A n k L) (key : Int) (wk : (Lit.int .i64 key).wf = true) (s : ByteArray) (ws : s.size ≤ maxLen) :
    Calls Try.prog 7 #[.agg #[.slice A n k, .int .i64 x], .int .i64 key, .string s] w fun e w' => e = .returned (.bool true) ∧ Below w.heap.size w w' := by
  have hnc := R.len_
  have hg0 := World.grownBy_alloc w (.cells #[.slice A n k, .int .i64 x] 24) none
  have bD := Two.new w 24 (.slice A n k) (.int .i64 x)
  have CA := Lib.hid (awake_any (w.alloc (.cells #[.slice A n k, .int .i64 x] 24)))
  have hok := Lib.hid (fun y hy => (R.2.2.2.1 y hy).2)
  have hlen := Lib.hid R.1
  have hrd := Lib.hid (fun W (hg : w.grownBy W none) => (R.2.2.2.2.grown0 hg).more hg.size)
  have CG := Lib.hid (fun W (hg : w.grownBy W none) => great7_any A n k L x noChg W hok.out hlen.out (hrd.out W hg) (by omega) noChg_ok)
  have hc' := Lib.hid (full_ok wk ws)
  have bD' := Lib.hid (fun W (hg : (w.alloc (.cells #[.slice A n k, .int .i64 x] 24)).grownBy W none) => bD.kept hg (by simp))
  have hg0' := Lib.hid hg0
  have hsz : s.size ≤ 9223372036854775807 := by unfold maxLen at ws; exact ws
  clear R bD hg0 wk ws
  go_enter Try.func7, Try.ntmps7
  go_wp2_with fail
  generalize w.alloc (.cells #[.slice A n k, .int .i64 x] 24) = W0 at *
  refine CA.out.mono ?_; rintro r w1 ⟨rfl, hg⟩
  have c0 := (bD'.out _ hg).c0
  have c1 := (bD'.out _ hg).c1
  go_wp2_with (refine wpList_build (o := ⟨some 17, _, _, _, _, _⟩) rfl (T := 34) rfl noChg.cells (by kernel_rfl) ?_; simp only [Act.put, List.setIfInBounds_toArray, List.set_cons_zero, List.set_cons_succ])
  refine (CG.out _ (grown_trans hg0'.out hg)).mono ?_; rintro r w2 ⟨b, rfl, hb, hg2⟩
  replace hg := grown_trans hg hg2
  clear c0 c1 hg2 CA CG
  have c0 := (bD'.out _ hg).c0
  have c1 := (bD'.out _ hg).c1
  cases b with
  | true =>
    clear hb
    go_wp2_with fail
    go_ret
    exact ⟨rfl, grown_below (grown_trans hg0'.out hg)⟩
  | false =>
    obtain ⟨⟨hn, ht⟩, _⟩ := hb rfl
    have hN := Lib.hid (fun W (hg : W0.grownBy W none) => show NodesAt W W.heap.size A n L from ⟨hok.out, hlen.out, hrd.out W (grown_trans hg0'.out hg), by omega⟩)
    have hsm := Lib.hid (fun i (hi : i < n) => show lenN (nd L i) ≤ 5000 from Nat.le_trans (total_mem _ (List.mem_of_getElem? (nd_get (by rw [hlen.out]; exact hi)))) ht)
    have CM := Lib.hid (may7_any A n k x L w2 (hN.out _ hg) hsm.out)
    clear hb
    go_wp2_with fail
    refine CM.out.mono ?_; rintro r w3 ⟨⟨b, rfl, hbM⟩, hg3⟩
    replace hg := grown_trans hg hg3
    clear c0 c1 CM hg3
    have c0 := (bD'.out _ hg).c0
    have c1 := (bD'.out _ hg).c1
    cases b with
    | false =>
      clear hbM
      go_wp2_with fail
      go_ret
      exact ⟨rfl, grown_below (grown_trans hg0'.out hg)⟩
    | true =>
      have hM := Lib.hid (hbM.1 rfl)
      by_cases hs5 : (5000 : Int) < (s.size : Int)
      · have d0 : decide ((5000 : Int) < (s.size : Int)) = true := decide_eq_true hs5
        clear hs5 hbM
        go_wp2_with fail
        go_ret
        exact ⟨rfl, grown_below (grown_trans hg0'.out hg)⟩
      · have d0 : decide ((5000 : Int) < (s.size : Int)) = false := decide_eq_false hs5
        have hs5' : s.size ≤ 5000 := by omega
        have CF := Lib.hid (dfind_any A n k L x key w3 (hN.out _ hg))
        obtain ⟨f, hf⟩ : ∃ f, f = findI L key := ⟨_, rfl⟩
        rw [← hf] at CF
        have hf' := Lib.hid hf
        clear hs5 hbM hf
        go_wp2_with fail
        refine CF.out.mono ?_; rintro r w4 ⟨rfl, hg4⟩
        replace hg := grown_trans hg hg4
        clear c0 c1 CF hg4 d0
        have c0 := (bD'.out _ hg).c0
        have c1 := (bD'.out _ hg).c1
        go_upto_region 7 with (first
          | (refine wpList_build (o := ⟨some 34, _, _, _, _, _⟩) rfl (T := 32) rfl (txtN s).toArray (by kernel_rfl) ?_; simp only [Act.put, List.setIfInBounds_toArray, List.set_cons_zero, List.set_cons_succ])
          | (refine wpList_build (o := ⟨some 35, _, _, _, _, _⟩) rfl (T := 34) rfl (⟨1, 0, key, 0, txtN s⟩ : Chg).cells (by kernel_rfl) ?_; simp only [Act.put, List.setIfInBounds_toArray, List.set_cons_zero, List.set_cons_succ])
          | (refine wpList_fresh bigC rfl rfl rfl rfl _ _ rfl (⟨1, 0, key, 0, txtN s⟩ : Chg).cells (Chg.size hc'.out) (Chg.one hc'.out) rfl rfl ?_; intro W2 hgw hrC; simp only [Act.put, List.setIfInBounds_toArray, List.set_cons_zero, List.set_cons_succ]))
        replace hg := grown_trans hg hgw
        clear c0 c1 hgw
        have c0 := (bD'.out _ hg).c0
        have c1 := (bD'.out _ hg).c1
        have hcz := Lib.hid (Chg.size hc'.out)
        have hyl : lenN (txtN s) ≤ 5000 := by rw [txtN_len]; exact hs5'
        have hkd : (1 : Int) ≤ (⟨1, 0, key, 0, txtN s⟩ : Chg).kd ∧ (⟨1, 0, key, 0, txtN s⟩ : Chg).kd ≤ 5 := by show (1 : Int) ≤ 1 ∧ (1 : Int) ≤ 5; omega
        obtain ⟨o1, o2, o3⟩ := full_op (key := key) s hM.out
        rw [← hf'.out] at o1 o2 o3
        obtain ⟨_, hn300, hx, hdp⟩ := hM.out.facts
        rw [hlen.out] at hn300
        have hNW := hN.out _ hg
        rcases (by omega : f < 0 ∨ 0 ≤ f) with hf0 | hf0
        · have CE := Lib.hid (apply_err (k := k) hNW hsm.out hc'.out hyl (.inr (.inr (.inl ⟨hM.out, hkd, o1 hf0⟩))))
          have d0 : decide (f < 0) = true := decide_eq_true hf0
          clear o1 o2 o3 hf0 hx hdp hNW hkd
          go_wp2_with (refine wpList_row bigC hrC hcz.out (x := .tmp 8) rfl (by kernel_rfl) (by kernel_rfl) ?_; simp only [Act.put, List.setIfInBounds_toArray, List.set_cons_zero, List.set_cons_succ])
          refine CE.out.mono ?_; rintro r w5 ⟨rfl, hg5⟩
          have ha := grown_trans hg (grown_trans hg5 (World.grownBy_alloc w5 (.cells #[.slice none 0 0, .int .i64 0] 24) none))
          clear CE c0 c1
          go_wp2_with fail
          go_ret
          exact ⟨rfl, grown_below (grown_trans hg0'.out ha)⟩
        · obtain ⟨u, hu, hul, _⟩ := findI_spec (L := L) (key := key) (by rw [← hf'.out]; exact hf0)
          rw [← hf'.out] at hu
          subst hu
          have hun : u < n := by rw [← hlen.out]; exact hul
          have d0 : decide ((u : Int) < 0) = false := decide_eq_false (by omega)
          have i1 : (0 : Int) ≤ (u : Int) := by omega
          have i2 : (u : Int) < (n : Int) := by omega
          rcases (hM.out.1.2.2.2.1 u hul).1.2.2.2.2 with ⟨hk0, _⟩ | ⟨hk1, _⟩
          · obtain ⟨out, hout⟩ : ∃ out, out = putAt L (u + 1) [textOf x (dp L u + 1) (txtN s)] := ⟨_, rfl⟩
            have hiff := full_iff hM.out hul hk0 (txtN_ok (s := s) (by unfold maxLen; omega))
            have hop := o3 u rfl hul hk0
            rw [← hout] at hiff hop
            have hspec := Lib.hid (show (disp (nd L u) ≠ 2 ∧ s.size ≤ 200 ∧ s.size + total L ≤ 1500 ∧ dp L u < 15 ∧ n < 300 ∧ x ≤ 1073741824) ↔ MayL out (x + 1) by rw [← hlen.out]; exact hiff.symm)
            have hkd' := Lib.hid hkd
            have hop' := Lib.hid hop
            have hNW' := Lib.hid hNW
            have hk0' := Lib.hid hk0
            have hout' := Lib.hid hout
            have hyl' := Lib.hid hyl
            have hdpu := hdp u hul
            have hul' := Lib.hid hul
            clear o1 o2 o3 hf0 hdp hNW hkd hk0 hiff hop hout hyl hul
            by_cases hfine : disp (nd L u) ≠ 2 ∧ s.size ≤ 200 ∧ s.size + total L ≤ 1500 ∧ dp L u < 15 ∧ n < 300 ∧ x ≤ 1073741824
            · have hM2 := hspec.out.1 hfine
              have hol : out.length = n + 1 := by rw [hout'.out, put_len (by have := hul'.out; omega), hlen.out]; rfl
              have CE := Lib.hid (apply_ok (k := k) hNW'.out hsm.out hc'.out hyl'.out (show Applies L x _ (.ok (out, x + 1)) from ⟨hM.out, hkd'.out, hop'.out, hM2⟩) (by omega))
              rw [hol] at CE
              have htx := Lib.hid (show (nd out (u + 1))[50]? = some (.string s) by
                have h1 : nd out (u + 1) = textOf x (dp L u + 1) (txtN s) := by
                  rw [hout'.out]
                  exact nd_put_mid (T := [textOf x (dp L u + 1) (txtN s)]) (by have := hul'.out; omega) (i := 0) (by simp)
                rw [h1]
                rfl)
              clear hM2 hol
              go_wp2_with (refine wpList_row bigC hrC hcz.out (x := .tmp 8) rfl (by kernel_rfl) (by kernel_rfl) ?_; simp only [Act.put, List.setIfInBounds_toArray, List.set_cons_zero, List.set_cons_succ])
              refine CE.out.mono ?_; rintro r w5 ⟨A5, k5, rfl, N5, hg5⟩
              have bO := Two.new w5 24 (.slice A5 (n + 1) k5) (.int .i64 (x + 1))
              have ha0 := World.grownBy_alloc w5 (.cells #[.slice A5 (n + 1) k5, .int .i64 (x + 1)] 24) none
              have hN5 := Lib.hid (N5.grow ha0)
              have ha := grown_trans hg (grown_trans hg5 ha0)
              clear CE c0 c1 hrC
              have z0 := bO.c0
              have z1 := bO.c1
              have c0 := (bD'.out _ ha).c0
              have c1 := (bD'.out _ ha).c1
              have NA := hN.out _ ha
              obtain ⟨ad, rfl, _⟩ := NA.some_ hun
              have zk := NA.kind_ hun
              rw [hk0'.out] at zk
              have zd := NA.dep_ hun
              have zs := NA.disp_ hun
              have hbs := (n_disp (nd_ok_ hok.out hul'.out)).2
              have NT := Lib.hid (fun j (hj : j < n) => NA.text_ hj)
              clear NA
              go_upto_region 10 with fail
              generalize w5.alloc (.cells #[.slice A5 (n + 1) k5, .int .i64 (x + 1)] 24) = W5 at *
              have htot : total L ≤ 5000 := ht
              have htk := Lib.hid (fun j (hj : j < n) => total_take L j (by rw [hlen.out]; exact hj))
              have hta := Lib.hid (total_all hlen.out)
              go_upto_region 11 with fail
              clear zk
              go_wp2_with fail
              go_loop [11, 12] (fun a i => ∃ (j t : Nat), j ≤ n ∧ i = .int .i64 (j : Int) ∧ a = .int .i64 ((s.size : Int) + (t : Int)) ∧ Hid (t = total (L.take j)) ∧ t ≤ 5000 * j) (fun _ i => n - (intOf i).toNat)
              case atStart => exact ⟨0, 0, by omega, rfl, by simp, Lib.hid (by simp [total]), by omega⟩
              case round =>
                obtain ⟨j, t, hj, rfl, rfl, htj, ht5⟩ := hrel
                by_cases hlt : j < n
                · obtain ⟨sj, zt, hzl, _⟩ := NT.out j hlt
                  have hst := htk.out j hlt
                  have hle2 := hsm.out j hlt
                  have hzl' := Lib.hid hzl
                  have hst' := Lib.hid hst
                  have hsj : sj.size ≤ 5000 := by omega
                  have hwr : IntKind.i64.wrap ((s.size : Int) + (t : Int) + (sj.size : Int)) = (s.size : Int) + (t : Int) + (sj.size : Int) := by rw [IntKind.wrap_i64]; omega
                  have j1 : (0 : Int) ≤ (j : Int) := by omega
                  have j2 : (j : Int) < (n : Int) := by omega
                  clear hzl hst hle2
                  go_wp2_with fail
                  exact ⟨⟨j + 1, t + sj.size, by omega, by go_num, by rw [Int.natCast_add, Int.add_assoc], Lib.hid (by rw [hst'.out, ← htj.out, hzl'.out]), by omega⟩, by simp [intOf]; omega⟩
                · obtain rfl : j = n := by omega
                  have htt : t = total L := by rw [htj.out, hta.out]
                  have htt' := Lib.hid htt
                  obtain ⟨du, hdu⟩ : ∃ du, du = dp L u := ⟨_, rfl⟩
                  obtain ⟨ds, hds⟩ : ∃ ds, ds = disp (nd L u) := ⟨_, rfl⟩
                  obtain ⟨q1, q2, q3, q4, q5, q6⟩ := hfine
                  rw [← hdu] at zd q4
                  rw [← hds] at zs q1
                  have b1 : (ds != 2) = true := by simpa using q1
                  have b2 : decide ((s.size : Int) ≤ 200) = true := decide_eq_true (by omega)
                  have b3 : decide ((s.size : Int) + (t : Int) ≤ 1500) = true := decide_eq_true (by omega)
                  have b4 : decide (du < 15) = true := decide_eq_true q4
                  have b5 : decide ((j : Int) < 300) = true := decide_eq_true (by omega)
                  have b6 : decide (x ≤ 1073741824) = true := decide_eq_true q6
                  have N5 := hN5.out
                  obtain ⟨ad5, hA5, _⟩ := N5.some_ (i := u + 1) (by omega)
                  subst hA5
                  obtain ⟨s5, zt5, _⟩ := N5.text_ (i := u + 1) (by omega)
                  have hs5e : s5 = s := by
                    obtain ⟨ad', y, hA, _, hy, hok5, hc5⟩ := nodes_cell N5.ok N5.reads (i := u + 1) (by rw [N5.len]; omega)
                    cases hA
                    have h50 := hc5 50 (by omega)
                    rw [add_pos _ _ (by omega), zt5, ← nd_some hy, htx.out] at h50
                    cases h50
                    rfl
                  rw [hs5e] at zt5
                  have wn : IntKind.i64.wrap ((j : Int) + 1) = (j : Int) + 1 := by rw [IntKind.wrap_i64]; omega
                  have wu : IntKind.i64.wrap ((u : Int) + 1) = (u : Int) + 1 := by rw [IntKind.wrap_i64]; omega
                  have wt : ((u : Int) + 1).toNat = u + 1 := by omega
                  have bn : ((j : Int) + 1 == (j : Int) + 1) = true := by simp
                  have k1 : (0 : Int) ≤ (u : Int) + 1 := by omega
                  have k2 : (u : Int) + 1 < (j : Int) + 1 := by omega
                  clear q1 q2 q3 q4 q5 q6 hdu hds htt N5 hs5e
                  go_wp2_with fail
                  go_ret
                  exact ⟨rfl, grown_below (grown_trans hg0'.out ha)⟩
            · have CE := Lib.hid (apply_err (k := k) hNW'.out hsm.out hc'.out hyl'.out (show Applies L x _ (.error 4) from .inr (.inr (.inr ⟨hM.out, hkd'.out, ⟨out, x + 1, hop'.out, fun h => hfine (hspec.out.2 h)⟩, rfl⟩))))
              have hfine' := Lib.hid hfine
              clear hfine
              go_wp2_with (refine wpList_row bigC hrC hcz.out (x := .tmp 8) rfl (by kernel_rfl) (by kernel_rfl) ?_; simp only [Act.put, List.setIfInBounds_toArray, List.set_cons_zero, List.set_cons_succ])
              refine CE.out.mono ?_; rintro r w5 ⟨rfl, hg5⟩
              have bO := Two.new w5 24 (.slice none 0 0) (.int .i64 0)
              have ha0 := World.grownBy_alloc w5 (.cells #[.slice none 0 0, .int .i64 0] 24) none
              have ha := grown_trans hg (grown_trans hg5 ha0)
              clear CE c0 c1 hrC
              have z0 := bO.c0
              have z1 := bO.c1
              have c0 := (bD'.out _ ha).c0
              have c1 := (bD'.out _ ha).c1
              have NA := hN.out _ ha
              obtain ⟨ad, rfl, _⟩ := NA.some_ hun
              have zk := NA.kind_ hun
              rw [hk0'.out] at zk
              have zd := NA.dep_ hun
              have zs := NA.disp_ hun
              have hbs := (n_disp (nd_ok_ hok.out hul'.out)).2
              have NT := Lib.hid (fun j (hj : j < n) => NA.text_ hj)
              clear NA
              go_upto_region 10 with fail
              generalize w5.alloc (.cells #[.slice none 0 0, .int .i64 0] 24) = W5 at *
              have htot : total L ≤ 5000 := ht
              have htk := Lib.hid (fun j (hj : j < n) => total_take L j (by rw [hlen.out]; exact hj))
              have hta := Lib.hid (total_all hlen.out)
              go_upto_region 11 with fail
              clear zk
              go_wp2_with fail
              go_loop [11, 12] (fun a i => ∃ (j t : Nat), j ≤ n ∧ i = .int .i64 (j : Int) ∧ a = .int .i64 ((s.size : Int) + (t : Int)) ∧ Hid (t = total (L.take j)) ∧ t ≤ 5000 * j) (fun _ i => n - (intOf i).toNat)
              case atStart => exact ⟨0, 0, by omega, rfl, by simp, Lib.hid (by simp [total]), by omega⟩
              case round =>
                obtain ⟨j, t, hj, rfl, rfl, htj, ht5⟩ := hrel
                by_cases hlt : j < n
                · obtain ⟨sj, zt, hzl, _⟩ := NT.out j hlt
                  have hst := htk.out j hlt
                  have hle2 := hsm.out j hlt
                  have hzl' := Lib.hid hzl
                  have hst' := Lib.hid hst
                  have hsj : sj.size ≤ 5000 := by omega
                  have hwr : IntKind.i64.wrap ((s.size : Int) + (t : Int) + (sj.size : Int)) = (s.size : Int) + (t : Int) + (sj.size : Int) := by rw [IntKind.wrap_i64]; omega
                  have j1 : (0 : Int) ≤ (j : Int) := by omega
                  have j2 : (j : Int) < (n : Int) := by omega
                  clear hzl hst hle2
                  go_wp2_with fail
                  exact ⟨⟨j + 1, t + sj.size, by omega, by go_num, by rw [Int.natCast_add, Int.add_assoc], Lib.hid (by rw [hst'.out, ← htj.out, hzl'.out]), by omega⟩, by simp [intOf]; omega⟩
                · obtain rfl : j = n := by omega
                  have htt : t = total L := by rw [htj.out, hta.out]
                  have htt' := Lib.hid htt
                  obtain ⟨du, hdu⟩ : ∃ du, du = dp L u := ⟨_, rfl⟩
                  obtain ⟨ds, hds⟩ : ∃ ds, ds = disp (nd L u) := ⟨_, rfl⟩
                  rw [← hdu] at zd
                  rw [← hds] at zs
                  have hnf := hfine'.out
                  rw [← hdu, ← hds, ← htt] at hnf
                  have hnf' := Lib.hid hnf
                  clear hnf hdu hds htt
                  by_cases q1 : ds ≠ 2
                  case' neg =>
                    have b1 : (ds != 2) = false := by simpa using q1
                    clear q1
                    go_wp2_with fail
                    go_ret
                    exact ⟨rfl, grown_below (grown_trans hg0'.out ha)⟩
                  by_cases q2 : s.size ≤ 200
                  case' neg =>
                    have b1 : (ds != 2) = true := by simpa using q1
                    have b2 : decide ((s.size : Int) ≤ 200) = false := decide_eq_false (by omega)
                    clear q1 q2
                    go_wp2_with fail
                    go_ret
                    exact ⟨rfl, grown_below (grown_trans hg0'.out ha)⟩
                  by_cases q3 : s.size + t ≤ 1500
                  case' neg =>
                    have b1 : (ds != 2) = true := by simpa using q1
                    have b2 : decide ((s.size : Int) ≤ 200) = true := decide_eq_true (by omega)
                    have b3 : decide ((s.size : Int) + (t : Int) ≤ 1500) = false := decide_eq_false (by omega)
                    clear q1 q2 q3
                    go_wp2_with fail
                    go_ret
                    exact ⟨rfl, grown_below (grown_trans hg0'.out ha)⟩
                  by_cases q4 : du < 15
                  case' neg =>
                    have b1 : (ds != 2) = true := by simpa using q1
                    have b2 : decide ((s.size : Int) ≤ 200) = true := decide_eq_true (by omega)
                    have b3 : decide ((s.size : Int) + (t : Int) ≤ 1500) = true := decide_eq_true (by omega)
                    have b4 : decide (du < 15) = false := decide_eq_false q4
                    clear q1 q2 q3 q4
                    go_wp2_with fail
                    go_ret
                    exact ⟨rfl, grown_below (grown_trans hg0'.out ha)⟩
                  by_cases q5 : j < 300
                  case' neg =>
                    have b1 : (ds != 2) = true := by simpa using q1
                    have b2 : decide ((s.size : Int) ≤ 200) = true := decide_eq_true (by omega)
                    have b3 : decide ((s.size : Int) + (t : Int) ≤ 1500) = true := decide_eq_true (by omega)
                    have b4 : decide (du < 15) = true := decide_eq_true q4
                    have b5 : decide ((j : Int) < 300) = false := decide_eq_false (by omega)
                    clear q1 q2 q3 q4 q5
                    go_wp2_with fail
                    go_ret
                    exact ⟨rfl, grown_below (grown_trans hg0'.out ha)⟩
                  by_cases q6 : x ≤ 1073741824
                  case' neg =>
                    have b1 : (ds != 2) = true := by simpa using q1
                    have b2 : decide ((s.size : Int) ≤ 200) = true := decide_eq_true (by omega)
                    have b3 : decide ((s.size : Int) + (t : Int) ≤ 1500) = true := decide_eq_true (by omega)
                    have b4 : decide (du < 15) = true := decide_eq_true q4
                    have b5 : decide ((j : Int) < 300) = true := decide_eq_true (by omega)
                    have b6 : decide (x ≤ 1073741824) = false := decide_eq_false q6
                    clear q1 q2 q3 q4 q5 q6
                    go_wp2_with fail
                    go_ret
                    exact ⟨rfl, grown_below (grown_trans hg0'.out ha)⟩
                  exact absurd ⟨q1, q2, q3, q4, q5, q6⟩ hnf'.out
          · have CE := Lib.hid (apply_err (k := k) hNW hsm.out hc'.out hyl (.inr (.inr (.inl ⟨hM.out, hkd, o2 u rfl hul hk1⟩))))
            have hk1' := Lib.hid hk1
            clear o1 o2 o3 hf0 hx hdp hNW hkd hk1
            go_wp2_with (refine wpList_row bigC hrC hcz.out (x := .tmp 8) rfl (by kernel_rfl) (by kernel_rfl) ?_; simp only [Act.put, List.setIfInBounds_toArray, List.set_cons_zero, List.set_cons_succ])
            refine CE.out.mono ?_; rintro r w5 ⟨rfl, hg5⟩
            have ha := grown_trans hg (grown_trans hg5 (World.grownBy_alloc w5 (.cells #[.slice none 0 0, .int .i64 0] 24) none))
            clear CE c0 c1
            have c0 := (bD'.out _ ha).c0
            have NA := hN.out _ ha
            obtain ⟨ad, rfl, _⟩ := NA.some_ hun
            have zk := NA.kind_ hun
            rw [hk1'.out] at zk
            clear NA
            go_wp2_with fail
            go_ret
            exact ⟨rfl, grown_below (grown_trans hg0'.out ha)⟩
end Go.Proofs.Ytjnbfgogmhfbiaa
