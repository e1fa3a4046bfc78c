/- The walk of style's 'awake'. -/
import Derived.Test.YtkpfhhfecjeflaaSh
import Derived.Test.YtkpfhhfecjeflaaRowg
import Derived.Outline
import Derived.Deep.CutRange
namespace Go.Proofs.Ytkpfhhfecjeflaa
open Go Go.RowKit
def Sty.put (s : Sty) (j : Nat) (v : Int) : Sty := ⟨fun i => if i = j then v else s.n i, s.b⟩
def Sty.flag (s : Sty) (j : Nat) (v : Bool) : Sty := ⟨s.n, fun i => if i = j then v else s.b i⟩
theorem Sty.put_ok {s : Sty} (h : s.ok) {j : Nat} {v : Int} (hj : ∀ k, styL[j]? = some (.int k) → (Lit.int k v).wf = true) : (s.put j v).ok := fun i k hi => by
  unfold Sty.put
  by_cases e : i = j
  · subst e; simp only [if_true]; exact hj k hi
  · simp only [if_neg e]; exact h i k hi
theorem Sty.flag_ok {s : Sty} (h : s.ok) (j : Nat) (v : Bool) : (s.flag j v).ok := h
def zS : Sty := ⟨fun _ => 0, fun _ => false⟩
theorem zS_ok : zS.ok := fun j k _ => by show (Lit.int k 0).wf = true; cases k <;> rfl
def oddS : Sty := zS.put 0 3
def lessS : Sty := zS.put 24 (-1)
def partS : Sty := (zS.put 8 2).put 9 1
def sidesS : Sty := (((((((zS.put 22 1).put 23 2).put 24 3).put 25 4).put 26 10).put 27 20).put 28 30).put 29 40
def boxS : Sty := (((((zS.put 2 1).put 3 100).put 22 10).put 23 10).put 24 10).put 25 10
def wholeS : Sty := boxS.flag 1 true
def smallS : Sty := wholeS.put 3 5
def fontS : Sty := zS.put 32 12
theorem oddS_ok : oddS.ok := (Sty.put_ok zS_ok (fun k hk => by cases hk; rfl))
theorem lessS_ok : lessS.ok := (Sty.put_ok zS_ok (fun k hk => by cases hk; rfl))
theorem partS_ok : partS.ok := (Sty.put_ok (Sty.put_ok zS_ok (fun k hk => by cases hk; rfl)) (fun k hk => by cases hk; rfl))
theorem sidesS_ok : sidesS.ok := (Sty.put_ok (Sty.put_ok (Sty.put_ok (Sty.put_ok (Sty.put_ok (Sty.put_ok (Sty.put_ok (Sty.put_ok zS_ok (fun k hk => by cases hk; rfl)) (fun k hk => by cases hk; rfl)) (fun k hk => by cases hk; rfl)) (fun k hk => by cases hk; rfl)) (fun k hk => by cases hk; rfl)) (fun k hk => by cases hk; rfl)) (fun k hk => by cases hk; rfl)) (fun k hk => by cases hk; rfl))
theorem boxS_ok : boxS.ok := (Sty.put_ok (Sty.put_ok (Sty.put_ok (Sty.put_ok (Sty.put_ok (Sty.put_ok zS_ok (fun k hk => by cases hk; rfl)) (fun k hk => by cases hk; rfl)) (fun k hk => by cases hk; rfl)) (fun k hk => by cases hk; rfl)) (fun k hk => by cases hk; rfl)) (fun k hk => by cases hk; rfl))
theorem wholeS_ok : wholeS.ok := Sty.flag_ok boxS_ok 1 true
theorem smallS_ok : smallS.ok := (Sty.put_ok wholeS_ok (fun k hk => by cases hk; rfl))
theorem fontS_ok : fontS.ok := (Sty.put_ok zS_ok (fun k hk => by cases hk; rfl))
theorem sty_one (s : Sty) : ∀ v ∈ s.cells.toList, v.oneCell' = true := by
  have : s.cells.toList.all (·.oneCell') = true := by kernel_rfl
  exact List.all_eq_true.1 this
theorem bigS : Big Try.prog 33 47 zS.cells := ⟨⟨_, Try.underlying33, rfl⟩, by kernel_rfl, by kernel_rfl⟩
def AT : Nat → Value → Nat → Nat → World → Prop
  | 0, v, _, _, _ => v = .agg zS.cells
  | 1, v, _, _, _ => v = .agg zS.cells
  | 2, v, _, _, _ => v = .agg zS.cells
  | 3, v, lo, hi, w => v = .pointer (some ⟨lo, 0, none⟩) ∧ Row w lo 33 zS.cells ∧ hi = lo + 1
  | 4, v, lo, hi, w => v = .pointer (some ⟨lo, 0, none⟩) ∧ Row w lo 33 zS.cells ∧ hi = lo + 1
  | 5, v, lo, hi, w => v = .pointer (some ⟨lo, 0, none⟩) ∧ Row w lo 33 zS.cells ∧ hi = lo + 1
  | _, _, _, _, _ => True
theorem AT.mono : ∀ i v lo hi w w', AT i v lo hi w → w.grownBy w' none → AT i v lo hi w'
  | 0, _, _, _, _, _, h, _ => h
  | 1, _, _, _, _, _, h, _ => h
  | 2, _, _, _, _, _, h, _ => h
  | 3, _, _, _, _, _, ⟨h1, h2, h3⟩, hg => ⟨h1, h2.kept0 hg, h3⟩
  | 4, _, _, _, _, _, ⟨h1, h2, h3⟩, hg => ⟨h1, h2.kept0 hg, h3⟩
  | 5, _, _, _, _, _, ⟨h1, h2, h3⟩, hg => ⟨h1, h2.kept0 hg, h3⟩
  | _ + 6, _, _, _, _, _, _, _ => trivial
theorem grown_undrew {a b : World} (h : a.drew.grownBy b none) : a.grownBy b none := ⟨h.os, h.tape, h.output, h.size, h.block⟩
theorem Row.named {w : World} {g : Nat} {T : TypeId} {cs : Array Value} (h : Row w g T cs) (s : Sty) (e : cs = s.cells) : Row w g T s.cells := e ▸ h
set_option maxRecDepth 100000 in
set_option maxHeartbeats 2000000 in
theorem sawake_any (w : World) : Calls Try.prog 18 #[] w fun e w' => e = .returned (.bool true) ∧ w.grownBy w' none := by
  have CE := Lib.hid (fun W => (edges_any sidesS W sidesS_ok))
  rw [show edgesV sidesS = .tuple #[.int .i64 66, .int .i64 44, .int .i64 0] by kernel_rfl] at CE
  have CR1 := Lib.hid (fun W => resolve_any 2 5000 7 W (by omega) (by omega) (by omega) (by omega) (by omega) (by omega))
  rw [show (resV 2 5000 7).val = .tuple #[.int .i64 3, .bool true, .int .i64 0] by kernel_rfl] at CR1
  have CR2 := Lib.hid (fun W => resolve_any 0 0 7 W (by omega) (by omega) (by omega) (by omega) (by omega) (by omega))
  rw [show (resV 0 0 7).val = .tuple #[.int .i64 0, .bool false, .int .i64 0] by kernel_rfl] at CR2
  unfold len2 at CR1 CR2
  have CW6 := Lib.hid (fun W => width_any boxS 500 W boxS_ok (by omega))
  rw [show (widthV boxS 500).val = .tuple #[.int .i64 100, .bool true, .int .i64 0] by kernel_rfl] at CW6
  have CW7 := Lib.hid (fun W => width_any wholeS 500 W wholeS_ok (by omega))
  rw [show (widthV wholeS 500).val = .tuple #[.int .i64 80, .bool true, .int .i64 0] by kernel_rfl] at CW7
  have CW8 := Lib.hid (fun W => width_any smallS 500 W smallS_ok (by omega))
  rw [show (widthV smallS 500).val = .tuple #[.int .i64 0, .bool true, .int .i64 0] by kernel_rfl] at CW8
  have CL := Lib.hid (fun W => widths_any zS 50 W zS_ok (by omega))
  rw [show (widthsV zS 50).val = .tuple #[.int .i64 0, .int .i64 1099511627776, .int .i64 0] by kernel_rfl] at CL
  have CM1 := Lib.hid (fun W => may_any zS W zS_ok)
  rw [show mayB zS = true by kernel_rfl] at CM1
  have CM2 := Lib.hid (fun W => may_any oddS W oddS_ok)
  rw [show mayB oddS = false by kernel_rfl] at CM2
  have CM3 := Lib.hid (fun W => may_any lessS W lessS_ok)
  rw [show mayB lessS = false by kernel_rfl] at CM3
  have CM4 := Lib.hid (fun W => may_any partS W partS_ok)
  rw [show mayB partS = false by kernel_rfl] at CM4
  have CF1 := Lib.hid (fun W => font_any zS 16 W zS_ok)
  rw [show fontV zS 16 = 16 by kernel_rfl] at CF1
  have CF2 := Lib.hid (fun W => font_any fontS 16 W fontS_ok)
  rw [show fontV fontS 16 = 12 by kernel_rfl] at CF2
  go_enter Try.func18, Try.ntmps18
  go_wp2_with (first
    | (refine wpList_fresh bigS rfl rfl rfl rfl _ _ rfl zS.cells rfl (sty_one zS) rfl rfl ?_; intro W1 hg1 hr1; simp only [Act.put, List.setIfInBounds_toArray, List.set_cons_zero, List.set_cons_succ])
    | (refine wpList_value (v := .agg zS.cells) (w1 := w) rfl (by kernel_rfl) ?_; simp only [Act.put, List.setIfInBounds_toArray, List.set_cons_zero, List.set_cons_succ]))
  have hS0 : Row W1.drew w.heap.size 33 zS.cells := hr1
  refine wp_region_held (S := fun V => Row V w.heap.size 33 zS.cells) (by kernel_rfl) ?_
  refine wpAnyH_take (i := 0) (v := .agg zS.cells) rfl (by kernel_rfl) (by kernel_rfl) (by kernel_rfl) (fun _ _ _ h => h) (.inl ⟨rfl, fun V hV => exec_load_row bigS rfl rfl V hV rfl⟩) hS0 ?_
  simp only [Act.put, List.setIfInBounds_toArray, List.set_cons_zero, List.set_cons_succ]
  refine wpAnyH_take (i := 1) (v := .agg zS.cells) rfl (by kernel_rfl) (by kernel_rfl) (by kernel_rfl) (fun _ _ _ h => h) (.inl ⟨rfl, fun V hV => exec_load_row bigS rfl rfl V hV rfl⟩) hS0 ?_
  simp only [Act.put, List.setIfInBounds_toArray, List.set_cons_zero, List.set_cons_succ]
  refine wpAnyH_take (i := 2) (v := .agg zS.cells) rfl (by kernel_rfl) (by kernel_rfl) (by kernel_rfl) (fun _ _ _ h => h) (.inl ⟨rfl, fun V hV => exec_load_row bigS rfl rfl V hV rfl⟩) hS0 ?_
  simp only [Act.put, List.setIfInBounds_toArray, List.set_cons_zero, List.set_cons_succ]
  refine Grow.wpAnyH_from (w0 := W1.drew) [0, 1, 2] [3, 4, 5] #[true, true, true, true, true, true, false, false, false] [(some 2, 3), (some 3, 4), (some 4, 5)] 3 AT (by kernel_rfl) (by kernel_rfl) (by kernel_rfl) (by decide) (by kernel_rfl) (by kernel_rfl) (by kernel_rfl) (fun V hV => hr1.kept0 (grown_undrew hV)) AT.mono ?_ ?_
  · refine Grow.StepsD.cons [] [] rfl (by kernel_rfl) (by kernel_rfl) (fun vs lo up W hg hT K hK => ?_) ?_
    · exact wp_value (exec_alloc_row bigS rfl W) (hK _ _ (World.grownBy_alloc _ _ _) ⟨rfl, Row.new _ _ _, World.size_alloc _ _⟩)
    refine Grow.StepsD.cons [] [] rfl (by kernel_rfl) (by kernel_rfl) (fun vs lo up W hg hT K hK => ?_) ?_
    · exact wp_value (exec_alloc_row bigS rfl W) (hK _ _ (World.grownBy_alloc _ _ _) ⟨rfl, Row.new _ _ _, World.size_alloc _ _⟩)
    refine Grow.StepsD.cons [] [] rfl (by kernel_rfl) (by kernel_rfl) (fun vs lo up W hg hT K hK => ?_) Grow.StepsD.nil
    · exact wp_value (exec_alloc_row bigS rfl W) (hK _ _ (World.grownBy_alloc _ _ _) ⟨rfl, Row.new _ _ _, World.size_alloc _ _⟩)
  intro vs lo up V hgV hT hb hap
  have hgW := grown_undrew hgV
  obtain ⟨⟨t3, b3, u3⟩, ⟨t4, b4, u4⟩, t5, b5, u5⟩ := hT
  have k34 := hap 3 (by simp) 4 (by simp) (by simp)
  have k35 := hap 3 (by simp) 5 (by simp) (by simp)
  have k45 := hap 4 (by simp) 5 (by simp) (by simp)
  have n23 : lo 3 ≠ lo 4 := by omega
  have n24 : lo 3 ≠ lo 5 := by omega
  have n34 : lo 4 ≠ lo 5 := by omega
  have ge2 : W1.heap.size ≤ lo 3 := (hb 3 (by simp)).1
  have ge3 : W1.heap.size ≤ lo 4 := (hb 4 (by simp)).1
  have ge4 : W1.heap.size ≤ lo 5 := (hb 5 (by simp)).1
  simp only [Grow.putL, t3, t4, t5, Act.put, List.setIfInBounds_toArray, List.set_cons_zero, List.set_cons_succ]
  generalize lo 3 = g2 at *
  generalize lo 4 = g3 at *
  generalize lo 5 = g4 at *
  clear t3 t4 t5 hb hap k34 k35 k45 u3 u4 u5 hgV hS0
  have hlt1 := hr1.lt
  have r1 := hr1.kept0 hgW
  have hgA := grown_new hgW (grownBy_setRow V g2 zS.cells) (fun e h => by cases h; omega)
  have r2 := b3.store zS.cells
  have r3 := b4.keptNe (grownBy_setRow V g2 zS.cells) (Ne.symm n23)
  have r4 := b5.keptNe (grownBy_setRow V g2 zS.cells) (Ne.symm n24)
  have q1 := r1.keptNe (grownBy_setRow V g2 zS.cells) (by omega)
  refine wpAnyH_store_row bigS 6 (.tmp 2) (.tmp 31) g2 zS.cells zS.cells (by kernel_rfl) (by kernel_rfl) (by kernel_rfl) (by kernel_rfl) b3 (Sty.size _) (Sty.size _) (sty_one zS) q1 ?_
  generalize V.setRow g2 zS.cells = V2 at *
  clear b3 b4 b5 hgW r1
  have hgB := grown_new hgA (grownBy_setRow V2 g3 zS.cells) (fun e h => by cases h; omega)
  have q3 := r3.store zS.cells
  have q2 := r2.keptNe (grownBy_setRow V2 g3 zS.cells) n23
  have q4 := r4.keptNe (grownBy_setRow V2 g3 zS.cells) (Ne.symm n34)
  have p1 := q1.keptNe (grownBy_setRow V2 g3 zS.cells) (by omega)
  refine wpAnyH_store_row bigS 7 (.tmp 3) (.tmp 32) g3 zS.cells zS.cells (by kernel_rfl) (by kernel_rfl) (by kernel_rfl) (by kernel_rfl) r3 (Sty.size _) (Sty.size _) (sty_one zS) p1 ?_
  generalize V2.setRow g3 zS.cells = V3 at *
  clear r2 r3 r4 q1 hgA
  have hgC := grown_new hgB (grownBy_setRow V3 g4 zS.cells) (fun e h => by cases h; omega)
  have p4 := q4.store zS.cells
  have p2 := q2.keptNe (grownBy_setRow V3 g4 zS.cells) n24
  have p3 := q3.keptNe (grownBy_setRow V3 g4 zS.cells) n34
  have o1 := p1.keptNe (grownBy_setRow V3 g4 zS.cells) (by omega)
  refine wpAnyH_store_row bigS 8 (.tmp 4) (.tmp 33) g4 zS.cells zS.cells (by kernel_rfl) (by kernel_rfl) (by kernel_rfl) (by kernel_rfl) q4 (Sty.size _) (Sty.size _) (sty_one zS) o1 ?_
  generalize V3.setRow g4 zS.cells = V4 at *
  clear q2 q3 q4 p1 hgB
  refine wpAnyH_done (by kernel_rfl) ?_ _
  have c2 : V4.cell? ⟨g2, 0, none⟩ = some (.int .u8 0) := p2.at 0
  have f2 := p2.free 0
  have c3 : V4.cell? ⟨g3, 24, none⟩ = some (.int .i64 0) := p3.at 24
  have f3 := p3.free 24
  have c4 : V4.cell? ⟨g4, 8, none⟩ = some (.int .u8 0) := p4.at 8
  have f4 := p4.free 8
  have c5 : V4.cell? ⟨g4, 9, none⟩ = some (.int .i64 0) := p4.at 9
  have f5 := p4.free 9
  go_upto_region 4 with fail
  have r2 := (p2.set 0 (.int .u8 3)).named oddS (by kernel_rfl)
  have r3 := (p3.keptNe (grownBy_setCell V4 g2 0 (.int .u8 3)) (Ne.symm n23)).set 24 (.int .i64 (-1)) |>.named lessS (by kernel_rfl)
  have r4 := (((p4.keptNe (grownBy_setCell V4 g2 0 (.int .u8 3)) (Ne.symm n24)).keptNe (grownBy_setCell _ g3 24 (.int .i64 (-1))) (Ne.symm n34)).set 8 (.int .u8 2)).set 9 (.int .i64 1) |>.named partS (by kernel_rfl)
  have r2' := ((r2.keptNe (grownBy_setCell _ g3 24 (.int .i64 (-1))) n23).keptNe (grownBy_setCell _ g4 8 (.int .u8 2)) n24).keptNe (grownBy_setCell _ g4 9 (.int .i64 1)) n24
  have r3' := (r3.keptNe (grownBy_setCell _ g4 8 (.int .u8 2)) n34).keptNe (grownBy_setCell _ g4 9 (.int .i64 1)) n34
  have r1 := (((o1.keptNe (grownBy_setCell V4 g2 0 (.int .u8 3)) (by omega)).keptNe (grownBy_setCell _ g3 24 (.int .i64 (-1))) (by omega)).keptNe (grownBy_setCell _ g4 8 (.int .u8 2)) (by omega)).keptNe (grownBy_setCell _ g4 9 (.int .i64 1)) (by omega)
  have hgD := grown_new (grown_new (grown_new (grown_new (grown_trans hg1 hgC) (grownBy_setCell V4 g2 0 (.int .u8 3)) (fun e h => by cases h; exact Nat.le_trans hg1.size ge2)) (grownBy_setCell _ g3 24 (.int .i64 (-1))) (fun e h => by cases h; exact Nat.le_trans hg1.size ge3)) (grownBy_setCell _ g4 8 (.int .u8 2)) (fun e h => by cases h; exact Nat.le_trans hg1.size ge4)) (grownBy_setCell _ g4 9 (.int .i64 1)) (fun e h => by cases h; exact Nat.le_trans hg1.size ge4)
  clear p2 p3 p4 o1 r2 r3 c2 f2 c3 f3 c4 f4 c5 f5 n23 n24 n34 ge2 ge3 ge4 hr1 hlt1 hg1 hgC
  generalize (((V4.setCell ⟨g2, 0, none⟩ (.int .u8 3)).setCell ⟨g3, 24, none⟩ (.int .i64 (-1))).setCell ⟨g4, 8, none⟩ (.int .u8 2)).setCell ⟨g4, 9, none⟩ (.int .i64 1) = W5 at *
  have r2 := r2'
  have r3 := r3'
  clear r2' r3'
  go_upto_region 5 with (first | (refine wpList_build rfl (T := 33) rfl sidesS.cells (by kernel_rfl) ?_; simp only [Act.put, List.setIfInBounds_toArray, List.set_cons_zero, List.set_cons_succ]) | (refine wpList_fresh bigS (Sty.size _) rfl rfl rfl _ _ rfl sidesS.cells (Sty.size _) (sty_one _) rfl rfl ?_; intro W6 hgN hrN; simp only [Act.put, List.setIfInBounds_toArray, List.set_cons_zero, List.set_cons_succ]))
  have r5 := hrN
  replace r1 := r1.kept0 hgN
  replace r2 := r2.kept0 hgN
  replace r3 := r3.kept0 hgN
  replace r4 := r4.kept0 hgN
  replace hgD := grown_trans hgD hgN
  clear hgN hrN
  generalize W5.heap.size = g5 at *
  go_upto_region 6 with (first | (refine wpList_build rfl (T := 33) rfl boxS.cells (by kernel_rfl) ?_; simp only [Act.put, List.setIfInBounds_toArray, List.set_cons_zero, List.set_cons_succ]) | (refine wpList_fresh bigS (Sty.size _) rfl rfl rfl _ _ rfl boxS.cells (Sty.size _) (sty_one _) rfl rfl ?_; intro W7 hgN hrN; simp only [Act.put, List.setIfInBounds_toArray, List.set_cons_zero, List.set_cons_succ]))
  have r6 := hrN
  replace r1 := r1.kept0 hgN
  replace r2 := r2.kept0 hgN
  replace r3 := r3.kept0 hgN
  replace r4 := r4.kept0 hgN
  replace r5 := r5.kept0 hgN
  replace hgD := grown_trans hgD hgN
  clear hgN hrN
  generalize W6.heap.size = g6 at *
  go_upto_region 7 with (first | (refine wpList_row bigS r6 (Sty.size _) rfl rfl rfl ?_; simp only [Act.put, List.setIfInBounds_toArray, List.set_cons_zero, List.set_cons_succ]) | (refine wpList_fresh bigS (Sty.size _) rfl rfl rfl _ _ rfl boxS.cells (Sty.size _) (sty_one _) rfl rfl ?_; intro W8 hgN hrN; simp only [Act.put, List.setIfInBounds_toArray, List.set_cons_zero, List.set_cons_succ]))
  have l1 := r1.lt
  have n17 : w.heap.size ≠ W7.heap.size := by omega
  have l2 := r2.lt
  have n27 : g2 ≠ W7.heap.size := by omega
  have l3 := r3.lt
  have n37 : g3 ≠ W7.heap.size := by omega
  have l4 := r4.lt
  have n47 : g4 ≠ W7.heap.size := by omega
  have l5 := r5.lt
  have n57 : g5 ≠ W7.heap.size := by omega
  have l6 := r6.lt
  have n67 : g6 ≠ W7.heap.size := by omega
  have r7 := hrN
  replace r1 := r1.kept0 hgN
  replace r2 := r2.kept0 hgN
  replace r3 := r3.kept0 hgN
  replace r4 := r4.kept0 hgN
  replace r5 := r5.kept0 hgN
  replace r6 := r6.kept0 hgN
  have geN := hgD.size
  replace hgD := grown_trans hgD hgN
  clear hgN hrN l1 l2 l3 l4 l5 l6
  generalize W7.heap.size = g7 at *
  have c7 : W8.cell? ⟨g7, 1, none⟩ = some (.bool false) := r7.at 1
  have f7 := r7.free 1
  go_upto_region 8 with fail
  clear c7 f7
  replace r1 := r1.keptNe (grownBy_setCell W8 g7 1 (.bool true)) n17
  replace r2 := r2.keptNe (grownBy_setCell W8 g7 1 (.bool true)) n27
  replace r3 := r3.keptNe (grownBy_setCell W8 g7 1 (.bool true)) n37
  replace r4 := r4.keptNe (grownBy_setCell W8 g7 1 (.bool true)) n47
  replace r5 := r5.keptNe (grownBy_setCell W8 g7 1 (.bool true)) n57
  replace r6 := r6.keptNe (grownBy_setCell W8 g7 1 (.bool true)) n67
  replace r7 := (r7.set 1 (.bool true)).named wholeS (by kernel_rfl)
  replace hgD := grown_new hgD (grownBy_setCell W8 g7 1 (.bool true)) (fun e h => by cases h; exact geN)
  clear geN n17 n27 n37 n47 n57 n67
  generalize W8.setCell ⟨g7, 1, none⟩ (.bool true) = W8' at *
  go_upto_region 9 with (first | (refine wpList_row bigS r7 (Sty.size _) rfl rfl rfl ?_; simp only [Act.put, List.setIfInBounds_toArray, List.set_cons_zero, List.set_cons_succ]) | (refine wpList_fresh bigS (Sty.size _) rfl rfl rfl _ _ rfl wholeS.cells (Sty.size _) (sty_one _) rfl rfl ?_; intro W9 hgN hrN; simp only [Act.put, List.setIfInBounds_toArray, List.set_cons_zero, List.set_cons_succ]))
  have l1 := r1.lt
  have n18 : w.heap.size ≠ W8'.heap.size := by omega
  have l2 := r2.lt
  have n28 : g2 ≠ W8'.heap.size := by omega
  have l3 := r3.lt
  have n38 : g3 ≠ W8'.heap.size := by omega
  have l4 := r4.lt
  have n48 : g4 ≠ W8'.heap.size := by omega
  have l5 := r5.lt
  have n58 : g5 ≠ W8'.heap.size := by omega
  have l6 := r6.lt
  have n68 : g6 ≠ W8'.heap.size := by omega
  have l7 := r7.lt
  have n78 : g7 ≠ W8'.heap.size := by omega
  have r8 := hrN
  replace r1 := r1.kept0 hgN
  replace r2 := r2.kept0 hgN
  replace r3 := r3.kept0 hgN
  replace r4 := r4.kept0 hgN
  replace r5 := r5.kept0 hgN
  replace r6 := r6.kept0 hgN
  replace r7 := r7.kept0 hgN
  have geN := hgD.size
  replace hgD := grown_trans hgD hgN
  clear hgN hrN l1 l2 l3 l4 l5 l6 l7
  generalize W8'.heap.size = g8 at *
  have c8 : W9.cell? ⟨g8, 3, none⟩ = some (.int .i64 100) := r8.at 3
  have f8 := r8.free 3
  go_upto_region 10 with fail
  clear c8 f8
  replace r1 := r1.keptNe (grownBy_setCell W9 g8 3 (.int .i64 5)) n18
  replace r2 := r2.keptNe (grownBy_setCell W9 g8 3 (.int .i64 5)) n28
  replace r3 := r3.keptNe (grownBy_setCell W9 g8 3 (.int .i64 5)) n38
  replace r4 := r4.keptNe (grownBy_setCell W9 g8 3 (.int .i64 5)) n48
  replace r5 := r5.keptNe (grownBy_setCell W9 g8 3 (.int .i64 5)) n58
  replace r6 := r6.keptNe (grownBy_setCell W9 g8 3 (.int .i64 5)) n68
  replace r7 := r7.keptNe (grownBy_setCell W9 g8 3 (.int .i64 5)) n78
  replace r8 := (r8.set 3 (.int .i64 5)).named smallS (by kernel_rfl)
  replace hgD := grown_new hgD (grownBy_setCell W9 g8 3 (.int .i64 5)) (fun e h => by cases h; exact geN)
  clear geN n18 n28 n38 n48 n58 n68 n78
  generalize W9.setCell ⟨g8, 3, none⟩ (.int .i64 5) = W9' at *
  go_wp2_with (first | (refine wpList_row bigS r5 (Sty.size _) rfl rfl rfl ?_; simp only [Act.put, List.setIfInBounds_toArray, List.set_cons_zero, List.set_cons_succ]))
  refine (CE.out _).mono ?_; rintro e V1 ⟨rfl, hx⟩
  replace hgD := grown_trans hgD hx
  replace r1 := r1.kept0 hx
  replace r2 := r2.kept0 hx
  replace r3 := r3.kept0 hx
  replace r4 := r4.kept0 hx
  replace r6 := r6.kept0 hx
  replace r7 := r7.kept0 hx
  replace r8 := r8.kept0 hx
  clear hx r5
  go_wp2_with fail
  refine (CR1.out _).mono ?_; rintro e V2 ⟨rfl, hx⟩
  replace hgD := grown_trans hgD hx
  replace r1 := r1.kept0 hx
  replace r2 := r2.kept0 hx
  replace r3 := r3.kept0 hx
  replace r4 := r4.kept0 hx
  replace r6 := r6.kept0 hx
  replace r7 := r7.kept0 hx
  replace r8 := r8.kept0 hx
  clear hx
  go_wp2_with fail
  refine (CR2.out _).mono ?_; rintro e V3 ⟨rfl, hx⟩
  replace hgD := grown_trans hgD hx
  replace r1 := r1.kept0 hx
  replace r2 := r2.kept0 hx
  replace r3 := r3.kept0 hx
  replace r4 := r4.kept0 hx
  replace r6 := r6.kept0 hx
  replace r7 := r7.kept0 hx
  replace r8 := r8.kept0 hx
  clear hx
  go_wp2_with (first | (refine wpList_row bigS r6 (Sty.size _) rfl rfl rfl ?_; simp only [Act.put, List.setIfInBounds_toArray, List.set_cons_zero, List.set_cons_succ]))
  refine (CW6.out _).mono ?_; rintro e V4 ⟨rfl, hx⟩
  replace hgD := grown_trans hgD hx
  replace r1 := r1.kept0 hx
  replace r2 := r2.kept0 hx
  replace r3 := r3.kept0 hx
  replace r4 := r4.kept0 hx
  replace r7 := r7.kept0 hx
  replace r8 := r8.kept0 hx
  clear hx r6
  go_wp2_with (first | (refine wpList_row bigS r7 (Sty.size _) rfl rfl rfl ?_; simp only [Act.put, List.setIfInBounds_toArray, List.set_cons_zero, List.set_cons_succ]))
  refine (CW7.out _).mono ?_; rintro e V5 ⟨rfl, hx⟩
  replace hgD := grown_trans hgD hx
  replace r1 := r1.kept0 hx
  replace r2 := r2.kept0 hx
  replace r3 := r3.kept0 hx
  replace r4 := r4.kept0 hx
  replace r8 := r8.kept0 hx
  clear hx r7
  go_wp2_with (first | (refine wpList_row bigS r8 (Sty.size _) rfl rfl rfl ?_; simp only [Act.put, List.setIfInBounds_toArray, List.set_cons_zero, List.set_cons_succ]))
  refine (CW8.out _).mono ?_; rintro e V6 ⟨rfl, hx⟩
  replace hgD := grown_trans hgD hx
  replace r1 := r1.kept0 hx
  replace r2 := r2.kept0 hx
  replace r3 := r3.kept0 hx
  replace r4 := r4.kept0 hx
  clear hx r8
  go_wp2_with (first | (refine wpList_row bigS r1 (Sty.size _) rfl rfl rfl ?_; simp only [Act.put, List.setIfInBounds_toArray, List.set_cons_zero, List.set_cons_succ]))
  refine (CL.out _).mono ?_; rintro e V7 ⟨rfl, hx⟩
  replace hgD := grown_trans hgD hx
  replace r1 := r1.kept0 hx
  replace r2 := r2.kept0 hx
  replace r3 := r3.kept0 hx
  replace r4 := r4.kept0 hx
  clear hx
  go_wp2_with (first | (refine wpList_row bigS r1 (Sty.size _) rfl rfl rfl ?_; simp only [Act.put, List.setIfInBounds_toArray, List.set_cons_zero, List.set_cons_succ]))
  refine (CM1.out _).mono ?_; rintro e V8 ⟨rfl, hx⟩
  replace hgD := grown_trans hgD hx
  replace r1 := r1.kept0 hx
  replace r2 := r2.kept0 hx
  replace r3 := r3.kept0 hx
  replace r4 := r4.kept0 hx
  clear hx
  go_wp2_with (first | (refine wpList_row bigS r2 (Sty.size _) rfl rfl rfl ?_; simp only [Act.put, List.setIfInBounds_toArray, List.set_cons_zero, List.set_cons_succ]))
  refine (CM2.out _).mono ?_; rintro e V9 ⟨rfl, hx⟩
  replace hgD := grown_trans hgD hx
  replace r1 := r1.kept0 hx
  replace r3 := r3.kept0 hx
  replace r4 := r4.kept0 hx
  clear hx r2
  go_wp2_with (first | (refine wpList_row bigS r3 (Sty.size _) rfl rfl rfl ?_; simp only [Act.put, List.setIfInBounds_toArray, List.set_cons_zero, List.set_cons_succ]))
  refine (CM3.out _).mono ?_; rintro e V10 ⟨rfl, hx⟩
  replace hgD := grown_trans hgD hx
  replace r1 := r1.kept0 hx
  replace r4 := r4.kept0 hx
  clear hx r3
  go_wp2_with (first | (refine wpList_row bigS r4 (Sty.size _) rfl rfl rfl ?_; simp only [Act.put, List.setIfInBounds_toArray, List.set_cons_zero, List.set_cons_succ]))
  refine (CM4.out _).mono ?_; rintro e V11 ⟨rfl, hx⟩
  replace hgD := grown_trans hgD hx
  replace r1 := r1.kept0 hx
  clear hx r4
  go_wp2_with (first | (refine wpList_row bigS r1 (Sty.size _) rfl rfl rfl ?_; simp only [Act.put, List.setIfInBounds_toArray, List.set_cons_zero, List.set_cons_succ]))
  refine (CF1.out _).mono ?_; rintro e V12 ⟨rfl, hx⟩
  replace hgD := grown_trans hgD hx
  clear hx r1
  go_wp2_with (first | (refine wpList_build rfl (T := 33) rfl fontS.cells (by kernel_rfl) ?_; simp only [Act.put, List.setIfInBounds_toArray, List.set_cons_zero, List.set_cons_succ]))
  refine (CF2.out _).mono ?_; rintro e V13 ⟨rfl, hx⟩
  replace hgD := grown_trans hgD hx
  go_wp2
  go_ret
  exact ⟨rfl, hgD⟩
end Go.Proofs.Ytkpfhhfecjeflaa
