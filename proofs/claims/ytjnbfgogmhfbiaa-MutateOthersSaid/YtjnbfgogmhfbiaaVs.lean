/- style.May, both and Edges (printed by gen_may.py). -/
import Derived.Test.YtjnbfgogmhfbiaaSs
import Derived.BigQuiet
namespace Go.Proofs.Ytjnbfgogmhfbiaa
open Go Go.RowKit
def fnsC : Array Value := #[.func (.func 42) #[] #[], .func (.func 43) #[] #[], .func (.func 44) #[] #[], .func (.func 45) #[] #[], .func (.func 47) #[] #[], .func (.func 48) #[] #[], .func (.func 50) #[] #[], .func (.func 51) #[] #[], .func (.func 52) #[] #[]]
theorem rules_any (w : World) :
    Calls Try.prog 37 #[] w fun e w' => e = .returned (.slice (some ⟨w.heap.size, 0, none⟩) 9 9) ∧ w' = w.alloc (.cells fnsC 60) := by
  go_enter Try.func37, Try.ntmps37
  go_wp2
  go_ret
  exact ⟨rfl, rfl⟩
structure FnsAt (W : World) (F : Nat) : Prop where
  f0 : W.cell? ⟨F, 0, none⟩ = some (.func (.func 42) #[] #[])
  f1 : W.cell? ⟨F, 1, none⟩ = some (.func (.func 43) #[] #[])
  f2 : W.cell? ⟨F, 2, none⟩ = some (.func (.func 44) #[] #[])
  f3 : W.cell? ⟨F, 3, none⟩ = some (.func (.func 45) #[] #[])
  f4 : W.cell? ⟨F, 4, none⟩ = some (.func (.func 47) #[] #[])
  f5 : W.cell? ⟨F, 5, none⟩ = some (.func (.func 48) #[] #[])
  f6 : W.cell? ⟨F, 6, none⟩ = some (.func (.func 50) #[] #[])
  f7 : W.cell? ⟨F, 7, none⟩ = some (.func (.func 51) #[] #[])
  f8 : W.cell? ⟨F, 8, none⟩ = some (.func (.func 52) #[] #[])
theorem FnsAt.of {W : World} {F : Nat} {t : TypeId} (h : W.heap[F]? = some (.cells fnsC t (0, 0))) : FnsAt W F :=
  ⟨cell_of_row W F 0 _ _ _ h, cell_of_row W F 1 _ _ _ h, cell_of_row W F 2 _ _ _ h, cell_of_row W F 3 _ _ _ h, cell_of_row W F 4 _ _ _ h, cell_of_row W F 5 _ _ _ h, cell_of_row W F 6 _ _ _ h, cell_of_row W F 7 _ _ _ h, cell_of_row W F 8 _ _ _ h⟩
theorem heap_alloc_new2 (w : World) (o p : Obj) : ((w.alloc o).alloc p).heap[w.heap.size + 1]? = some p := by
  have h := heap_alloc_new (w.alloc o) p
  simpa using h
set_option maxHeartbeats 4000000 in
set_option maxRecDepth 100000 in
theorem stmay_any (s : Sty) (w : World) (hs : s.ok) :
    Calls Try.prog 27 #[.agg s.cells] w fun e w' => e = .returned (.bool (mayB s)) ∧ w.grownBy w' none := by
  have C0 := Lib.hid (fun W => rule1_any s W hs)
  have C1 := Lib.hid (fun W => rule2_any s W hs)
  have C2 := Lib.hid (fun W => rule3_any s W hs)
  have C3 := Lib.hid (fun W => rule4_any s W hs)
  have C4 := Lib.hid (fun W => rule5_any s W hs)
  have C5 := Lib.hid (fun W => rule6_any s W hs)
  have C6 := Lib.hid (fun W => rule7_any s W hs)
  have C7 := Lib.hid (fun W => rule8_any s W hs)
  have C8 := Lib.hid (fun W => rule9_any s W hs)
  have hv := Lib.hid (show mayB s = (r1 s && (r2 s && (r3 s && (r4 s && (r5 s && (r6 s && (r7 s && (r8 s && (r9 s))))))))) from rfl)
  generalize r1 s = q0 at *
  generalize r2 s = q1 at *
  generalize r3 s = q2 at *
  generalize r4 s = q3 at *
  generalize r5 s = q4 at *
  generalize r6 s = q5 at *
  generalize r7 s = q6 at *
  generalize r8 s = q7 at *
  generalize r9 s = q8 at *
  go_enter Try.func27, Try.ntmps27
  go_wp2_with fail
  refine (rules_any _).mono ?_; rintro e w0 ⟨rfl, hw⟩
  have hg0 : w.grownBy w0 none := by rw [hw]; exact grown_trans (World.grownBy_alloc _ _ _) (World.grownBy_alloc _ _ _)
  have hh0 : w0.heap[w.heap.size]? = some (.cells s.cells 30 (0, 0)) := by rw [hw]; exact (Held.new w s).grown (World.grownBy_alloc _ _ _)
  have hF0 : w0.heap[w.heap.size + 1]? = some (.cells fnsC 60 (0, 0)) := by rw [hw]; exact heap_alloc_new2 _ _ _
  clear hw
  obtain ⟨f0, f1, f2, f3, f4, f5, f6, f7, f8⟩ := FnsAt.of hF0
  simp only [World.size_alloc]
  go_wp2_with fail
  refine wp_loop_rounds 10 ?_
  rw [rounds_succ]
  go_wp2_with (refine wpList_load_row rfl 30 (.tmp 1) rfl w.heap.size rfl 30 s.cells (0, 0) _ hh0 rfl rfl rfl ?_)
  refine (C0.out _).mono ?_; rintro e w1 ⟨rfl, hx1⟩
  have hg1 := grown_trans hg0 hx1
  have hh1 := (hx1.block _ (Array.getElem?_eq_some_iff.1 hh0).1 (by simp)).trans hh0
  have hF1 := (hx1.block _ (Array.getElem?_eq_some_iff.1 hF0).1 (by simp)).trans hF0
  cases q0 with
  | false =>
    go_wp2
    go_ret
    exact ⟨ret_b (by rw [hv.out]; simp), hg1⟩
  | true =>
    clear f0 f1 f2 f3 f4 f5 f6 f7 f8
    obtain ⟨f0, f1, f2, f3, f4, f5, f6, f7, f8⟩ := FnsAt.of hF1
    go_wp2_with fail
    rw [rounds_succ]
    go_wp2_with (refine wpList_load_row rfl 30 (.tmp 1) rfl w.heap.size rfl 30 s.cells (0, 0) _ hh1 rfl rfl rfl ?_)
    refine (C1.out _).mono ?_; rintro e w2 ⟨rfl, hx2⟩
    have hg2 := grown_trans hg1 hx2
    have hh2 := (hx2.block _ (Array.getElem?_eq_some_iff.1 hh1).1 (by simp)).trans hh1
    have hF2 := (hx2.block _ (Array.getElem?_eq_some_iff.1 hF1).1 (by simp)).trans hF1
    cases q1 with
    | false =>
      go_wp2
      go_ret
      exact ⟨ret_b (by rw [hv.out]; simp), hg2⟩
    | true =>
      clear f0 f1 f2 f3 f4 f5 f6 f7 f8
      obtain ⟨f0, f1, f2, f3, f4, f5, f6, f7, f8⟩ := FnsAt.of hF2
      go_wp2_with fail
      rw [rounds_succ]
      go_wp2_with (refine wpList_load_row rfl 30 (.tmp 1) rfl w.heap.size rfl 30 s.cells (0, 0) _ hh2 rfl rfl rfl ?_)
      refine (C2.out _).mono ?_; rintro e w3 ⟨rfl, hx3⟩
      have hg3 := grown_trans hg2 hx3
      have hh3 := (hx3.block _ (Array.getElem?_eq_some_iff.1 hh2).1 (by simp)).trans hh2
      have hF3 := (hx3.block _ (Array.getElem?_eq_some_iff.1 hF2).1 (by simp)).trans hF2
      cases q2 with
      | false =>
        go_wp2
        go_ret
        exact ⟨ret_b (by rw [hv.out]; simp), hg3⟩
      | true =>
        clear f0 f1 f2 f3 f4 f5 f6 f7 f8
        obtain ⟨f0, f1, f2, f3, f4, f5, f6, f7, f8⟩ := FnsAt.of hF3
        go_wp2_with fail
        rw [rounds_succ]
        go_wp2_with (refine wpList_load_row rfl 30 (.tmp 1) rfl w.heap.size rfl 30 s.cells (0, 0) _ hh3 rfl rfl rfl ?_)
        refine (C3.out _).mono ?_; rintro e w4 ⟨rfl, hx4⟩
        have hg4 := grown_trans hg3 hx4
        have hh4 := (hx4.block _ (Array.getElem?_eq_some_iff.1 hh3).1 (by simp)).trans hh3
        have hF4 := (hx4.block _ (Array.getElem?_eq_some_iff.1 hF3).1 (by simp)).trans hF3
        cases q3 with
        | false =>
          go_wp2
          go_ret
          exact ⟨ret_b (by rw [hv.out]; simp), hg4⟩
        | true =>
          clear f0 f1 f2 f3 f4 f5 f6 f7 f8
          obtain ⟨f0, f1, f2, f3, f4, f5, f6, f7, f8⟩ := FnsAt.of hF4
          go_wp2_with fail
          rw [rounds_succ]
          go_wp2_with (refine wpList_load_row rfl 30 (.tmp 1) rfl w.heap.size rfl 30 s.cells (0, 0) _ hh4 rfl rfl rfl ?_)
          refine (C4.out _).mono ?_; rintro e w5 ⟨rfl, hx5⟩
          have hg5 := grown_trans hg4 hx5
          have hh5 := (hx5.block _ (Array.getElem?_eq_some_iff.1 hh4).1 (by simp)).trans hh4
          have hF5 := (hx5.block _ (Array.getElem?_eq_some_iff.1 hF4).1 (by simp)).trans hF4
          cases q4 with
          | false =>
            go_wp2
            go_ret
            exact ⟨ret_b (by rw [hv.out]; simp), hg5⟩
          | true =>
            clear f0 f1 f2 f3 f4 f5 f6 f7 f8
            obtain ⟨f0, f1, f2, f3, f4, f5, f6, f7, f8⟩ := FnsAt.of hF5
            go_wp2_with fail
            rw [rounds_succ]
            go_wp2_with (refine wpList_load_row rfl 30 (.tmp 1) rfl w.heap.size rfl 30 s.cells (0, 0) _ hh5 rfl rfl rfl ?_)
            refine (C5.out _).mono ?_; rintro e w6 ⟨rfl, hx6⟩
            have hg6 := grown_trans hg5 hx6
            have hh6 := (hx6.block _ (Array.getElem?_eq_some_iff.1 hh5).1 (by simp)).trans hh5
            have hF6 := (hx6.block _ (Array.getElem?_eq_some_iff.1 hF5).1 (by simp)).trans hF5
            cases q5 with
            | false =>
              go_wp2
              go_ret
              exact ⟨ret_b (by rw [hv.out]; simp), hg6⟩
            | true =>
              clear f0 f1 f2 f3 f4 f5 f6 f7 f8
              obtain ⟨f0, f1, f2, f3, f4, f5, f6, f7, f8⟩ := FnsAt.of hF6
              go_wp2_with fail
              rw [rounds_succ]
              go_wp2_with (refine wpList_load_row rfl 30 (.tmp 1) rfl w.heap.size rfl 30 s.cells (0, 0) _ hh6 rfl rfl rfl ?_)
              refine (C6.out _).mono ?_; rintro e w7 ⟨rfl, hx7⟩
              have hg7 := grown_trans hg6 hx7
              have hh7 := (hx7.block _ (Array.getElem?_eq_some_iff.1 hh6).1 (by simp)).trans hh6
              have hF7 := (hx7.block _ (Array.getElem?_eq_some_iff.1 hF6).1 (by simp)).trans hF6
              cases q6 with
              | false =>
                go_wp2
                go_ret
                exact ⟨ret_b (by rw [hv.out]; simp), hg7⟩
              | true =>
                clear f0 f1 f2 f3 f4 f5 f6 f7 f8
                obtain ⟨f0, f1, f2, f3, f4, f5, f6, f7, f8⟩ := FnsAt.of hF7
                go_wp2_with fail
                rw [rounds_succ]
                go_wp2_with (refine wpList_load_row rfl 30 (.tmp 1) rfl w.heap.size rfl 30 s.cells (0, 0) _ hh7 rfl rfl rfl ?_)
                refine (C7.out _).mono ?_; rintro e w8 ⟨rfl, hx8⟩
                have hg8 := grown_trans hg7 hx8
                have hh8 := (hx8.block _ (Array.getElem?_eq_some_iff.1 hh7).1 (by simp)).trans hh7
                have hF8 := (hx8.block _ (Array.getElem?_eq_some_iff.1 hF7).1 (by simp)).trans hF7
                cases q7 with
                | false =>
                  go_wp2
                  go_ret
                  exact ⟨ret_b (by rw [hv.out]; simp), hg8⟩
                | true =>
                  clear f0 f1 f2 f3 f4 f5 f6 f7 f8
                  obtain ⟨f0, f1, f2, f3, f4, f5, f6, f7, f8⟩ := FnsAt.of hF8
                  go_wp2_with fail
                  rw [rounds_succ]
                  go_wp2_with (refine wpList_load_row rfl 30 (.tmp 1) rfl w.heap.size rfl 30 s.cells (0, 0) _ hh8 rfl rfl rfl ?_)
                  refine (C8.out _).mono ?_; rintro e w9 ⟨rfl, hx9⟩
                  have hg9 := grown_trans hg8 hx9
                  have hh9 := (hx9.block _ (Array.getElem?_eq_some_iff.1 hh8).1 (by simp)).trans hh8
                  have hF9 := (hx9.block _ (Array.getElem?_eq_some_iff.1 hF8).1 (by simp)).trans hF8
                  cases q8 with
                  | false =>
                    go_wp2
                    go_ret
                    exact ⟨ret_b (by rw [hv.out]; simp), hg9⟩
                  | true =>
                    go_wp2_with fail
                    rw [rounds_succ]
                    go_wp2
                    go_ret
                    exact ⟨ret_b (by rw [hv.out]; rfl), hg9⟩
end Go.Proofs.Ytjnbfgogmhfbiaa
