/- Take. -/
import Derived.Test.YtdmhaigldckdbaaNg
namespace Go.Proofs.Ytdmhaigldckdbaa
open Go Go.RowKit
theorem take_empty (w : World) (base g : Nat) (k : Int) (h : NetIs w base g []) :
    Calls Try.prog 12 #[.pointer (some ⟨g, 0, none⟩), .int .i64 k] w fun e w' => e = .returned (.tuple #[.agg #[.int .i64 0, .slice none 0 0], .int .i64 300]) ∧ w.grownBy w' none := by
  have hlt := h.lt
  have hg0 := World.grownBy_alloc w (.cells #[.int .i64 0, .slice none 0 0] 33) none
  have CP := Lib.hid (pick_empty _ base g k (h.grown0 hg0))
  clear h
  go_enter Try.func12, Try.ntmps12
  go_wp2_with fail
  refine CP.out.mono ?_; rintro e w1 ⟨rfl, rfl⟩
  go_wp2
  have bR := Row.new w 33 #[.int .i64 0, .slice none 0 0]
  obtain ⟨q0, q1⟩ := bR.two
  generalize w.alloc (.cells #[.int .i64 0, .slice none 0 0] 33) = W at *
  exact bodyPost_ret (v := .tuple #[.agg #[.int .i64 0, .slice none 0 0], .int .i64 300]) (by simp [results, Try.results12, go_sem, q0, q1]) rfl ⟨rfl, hg0⟩
set_option maxRecDepth 100000 in
set_option maxHeartbeats 2000000 in
theorem take_ok (w : World) (base g : Nat) (fl : List Flt) (k : Int) (h : NetIs w base g fl) (hp : 0 < fl.length) (x : Flt) (hx : fl[place k fl.length]? = some x) :
    Calls Try.prog 12 #[.pointer (some ⟨g, 0, none⟩), .int .i64 k] w fun e w' => e = .returned (.tuple #[.agg #[.int .i64 x.to, .slice x.A x.bs.length x.cap], .int .i64 0]) ∧ Step w w' base g fl (fl.eraseIdx (place k fl.length)) ∧ Freed w' base g (fl.eraseIdx (place k fl.length)) x := by
  have hlt := h.lt
  have hle := h.2.1
  have hga := World.grownBy_alloc w (.cells #[.int .i64 0, .slice none 0 0] 33) none
  have CP := Lib.hid (pick_net _ base g fl k (h.grown0 hga) hp)
  obtain ⟨A0, c0, h0, hR⟩ := h.2.2.2
  have hpl : place k fl.length < fl.length := place_lt k hp
  have CD := Lib.hid (fun W (hg : w.grownBy W none) => del_any W base fl.length c0 (place k fl.length) (place k fl.length + 1) A0 (rowF fl) (hR.grown0 hg) (rowF_one fl) hpl rfl hle)
  obtain ⟨r, rfl, hrr, _, hrl, hcr⟩ := hR.cells_ (by rw [rowF_len]; omega)
  obtain ⟨x0, x1⟩ := rowF_get fl _ x hx
  have y0 := (hga.cell ((hcr (place k fl.length * 2) (by rw [rowF_len]; omega)).trans x0) (by simp))
  have y1 := (hga.cell ((hcr (place k fl.length * 2 + 1) (by rw [rowF_len]; omega)).trans x1) (by simp))
  have e1 : (w.alloc (.cells #[.int .i64 0, .slice none 0 0] 33)).cell? ⟨g, 1, none⟩ = some (.slice (some ⟨r, 0, none⟩) fl.length c0) := hga.cell (by rw [cell_of_row w g 1 _ _ _ h0]; rfl) (by simp)
  have bR := Row.new w 33 #[.int .i64 0, .slice none 0 0]
  have hxx := Lib.hid hx
  have hh := Lib.hid h
  have hh0 := Lib.hid h0
  have hhR := Lib.hid hR
  have hrr' := Lib.hid hrr
  clear h h0 hR hcr x0 x1 hx hrr
  generalize hW : w.alloc (.cells #[.int .i64 0, .slice none 0 0] 33) = W at *
  have hW' := Lib.hid hW
  clear hW
  have hsz : W.heap.size = w.heap.size + 1 := by rw [← hW'.out, World.size_alloc]
  generalize place k fl.length = p at *
  go_enter Try.func12, Try.ntmps12
  go_wp2_with fail
  rw [hW'.out]
  refine CP.out.mono ?_; rintro e w1 ⟨rfl, rfl⟩
  go_wp2_with fail
  have hgb := World.grownBy_alloc W (.cells #[.int .i64 x.to, .slice x.A x.bs.length x.cap] 33) none
  have hgV := grown_trans hga hgb
  have bB := Row.new W 33 #[.int .i64 x.to, .slice x.A x.bs.length x.cap]
  rw [hsz] at bB
  replace bR := bR.kept0 hgb
  generalize W.alloc (.cells #[.int .i64 x.to, .slice x.A x.bs.length x.cap] 33) = V at *
  refine (CD.out V hgV).mono ?_; rintro e w8 ⟨rfl, hown, hg8⟩
  have hR8 := hhR.out.grown0 hgV
  have h0V := (hgV.block g hlt (by simp)).trans hh0.out
  have h08 := heap_kept_row h0V hR8 (by decide) hg8
  rw [hrr'.out] at hg8
  have hrne : w.heap.size + 1 ≠ r := by omega
  have hsne : w.heap.size ≠ r := by omega
  replace bB := bB.keptNe hg8 hrne
  replace bR := bR.keptNe hg8 hsne
  have f1 := frozen_of_row w8 g 1 _ _ h08
  have f2 : w8.cell? ⟨g, 1, none⟩ = some (.slice (some ⟨r, 0, none⟩) fl.length c0) := by rw [cell_of_row w8 g 1 _ _ _ h08]; rfl
  have hgS := grownBy_setCell w8 g 1 (.slice (some ⟨r, 0, none⟩) (fl.length - 1) c0)
  have hDel := Lib.hid (fun w9 (hg9 : (w8.setCell ⟨g, 1, none⟩ (.slice (some ⟨r, 0, none⟩) (fl.length - 1) c0)).grownBy w9 (some w.heap.size)) => hh.out.del hh0.out hhR.out hgV p x hxx.out (w8 := w8) (w9 := w9) (by rw [← rowF_erase]; exact hown) (by rw [hrr'.out]; exact hg8) w.heap.size (Nat.le_refl _) hg9)
  replace bB := bB.keptNe hgS (by omega)
  replace bR := bR.keptNe hgS (by omega)
  obtain ⟨b0, b1⟩ := bB.two
  obtain ⟨r0, r1⟩ := bR.two
  have r2 := bR.free 0
  have r3 := bR.free 1
  go_wp2_with fail
  have f9 := (bR.set 0 (.int .i64 x.to)).set 1 (.slice x.A x.bs.length x.cap)
  have g0 := f9.at 0
  have g1 := f9.at 1
  simp only [List.setIfInBounds_toArray, List.set_cons_zero, List.set_cons_succ, List.getElem?_toArray, List.getElem?_cons_zero, List.getElem?_cons_succ] at g0 g1
  have hfin := hDel.out _ (grown_trans (grownBy_setCell (w8.setCell ⟨g, 1, none⟩ (.slice (some ⟨r, 0, none⟩) (fl.length - 1) c0)) w.heap.size 0 (.int .i64 x.to)) (grownBy_setCell _ w.heap.size 1 (.slice x.A x.bs.length x.cap)))
  generalize ((w8.setCell ⟨g, 1, none⟩ (.slice (some ⟨r, 0, none⟩) (fl.length - 1) c0)).setCell ⟨w.heap.size, 0, none⟩ (.int .i64 x.to)).setCell ⟨w.heap.size, 1, none⟩ (.slice x.A x.bs.length x.cap) = w9 at *
  exact bodyPost_ret (v := .tuple #[.agg #[.int .i64 x.to, .slice x.A x.bs.length x.cap], .int .i64 0]) (by simp [results, Try.results12, go_sem, g0, g1]) rfl ⟨rfl, hfin⟩
end Go.Proofs.Ytdmhaigldckdbaa
