/- The document's ring: its calls. -/
import Derived.Test.YtkailfigoogfeaaRd
import Derived.Test.YtkailfigoogfeaaRowg
namespace Go.Proofs.Ytkailfigoogfeaa
open Go Go.RowKit
theorem infoD : (Try.prog.info? 24).map (fun i => (i.zero, i.size, i.bytes)) = some (some (.agg #[.slice none 0 0, .int .i64 0]), 2, 32) := by kernel_rfl
theorem Row.reads2 {w : World} {g : Nat} {T : TypeId} {u v : Value} (h : Row w g T #[u, v]) : Reads w w.heap.size (some ⟨g, 0, none⟩) [u, v] := fun _ => by
  refine ⟨_, rfl, h.lt, fun j x hx => ?_⟩
  have e : (⟨g, 0, none⟩ : Addr).add j = ⟨g, j, none⟩ := by unfold Addr.add; split <;> simp_all
  rw [e, h.at j]
  simpa using hx
theorem rlast_any (w : World) (base g M : Nat) (dl : List DV) (h : DocR w base g M dl) :
    Calls Try.prog 19 #[.pointer (some ⟨g, 0, none⟩)] w fun e w' => e = .returned (.int .i64 (dl.length : Int)) ∧ w = w' := by
  obtain ⟨_, hl, _, A, c, h4, _⟩ := h
  have hc : w.cell? ⟨g, 0, none⟩ = some (.slice A dl.length c) := h4.at 0
  clear h4
  go_enter Try.func19, Try.ntmps19
  go_wp2
  go_ret
  exact ⟨rfl, rfl⟩
theorem rfirst_any (w : World) (base g M : Nat) (dl : List DV) (h : DocR w base g M dl) (hp : 0 < dl.length) :
    Calls Try.prog 18 #[.pointer (some ⟨g, 0, none⟩)] w fun e w' => e = .returned (.int .i64 ((firstOf dl.length : Nat) : Int)) ∧ w = w' := by
  obtain ⟨_, hl, _, A, c, h4, _⟩ := h
  have hc : w.cell? ⟨g, 0, none⟩ = some (.slice A dl.length c) := h4.at 0
  have hf : firstOf dl.length = max 1 (dl.length - 3) := if_neg (by omega)
  clear h4
  generalize dl.length = n at *
  by_cases h4 : n < 4
  · have e : firstOf n = 1 := by rw [hf]; omega
    have d0 : decide ((n : Int) < 4) = true := by simp; omega
    rw [e]
    clear hf e
    go_enter Try.func18, Try.ntmps18
    go_wp2
    go_ret
    exact ⟨rfl, rfl⟩
  · have e : ((firstOf n : Nat) : Int) = (n : Int) - 3 := by rw [hf]; omega
    have d0 : decide ((n : Int) < 4) = false := by simp; omega
    rw [e]
    clear hf e
    go_enter Try.func18, Try.ntmps18
    go_wp2
    go_ret
    exact ⟨rfl, rfl⟩
theorem rget_none (w : World) (base g M : Nat) (dl : List DV) (v : Int) (h : DocR w base g M dl) (hp : 0 < dl.length) (hv : v < (firstOf dl.length : Nat) ∨ ((firstOf dl.length : Nat) : Int) ≤ v ∧ (dl.length : Int) < v) :
    Calls Try.prog 20 #[.pointer (some ⟨g, 0, none⟩), .int .i64 v] w fun e w' => e = .returned (.tuple #[.agg #[.slice none 0 0, .int .i64 0], .int .i64 260]) ∧ w.grownBy w' none := by
  have hg0 := World.grownBy_alloc w (.cells #[.slice none 0 0, .int .i64 0] 24) none
  have b := Two.new w 24 (.slice none 0 0) (.int .i64 0)
  have CF := Lib.hid (rfirst_any _ base g M dl (h.grown0 hg0) hp)
  have CL := Lib.hid (rlast_any _ base g M dl (h.grown0 hg0))
  have c0 := b.c0
  have c1 := b.c1
  have f0 := b.f 0
  have f1 := b.f 1
  clear h
  generalize firstOf dl.length = fo at *
  generalize dl.length = n at *
  generalize hW : w.alloc (.cells #[.slice none 0 0, .int .i64 0] 24) = W at *
  have hW' := Lib.hid hW
  clear hW
  have hS := Lib.hid (show ∀ V : World, V = (W.setCell ⟨w.heap.size, 0, none⟩ (.slice none 0 0)).setCell ⟨w.heap.size, 1, none⟩ (.int .i64 0) → w.grownBy V none ∧ Two V w.heap.size 24 (.slice none 0 0) (.int .i64 0) from fun V hV => by
    subst hV
    exact ⟨grown_new (grown_new hg0 (grownBy_setCell _ _ _ _) (fun e h => by cases h; omega)) (grownBy_setCell _ _ _ _) (fun e h => by cases h; omega), (b.s0 _).s1 _⟩)
  rcases hv with hv | ⟨hv1, hv2⟩
  · have d0 : decide (v < (fo : Int)) = true := decide_eq_true hv
    go_enter Try.func20, Try.ntmps20
    go_wp2_with fail
    rw [hW'.out]
    refine CF.out.mono ?_; rintro e w1 ⟨rfl, rfl⟩
    go_wp2_with fail
    obtain ⟨hgS, bS⟩ := hS.out _ rfl
    have s0 := bS.c0
    have s1 := bS.c1
    generalize (W.setCell ⟨w.heap.size, 0, none⟩ (.slice none 0 0)).setCell ⟨w.heap.size, 1, none⟩ (.int .i64 0) = V at *
    exact bodyPost_ret (v := .tuple #[.agg #[.slice none 0 0, .int .i64 0], .int .i64 260]) (by simp [results, Try.results20, go_sem, s0, s1]) rfl ⟨rfl, hgS⟩
  · have d0 : decide (v < (fo : Int)) = false := decide_eq_false (by omega)
    have d1 : decide ((n : Int) < v) = true := decide_eq_true hv2
    go_enter Try.func20, Try.ntmps20
    go_wp2_with fail
    rw [hW'.out]
    refine CF.out.mono ?_; rintro e w1 ⟨rfl, rfl⟩
    go_wp2_with fail
    refine CL.out.mono ?_; rintro e w1 ⟨rfl, rfl⟩
    go_wp2_with fail
    obtain ⟨hgS, bS⟩ := hS.out _ rfl
    have s0 := bS.c0
    have s1 := bS.c1
    generalize (W.setCell ⟨w.heap.size, 0, none⟩ (.slice none 0 0)).setCell ⟨w.heap.size, 1, none⟩ (.int .i64 0) = V at *
    exact bodyPost_ret (v := .tuple #[.agg #[.slice none 0 0, .int .i64 0], .int .i64 260]) (by simp [results, Try.results20, go_sem, s0, s1]) rfl ⟨rfl, hgS⟩
set_option maxHeartbeats 1000000 in
theorem rget_yes (w : World) (base g M v : Nat) (dl : List DV) (d : DV) (h : DocR w base g M dl) (hp : 0 < dl.length) (hv : firstOf dl.length ≤ v) (hv2 : v ≤ dl.length) (hd : dl[v - 1]? = some d) :
    Calls Try.prog 20 #[.pointer (some ⟨g, 0, none⟩), .int .i64 (v : Int)] w fun e w' => ∃ A' c', e = .returned (.tuple #[.agg #[.slice A' d.L.length c', .int .i64 d.x], .int .i64 0]) ∧ Own w' w.heap.size 59 51 A' d.L.length c' d.L.flatten ∧ w.grownBy w' none := by
  have hg0 := World.grownBy_alloc w (.cells #[.slice none 0 0, .int .i64 0] 24) none
  have b := Two.new w 24 (.slice none 0 0) (.int .i64 0)
  have hA := h.grown0 hg0
  have CF := Lib.hid (rfirst_any _ base g M dl hA hp)
  have CL := Lib.hid (rlast_any _ base g M dl hA)
  obtain ⟨_, hl, hdl, A, c, h4, h5, _⟩ := hA
  have hdm := hdl d (List.mem_of_getElem? hd)
  have CC := Lib.hid (copy_any d.A d.L.length d.c d.L d.x _ _ hdm.1.1 rfl hdm.2.reads hdm.1.2)
  have hv1 : 1 ≤ v := by have : firstOf dl.length = max 1 (dl.length - 3) := if_neg (by omega); omega
  obtain ⟨r, rfl, _, _, _, hcr⟩ := h5.cells_ (by rw [rowV_len]; omega)
  obtain ⟨x0, x1⟩ := rowV_get dl (v - 1) d hd
  have y0 := (hcr ((v - 1) * 2) (by rw [rowV_len]; omega)).trans x0
  have y1 := (hcr ((v - 1) * 2 + 1) (by rw [rowV_len]; omega)).trans x1
  have cg := h4.at 0
  simp only [List.getElem?_toArray, List.getElem?_cons_zero] at cg
  have c0 := b.c0
  have c1 := b.c1
  clear h hcr x0 x1 h4 h5 hdl hdm hd
  have hi1 : (0 : Int) ≤ (v : Int) - 1 := by omega
  have hi2 : (v : Int) - 1 < (dl.length : Int) := by omega
  have hi3 : ((v : Int) - 1).toNat = v - 1 := by omega
  have d0 : decide (v < firstOf dl.length) = false := decide_eq_false (by omega)
  have d1 : decide (dl.length < v) = false := decide_eq_false (by omega)
  obtain ⟨dA, dc, dL, dx⟩ := d
  dsimp only at *
  generalize firstOf dl.length = fo at *
  generalize dl.length = n at *
  generalize hW : w.alloc (.cells #[.slice none 0 0, .int .i64 0] 24) = W at *
  have hW' := Lib.hid hW
  clear hW
  have bW := b
  go_enter Try.func20, Try.ntmps20
  go_wp2_with fail
  rw [hW'.out]
  refine CF.out.mono ?_; rintro e w1 ⟨rfl, rfl⟩
  go_wp2_with fail
  refine CL.out.mono ?_; rintro e w1 ⟨rfl, rfl⟩
  go_wp2_with fail
  refine CC.out.mono ?_; rintro e w2 ⟨A', c', rfl, hown, hg2⟩
  have b2 := bW.kept hg2 (by simp)
  have e0 := b2.c0
  have e1 := b2.c1
  have f0 := b2.f 0
  have f1 := b2.f 1
  clear c0 c1 y0 y1 cg b bW
  go_wp2_with fail
  have f2 := (b2.s0 (.slice A' dL.length c')).s1 (.int .i64 dx)
  have s0 := f2.c0
  have s1 := f2.c1
  have hgF := grown_put (grown_put (grown_trans hg0 hg2) (Nat.le_refl _) 0 (.slice A' dL.length c')) (Nat.le_refl _) 1 (.int .i64 dx)
  have hoF := (hown.kept_ (grownBy_setCell _ w.heap.size 0 (.slice A' dL.length c')) (b := w.heap.size) b2 (by decide)).kept_ (grownBy_setCell _ w.heap.size 1 (.int .i64 dx)) (b := w.heap.size) (b2.s0 (.slice A' dL.length c')) (by decide)
  generalize (w2.setCell ⟨w.heap.size, 0, none⟩ (.slice A' dL.length c')).setCell ⟨w.heap.size, 1, none⟩ (.int .i64 dx) = w5 at *
  exact bodyPost_ret (v := .tuple #[.agg #[.slice A' dL.length c', .int .i64 dx], .int .i64 0]) (by simp [results, Try.results20, go_sem, s0, s1]) rfl ⟨A', c', rfl, hoF.base_ hg0.size, hgF⟩
set_option maxHeartbeats 1000000 in
theorem rnew_any (A : Option Addr) (n c : Nat) (L : List (List Value)) (x : Int) (w : World) (hL : ∀ y ∈ L, OkAll nodeLs y) (hl : L.length = n) (hn : n ≤ 100000) (hr : Reads w w.heap.size A L.flatten) :
    Calls Try.prog 16 #[.agg #[.slice A n c, .int .i64 x]] w fun e w' => ∃ g d, e = .returned (.pointer (some ⟨g, 0, none⟩)) ∧ d.it = (L, x) ∧ DocR w' w.heap.size g w'.heap.size [d] ∧ w.grownBy w' none := by
  have hg0 := World.grownBy_alloc w (.cells #[.slice A n c, .int .i64 x] 24) none
  have b := Two.new w 24 (.slice A n c) (.int .i64 x)
  have CC := Lib.hid (copy_any A n c L x (w.alloc (.cells #[.slice A n c, .int .i64 x] 24)) _ hL hl (hr.grown0 hg0) hn)
  have c0 := b.c0
  have c1 := b.c1
  have hl' := Lib.hid hl
  have hL' := Lib.hid hL
  clear b hr hl hL
  go_enter Try.func16, Try.ntmps16
  go_wp2_with fail
  refine CC.out.mono ?_; rintro e w2 ⟨A', c', rfl, hown, hg2⟩
  clear c0 c1
  go_wp2_with fail
  have ha := World.grownBy_alloc w2 (.cells #[.slice A' n c', .int .i64 x] 24) none
  have hb := World.grownBy_alloc (w2.alloc (.cells #[.slice A' n c', .int .i64 x] 24)) (.cells #[.slice (some ⟨w2.heap.size, 0, none⟩) 1 1] 63) none
  have rA := heap_alloc_new w2 (.cells #[.slice A' n c', .int .i64 x] 24)
  have rB := heap_alloc_new (w2.alloc (.cells #[.slice A' n c', .int .i64 x] 24)) (.cells #[.slice (some ⟨w2.heap.size, 0, none⟩) 1 1] 63)
  rw [World.size_alloc] at rB
  have rA2 := (hb.block w2.heap.size (by simp) (by simp)).trans rA
  have hs := hg2.size
  rw [World.size_alloc] at hs
  go_ret
  have hll := hl'.out
  refine ⟨_, ⟨A', c', L, x⟩, rfl, rfl, ⟨⟨?_, by simp, Nat.le_refl _⟩, by simp, fun d hd => ?_, some ⟨w2.heap.size, 0, none⟩, 1, rB, ⟨by rw [rowV_len], by simp, by unfold maxLen; omega, .inr ⟨_, _, rfl, by omega, rA2, by simp, ?_⟩⟩, fun r hr => ?_⟩, grown_trans (grown_trans hg0 hg2) (grown_trans ha hb)⟩
  · omega
  · rw [List.mem_singleton.1 hd]
    refine ⟨⟨hL'.out, by rw [hll]; exact hn⟩, ?_⟩
    show Own _ _ _ _ A' L.length c' L.flatten
    rw [hll]
    exact ((hown.grown0 ha).grown0 hb).base_ (by simp)
  · subst hll
    rfl
  · simp [rowOf] at hr
    subst hr
    simp only [World.size_alloc]
    omega
end Go.Proofs.Ytkailfigoogfeaa
