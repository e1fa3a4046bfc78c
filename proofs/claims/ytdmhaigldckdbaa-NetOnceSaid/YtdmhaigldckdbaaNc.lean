/- Copy: a flight once more. -/
import Derived.Test.YtdmhaigldckdbaaNe
namespace Go.Proofs.Ytdmhaigldckdbaa
open Go Go.RowKit
def CT (b0 r : Nat) (A0 : Option Addr) (n0 c0 : Nat) (k : Nat) (to : Int) (A : Option Addr) (n c : Nat) (l : List Nat) : Nat → Value → Nat → Nat → World → Prop
  | 4, v, _, _, _ => v = .slice A0 n0 c0
  | 8, v, _, _, _ => v = .slice A0 n0 c0
  | 10, v, _, _, _ => v = .pointer (some ⟨r, k * 2, none⟩)
  | 11, v, _, _, _ => v = .pointer (some ⟨r, k * 2, none⟩)
  | 12, v, _, _, _ => v = .agg #[.int .i64 to, .slice A n c]
  | 13, v, _, _, w => ∃ A' c', v = .agg #[.int .i64 to, .slice A' n c'] ∧ Own w b0 5 1 A' n c' (l.map byte)
  | 14, v, lo, hi, w => ∃ A' c', v = .slice (some ⟨lo, 0, none⟩) 1 1 ∧ hi = lo + 1 ∧ Row w lo 33 #[.int .i64 to, .slice A' n c'] ∧ Own w b0 5 1 A' n c' (l.map byte)
  | _, _, _, _, _ => True
theorem CT.mono (b0 r : Nat) (A0 : Option Addr) (n0 c0 : Nat) (k : Nat) (to : Int) (A : Option Addr) (n c : Nat) (l : List Nat) : ∀ i v lo hi w w', CT b0 r A0 n0 c0 k to A n c l i v lo hi w → w.grownBy w' none → CT b0 r A0 n0 c0 k to A n c l i v lo hi w' := by
  intro i v lo hi w w' h hg
  unfold CT at *
  split at h
  all_goals first
    | exact h
    | (obtain ⟨A', c', h1, h2⟩ := h; exact ⟨A', c', h1, h2.grown0 hg⟩)
    | (obtain ⟨A', c', h1, h2, h3, h4⟩ := h; exact ⟨A', c', h1, h2, h3.kept0 hg, h4.grown0 hg⟩)
theorem copy_empty (w : World) (base g : Nat) (k : Int) (h : NetIs w base g []) :
    Calls Try.prog 13 #[.pointer (some ⟨g, 0, none⟩), .int .i64 k] w fun e w' => e = .returned (.int .i64 300) ∧ w = w' := by
  have CP := Lib.hid (pick_empty w base g k h)
  clear h
  go_enter Try.func13, Try.ntmps13
  go_wp2_with fail
  refine CP.out.mono ?_; rintro e w1 ⟨rfl, rfl⟩
  go_wp2
  go_ret
  exact ⟨rfl, rfl⟩
theorem copy_full (w : World) (base g : Nat) (fl : List Flt) (k : Int) (h : NetIs w base g fl) (hl : fl.length = 64) :
    Calls Try.prog 13 #[.pointer (some ⟨g, 0, none⟩), .int .i64 k] w fun e w' => e = .returned (.int .i64 4) ∧ w = w' := by
  have CP := Lib.hid (pick_net w base g fl k h (by omega))
  have CF := Lib.hid (full_net w base g fl h)
  have hdf : decide (fl.length = 64) = true := by simp [hl]
  rw [hdf] at CF
  clear h hdf hl
  go_enter Try.func13, Try.ntmps13
  go_wp2_with fail
  refine CP.out.mono ?_; rintro e w1 ⟨rfl, rfl⟩
  go_wp2_with fail
  refine CF.out.mono ?_; rintro e w1 ⟨rfl, rfl⟩
  go_wp2
  go_ret
  exact ⟨rfl, rfl⟩
set_option maxRecDepth 100000 in
set_option maxHeartbeats 2000000 in
theorem copy_ok (w : World) (base g : Nat) (fl : List Flt) (k : Int) (h : NetIs w base g fl) (hn : fl.length < 64) (hp : 0 < fl.length) (x : Flt) (hx : fl[place k fl.length]? = some x) :
    Calls Try.prog 13 #[.pointer (some ⟨g, 0, none⟩), .int .i64 k] w fun e w' => e = .returned (.int .i64 0) ∧ ∃ f, f.it = x.it ∧ Step w w' base g fl (fl ++ [f]) := by
  have CP := Lib.hid (pick_net w base g fl k h hp)
  have CF := Lib.hid (full_net w base g fl h)
  have hdf : decide (fl.length = 64) = false := by simp; omega
  rw [hdf] at CF
  have hxm : x ∈ fl := List.mem_of_getElem? hx
  obtain ⟨hxo, hxr⟩ := h.2.2.1.1 x hxm
  have hxl := hxo.1
  have CO := Lib.hid (fun W (hg : w.grownBy W none) => own_flight x.to x.A x.bs.length x.cap x.bs W w.heap.size rfl (hxr.reads.grown0 hg) (by omega))
  obtain ⟨A0, c0, h0, hR⟩ := h.2.2.2
  have hpl : place k fl.length < fl.length := place_lt k hp
  obtain ⟨r, rfl, _, _, _, hcr⟩ := hR.cells_ (by rw [rowF_len]; omega)
  obtain ⟨x0, x1⟩ := rowF_get fl _ x hx
  have y0 := (hcr (place k fl.length * 2) (by rw [rowF_len]; omega)).trans x0
  have y1 := (hcr (place k fl.length * 2 + 1) (by rw [rowF_len]; omega)).trans x1
  have CA := Lib.hid (fun W => at_any W (some ⟨r, 0, none⟩) fl.length c0 (place k fl.length) r rfl hpl (by omega))
  have hh := Lib.hid h
  have hh0 := Lib.hid h0
  have hhR := Lib.hid hR
  have hxo' := Lib.hid hxo
  have e1 : w.cell? ⟨g, 1, none⟩ = some (.slice (some ⟨r, 0, none⟩) fl.length c0) := by rw [cell_of_row w g 1 _ _ _ h0]; rfl
  clear hdf h h0 hR hcr x0 x1 hx hxm hxo hxr
  generalize place k fl.length = p at *
  go_enter Try.func13, Try.ntmps13
  go_wp2_with fail
  refine CP.out.mono ?_; rintro e w1 ⟨rfl, rfl⟩
  go_wp2_with fail
  refine CF.out.mono ?_; rintro e w1 ⟨rfl, rfl⟩
  go_wp2_with fail
  refine wp_region_held (S := fun _ => True) (by kernel_rfl) ?_
  refine wpAnyH_take (i := 0) (v := .pointer (some ⟨g, 0, none⟩)) rfl (by kernel_rfl) (by kernel_rfl) (by kernel_rfl) (fun _ _ _ h => h) (Or.inl ⟨by kernel_rfl, fun V _ => by kernel_rfl⟩) trivial ?_
  simp only [Act.put, List.getElem_toArray, List.getElem_cons_succ, List.getElem_cons_zero, List.setIfInBounds_toArray, List.set_cons_zero, List.set_cons_succ]
  refine wpAnyH_take (i := 1) (v := .pointer (some ⟨g, 0, none⟩)) rfl (by kernel_rfl) (by kernel_rfl) (by kernel_rfl) (fun _ _ _ h => h) (Or.inl ⟨by kernel_rfl, fun V _ => by kernel_rfl⟩) trivial ?_
  simp only [Act.put, List.getElem_toArray, List.getElem_cons_succ, List.getElem_cons_zero, List.setIfInBounds_toArray, List.set_cons_zero, List.set_cons_succ]
  refine wpAnyH_take (i := 2) (v := .pointer (some ⟨g, 0, none⟩)) rfl (by kernel_rfl) (by kernel_rfl) (by kernel_rfl) (fun _ _ _ h => h) (Or.inl ⟨by kernel_rfl, fun V _ => by kernel_rfl⟩) trivial ?_
  simp only [Act.put, List.getElem_toArray, List.getElem_cons_succ, List.getElem_cons_zero, List.setIfInBounds_toArray, List.set_cons_zero, List.set_cons_succ]
  refine wpAnyH_take (i := 3) (v := .pointer (some ⟨g, 1, none⟩)) rfl (by kernel_rfl) (by kernel_rfl) (by kernel_rfl) (fun _ _ _ h => h) (Or.inl ⟨by kernel_rfl, fun V _ => by kernel_rfl⟩) trivial ?_
  simp only [Act.put, List.getElem_toArray, List.getElem_cons_succ, List.getElem_cons_zero, List.setIfInBounds_toArray, List.set_cons_zero, List.set_cons_succ]
  refine wpAnyH_take (i := 5) (v := .pointer (some ⟨g, 0, none⟩)) rfl (by kernel_rfl) (by kernel_rfl) (by kernel_rfl) (fun _ _ _ h => h) (Or.inl ⟨by kernel_rfl, fun V _ => by kernel_rfl⟩) trivial ?_
  simp only [Act.put, List.getElem_toArray, List.getElem_cons_succ, List.getElem_cons_zero, List.setIfInBounds_toArray, List.set_cons_zero, List.set_cons_succ]
  refine wpAnyH_take (i := 6) (v := .pointer (some ⟨g, 0, none⟩)) rfl (by kernel_rfl) (by kernel_rfl) (by kernel_rfl) (fun _ _ _ h => h) (Or.inl ⟨by kernel_rfl, fun V _ => by kernel_rfl⟩) trivial ?_
  simp only [Act.put, List.getElem_toArray, List.getElem_cons_succ, List.getElem_cons_zero, List.setIfInBounds_toArray, List.set_cons_zero, List.set_cons_succ]
  refine wpAnyH_take (i := 7) (v := .pointer (some ⟨g, 1, none⟩)) rfl (by kernel_rfl) (by kernel_rfl) (by kernel_rfl) (fun _ _ _ h => h) (Or.inl ⟨by kernel_rfl, fun V _ => by kernel_rfl⟩) trivial ?_
  simp only [Act.put, List.getElem_toArray, List.getElem_cons_succ, List.getElem_cons_zero, List.setIfInBounds_toArray, List.set_cons_zero, List.set_cons_succ]
  refine wpAnyH_take (i := 9) (v := .int .i64 (p : Int)) rfl (by kernel_rfl) (by kernel_rfl) (by kernel_rfl) (fun _ _ _ h => h) (Or.inl ⟨by kernel_rfl, fun V _ => by kernel_rfl⟩) trivial ?_
  simp only [Act.put, List.getElem_toArray, List.getElem_cons_succ, List.getElem_cons_zero, List.setIfInBounds_toArray, List.set_cons_zero, List.set_cons_succ]
  refine Grow.wpAnyH_from (w0 := w.drew) [0, 1, 2, 3, 5, 6, 7, 9] [4, 8, 10, 11, 12, 13, 14] #[true, true, true, true, true, true, true, true, true, true, true, true, true, true, true, false, false, false, false] [(some 24, 4), (some 28, 8), (some 30, 10), (some 31, 11), (some 32, 12), (some 33, 13), (some 34, 14)] 4 (CT w.heap.size r (some ⟨r, 0, none⟩) fl.length c0 p x.to x.A x.bs.length x.cap x.bs) (by kernel_rfl) (by kernel_rfl) (by kernel_rfl) (by decide) (by kernel_rfl) (by kernel_rfl) (by kernel_rfl) (fun _ _ => trivial) (CT.mono _ _ _ _ _ _ _ _ _ _ _) ?_ ?_
  · refine Grow.StepsD.cons [] [] rfl (by kernel_rfl) (by kernel_rfl) (fun vs lo up W hg hT K hK => ?_) ?_
    · have hgW := grown_undrew hg
      have e2 : W.cell? ⟨g, 1, none⟩ = some (.slice (some ⟨r, 0, none⟩) fl.length c0) := hgW.cell e1 (by simp)
      simp only [Grow.putL] at hK ⊢
      go_simp
      exact hK _ _ (World.grownBy.refl _ _) rfl
    refine Grow.StepsD.cons [] [] rfl (by kernel_rfl) (by kernel_rfl) (fun vs lo up W hg hT K hK => ?_) ?_
    · have hgW := grown_undrew hg
      have e2 : W.cell? ⟨g, 1, none⟩ = some (.slice (some ⟨r, 0, none⟩) fl.length c0) := hgW.cell e1 (by simp)
      simp only [Grow.putL] at hK ⊢
      go_simp
      exact hK _ _ (World.grownBy.refl _ _) rfl
    refine Grow.StepsD.cons [8] [(some 28, 8)] rfl (by kernel_rfl) (by kernel_rfl) (fun vs lo up W hg hT K hK => ?_) ?_
    · have t8 : vs 8 = .slice (some ⟨r, 0, none⟩) fl.length c0 := hT
      simp only [Grow.putL, t8] at hK ⊢
      go_simp
      refine (CA.out _).mono ?_; rintro e V ⟨rfl, rfl⟩
      exact hK _ _ (World.grownBy.refl _ _) rfl
    refine Grow.StepsD.cons [10] [(some 30, 10)] rfl (by kernel_rfl) (by kernel_rfl) (fun vs lo up W hg hT K hK => ?_) ?_
    · have t8 : vs 10 = .pointer (some ⟨r, p * 2, none⟩) := hT
      simp only [Grow.putL, t8] at hK ⊢
      go_simp
      exact hK _ _ (World.grownBy.refl _ _) rfl
    refine Grow.StepsD.cons [11] [(some 31, 11)] rfl (by kernel_rfl) (by kernel_rfl) (fun vs lo up W hg hT K hK => ?_) ?_
    · have t8 : vs 11 = .pointer (some ⟨r, p * 2, none⟩) := hT
      have hgW := grown_undrew hg
      have z0 := hgW.cell y0 (by simp)
      have z1 := hgW.cell y1 (by simp)
      simp only [Grow.putL, t8] at hK ⊢
      go_simp
      exact hK _ _ (World.grownBy.refl _ _) rfl
    refine Grow.StepsD.cons [12, 10] [(some 30, 10), (some 32, 12)] rfl (by kernel_rfl) (by kernel_rfl) (fun vs lo up W hg hT K hK => ?_) ?_
    · have hgW := grown_undrew hg
      have t8 : vs 12 = .agg #[.int .i64 x.to, .slice x.A x.bs.length x.cap] := hT.1
      have t9 : vs 10 = .pointer (some ⟨r, p * 2, none⟩) := hT.2
      simp only [Grow.putL, t8, t9] at hK ⊢
      go_simp
      refine (CO.out _ hgW).mono ?_; rintro e V ⟨A', c', rfl, hown, hgx⟩
      exact hK _ _ hgx ⟨A', c', rfl, hown.base_ hgW.size⟩
    refine Grow.StepsD.cons [13] [(some 33, 13)] rfl (by kernel_rfl) (by kernel_rfl) (fun vs lo up W hg hT K hK => ?_) Grow.StepsD.nil
    · obtain ⟨A', c', t6, hown⟩ := hT
      simp only [Grow.putL, t6] at hK ⊢
      go_simp
      exact hK _ _ (World.grownBy_alloc _ _ _) ⟨A', c', rfl, World.size_alloc _ _, Row.new _ _ _, hown.alloc _⟩
  intro vs lo up V hgV hT hbb hap
  have hgwV := grown_undrew hgV
  obtain ⟨t4, t8, t10, t11, t12, ⟨A6, c6, t6, o6⟩, A', c', t7, u7, r7, o7⟩ := hT
  have q4 : vs 4 = .slice (some ⟨r, 0, none⟩) fl.length c0 := t4
  have q8 : vs 8 = .slice (some ⟨r, 0, none⟩) fl.length c0 := t8
  have q10 : vs 10 = .pointer (some ⟨r, p * 2, none⟩) := t10
  have q11 : vs 11 = .pointer (some ⟨r, p * 2, none⟩) := t11
  have q12 : vs 12 = .agg #[.int .i64 x.to, .slice x.A x.bs.length x.cap] := t12
  simp only [Grow.putL, q4, q8, q10, q11, q12, t6, t7, Act.put, List.getElem_toArray, List.getElem_cons_succ, List.getElem_cons_zero, List.setIfInBounds_toArray, List.set_cons_zero, List.set_cons_succ]
  clear hbb hap q4 q8 q10 q11 q12 t4 t8 t10 t11 t12 t6 t7 o6 u7 hgV
  generalize lo 14 = g7 at *
  obtain ⟨i0, hi0, hz0, hz1, hz2⟩ := info_parts infoF
  have hRV := (hhR.out.grown0 hgwV)
  have h0V : V.heap[g]? = some (.cells #[.bool true, .slice (some ⟨r, 0, none⟩) fl.length c0] 45 (0, 0)) := (hgwV.block g (Array.getElem?_eq_some_iff.1 hh0.out).1 (by simp)).trans hh0.out
  refine wpAnyH_append 15 (.tmp 24) (.tmp 34) 43 35 (by kernel_rfl) (by kernel_rfl) base 33 i0 _ 2 32 Try.underlying43 hi0 hz0 hz1 hz2 rfl (by omega) (some ⟨r, 0, none⟩) fl.length c0 (rowF fl) (by kernel_rfl) hRV (some ⟨g7, 0, none⟩) 1 1 _ [.int .i64 x.to, .slice A' x.bs.length c'] (by kernel_rfl) rfl r7.reads2 (by simp [Value.oneCell']) (by unfold maxLen; omega) (by omega) (Nat.le_trans (Nat.le_trans hh.out.1 (Nat.le_of_lt hh.out.lt)) hgwV.size) (fun _ => trivial) ?_
  intro A1 c1 w8 h1 hg8 hA
  simp only [Act.put, List.setIfInBounds_toArray, List.set_cons_zero, List.set_cons_succ]
  refine wpAnyH_take (i := 16) (v := .pointer (some ⟨g, 0, none⟩)) rfl (by kernel_rfl) (by kernel_rfl) (by kernel_rfl) (fun _ _ _ h => h) (Or.inl ⟨by kernel_rfl, fun V _ => by kernel_rfl⟩) trivial ?_
  simp only [Act.put, List.getElem_toArray, List.getElem_cons_succ, List.getElem_cons_zero, List.setIfInBounds_toArray, List.set_cons_zero, List.set_cons_succ]
  refine wpAnyH_take (i := 17) (v := .pointer (some ⟨g, 1, none⟩)) rfl (by kernel_rfl) (by kernel_rfl) (by kernel_rfl) (fun _ _ _ h => h) (Or.inl ⟨by kernel_rfl, fun V _ => by kernel_rfl⟩) trivial ?_
  simp only [Act.put, List.getElem_toArray, List.getElem_cons_succ, List.getElem_cons_zero, List.setIfInBounds_toArray, List.set_cons_zero, List.set_cons_succ]
  have h08 := heap_kept_row h0V hRV (by decide) hg8
  have e3 : w8.cell? ⟨g, 1, none⟩ = some (.slice (some ⟨r, 0, none⟩) fl.length c0) := by rw [cell_of_row w8 g 1 _ _ _ h08]; rfl
  have e2 := frozen_of_row w8 g 1 _ _ h08
  refine wpAnyH_ready (rs := [18]) (by kernel_rfl) (by simp) ?_
  refine AllReadyH.cons rfl (fun K hK => ?_) AllReadyH.nil
  go_simp
  refine hK.out _ _ trivial (fun _ => ?_)
  clear hK K
  refine wpAnyH_done (by kernel_rfl) ?_ _
  go_wp2
  go_ret
  refine ⟨rfl, ⟨x.to, A', c', x.bs⟩, rfl, ?_⟩
  exact hh.out.add hh0.out hhR.out hgwV ⟨x.to, A', c', x.bs⟩ hxo'.out hn (Nat.le_refl _) o7 (by simpa [Flt.cells] using h1) hg8 hA
end Go.Proofs.Ytdmhaigldckdbaa
