/- The document's ring: Push. -/
import Derived.Test.YtkailfigoogfeaaRe
import Derived.Deep.RegionHeld3
namespace Go.Proofs.Ytkailfigoogfeaa
open Go Go.RowKit
/-- What the operations of Push's first region yield. -/
def PT (b0 : Nat) (A0 : Option Addr) (n0 c0 : Nat) (A : Option Addr) (n c : Nat) (x : Int) (xs : List Value) : Nat → Value → Nat → Nat → World → Prop
  | 4, v, _, _, _ => v = .slice A0 n0 c0
  | 5, v, _, _, _ => v = .agg #[.slice A n c, .int .i64 x]
  | 6, v, _, _, w => ∃ A' c', v = .agg #[.slice A' n c', .int .i64 x] ∧ Own w b0 59 51 A' n c' xs
  | 7, v, lo, hi, w => ∃ A' c', v = .slice (some ⟨lo, 0, none⟩) 1 1 ∧ hi = lo + 1 ∧ Row w lo 24 #[.slice A' n c', .int .i64 x] ∧ Own w b0 59 51 A' n c' xs
  | _, _, _, _, _ => True
theorem PT.mono (b0 : Nat) (A0 : Option Addr) (n0 c0 : Nat) (A : Option Addr) (n c : Nat) (x : Int) (xs : List Value) : ∀ i v lo hi w w', PT b0 A0 n0 c0 A n c x xs i v lo hi w → w.grownBy w' none → PT b0 A0 n0 c0 A n c x xs i v lo hi w'
  | 4, _, _, _, _, _, h, _ => h
  | 5, _, _, _, _, _, h, _ => h
  | 6, _, _, _, _, _, ⟨A', c', h1, h2⟩, hg => ⟨A', c', h1, h2.grown0 hg⟩
  | 7, _, _, _, _, _, ⟨A', c', h1, h2, h3, h4⟩, hg => ⟨A', c', h1, h2, h3.kept0 hg, h4.grown0 hg⟩
  | 0, _, _, _, _, _, _, _ => trivial
  | 1, _, _, _, _, _, _, _ => trivial
  | 2, _, _, _, _, _, _, _ => trivial
  | 3, _, _, _, _, _, _, _ => trivial
  | _ + 8, _, _, _, _, _, _, _ => trivial
set_option maxRecDepth 100000 in
set_option maxHeartbeats 2000000 in
theorem rpush_any (w : World) (base g M : Nat) (dl : List DV) (A : Option Addr) (n c : Nat) (L : List (List Value)) (x : Int) (B : Nat) (h : DocR w base g M dl) (hn : dl.length < 100) (hL : ∀ y ∈ L, OkAll nodeLs y) (hl : L.length = n) (hnn : n ≤ 100000) (hr : Reads w B A L.flatten) :
    Calls Try.prog 17 #[.pointer (some ⟨g, 0, none⟩), .agg #[.slice A n c, .int .i64 x]] w fun e w' => ∃ d, e = .returned (.int .i64 ((dl.length : Int) + 1)) ∧ d.it = (L, x) ∧ DocR w' base g w'.heap.size (dl ++ [d]) ∧ Past base M w w' := by
  have hg0 := World.grownBy_alloc w (.cells #[.slice A n c, .int .i64 x] 24) none
  have b3 := Row.new w 24 #[.slice A n c, .int .i64 x]
  have CO := Lib.hid (fun W (hg : w.grownBy W none) => copy_any A n c L x W B hL hl (hr.grown0 hg) hnn)
  obtain ⟨A0, c0, h0, hR, hM⟩ := h.2.2.2
  have h0A := h0.kept0 hg0
  have hh := Lib.hid h
  have hh0 := Lib.hid h0
  have hhR := Lib.hid hR
  have hhM := Lib.hid hM
  have hsz := World.size_alloc w (.cells #[.slice A n c, .int .i64 x] 24)
  have hlh := Lib.hid hl
  have hLh := Lib.hid hL
  have hbg : base ≤ w.heap.size := by have := h.1; omega
  clear h h0 hR hM hr hl hL
  have hfx := Lib.hid (show L.flatten = L.flatten from rfl)
  go_enter Try.func17, Try.ntmps17
  go_wp2_with fail
  generalize hW : w.alloc (.cells #[.slice A n c, .int .i64 x] 24) = W0 at *
  clear hW
  refine wp_region_held (S := fun _ => True) (by kernel_rfl) ?_
  refine wpAnyH_take (i := 0) (v := .pointer (some ⟨g, 0, none⟩)) rfl (by kernel_rfl) (by kernel_rfl) (by kernel_rfl) (fun _ _ _ h => h) (Or.inl ⟨by kernel_rfl, fun V _ => by kernel_rfl⟩) trivial ?_
  simp only [Act.put, List.getElem_toArray, List.getElem_cons_succ, List.getElem_cons_zero, List.setIfInBounds_toArray, List.set_cons_zero, List.set_cons_succ]
  refine wpAnyH_take (i := 1) (v := .pointer (some ⟨g, 0, none⟩)) rfl (by kernel_rfl) (by kernel_rfl) (by kernel_rfl) (fun _ _ _ h => h) (Or.inl ⟨by kernel_rfl, fun V _ => by kernel_rfl⟩) trivial ?_
  simp only [Act.put, List.getElem_toArray, List.getElem_cons_succ, List.getElem_cons_zero, List.setIfInBounds_toArray, List.set_cons_zero, List.set_cons_succ]
  refine wpAnyH_take (i := 2) (v := .pointer (some ⟨g, 0, none⟩)) rfl (by kernel_rfl) (by kernel_rfl) (by kernel_rfl) (fun _ _ _ h => h) (Or.inl ⟨by kernel_rfl, fun V _ => by kernel_rfl⟩) trivial ?_
  simp only [Act.put, List.getElem_toArray, List.getElem_cons_succ, List.getElem_cons_zero, List.setIfInBounds_toArray, List.set_cons_zero, List.set_cons_succ]
  refine wpAnyH_take (i := 3) (v := .pointer (some ⟨g, 0, none⟩)) rfl (by kernel_rfl) (by kernel_rfl) (by kernel_rfl) (fun _ _ _ h => h) (Or.inl ⟨by kernel_rfl, fun V _ => by kernel_rfl⟩) trivial ?_
  simp only [Act.put, List.getElem_toArray, List.getElem_cons_succ, List.getElem_cons_zero, List.setIfInBounds_toArray, List.set_cons_zero, List.set_cons_succ]
  refine Grow.wpAnyH_from (w0 := W0.drew) [0, 1, 2, 3] [4, 5, 6, 7] #[true, true, true, true, true, true, true, true, false, false, false, false] [(some 9, 4), (some 10, 5), (some 11, 6), (some 12, 7)] 4 (PT w.heap.size A0 dl.length c0 A n c x L.flatten) (by kernel_rfl) (by kernel_rfl) (by kernel_rfl) (by decide) (by kernel_rfl) (by kernel_rfl) (by kernel_rfl) (fun _ _ => trivial) (PT.mono _ _ _ _ _ _ _ _ _) ?_ ?_
  · refine Grow.StepsD.cons [] [] rfl (by kernel_rfl) (by kernel_rfl) (fun vs lo up W hg hT K hK => ?_) ?_
    · have hgW := grown_undrew hg
      have e1 : W.cell? ⟨g, 0, none⟩ = some (.slice A0 dl.length c0) := (h0A.kept0 hgW).at 0
      simp only [Grow.putL] at hK ⊢
      go_simp
      exact hK _ _ (World.grownBy.refl _ _) rfl
    refine Grow.StepsD.cons [] [] rfl (by kernel_rfl) (by kernel_rfl) (fun vs lo up W hg hT K hK => ?_) ?_
    · have hgW := grown_undrew hg
      have e0 := (b3.kept0 hgW).two.1
      have e1 := (b3.kept0 hgW).two.2
      simp only [Grow.putL] at hK ⊢
      go_simp
      exact hK _ _ (World.grownBy.refl _ _) rfl
    refine Grow.StepsD.cons [5] [(some 10, 5)] rfl (by kernel_rfl) (by kernel_rfl) (fun vs lo up W hg hT K hK => ?_) ?_
    · have hgW := grown_trans hg0 (grown_undrew hg)
      have t5 : vs 5 = .agg #[.slice A n c, .int .i64 x] := hT
      simp only [Grow.putL, t5] at hK ⊢
      go_simp
      refine (CO.out _ hgW).mono ?_; rintro e V ⟨A', c', rfl, hown, hgx⟩
      exact hK _ _ hgx ⟨A', c', rfl, hown.base_ hgW.size⟩
    refine Grow.StepsD.cons [6] [(some 11, 6)] rfl (by kernel_rfl) (by kernel_rfl) (fun vs lo up W hg hT K hK => ?_) Grow.StepsD.nil
    · obtain ⟨A', c', t6, hown⟩ := hT
      simp only [Grow.putL, t6] at hK ⊢
      go_simp
      exact hK _ _ (World.grownBy_alloc _ _ _) ⟨A', c', rfl, World.size_alloc _ _, Row.new _ _ _, hown.alloc _⟩
  intro vs lo up V hgV hT hbb hap
  have hgW := grown_undrew hgV
  have hgwV := grown_trans hg0 hgW
  obtain ⟨t4, t5, ⟨A6, c6, t6, o6⟩, A', c', t7, u7, r7, o7⟩ := hT
  have q4 : vs 4 = .slice A0 dl.length c0 := t4
  have q5 : vs 5 = .agg #[.slice A n c, .int .i64 x] := t5
  simp only [Grow.putL, q4, q5, t6, t7, Act.put, List.getElem_toArray, List.getElem_cons_succ, List.getElem_cons_zero, List.setIfInBounds_toArray, List.set_cons_zero, List.set_cons_succ]
  clear hbb hap q4 q5 t4 t5 t6 t7 o6 u7 hgV
  generalize lo 7 = g7 at *
  obtain ⟨i0, hi0, hz0, hz1, hz2⟩ := info_parts infoD
  have hRV := (hhR.out.grown0 hgwV)
  have h0V := hh0.out.kept0 hgwV
  refine wpAnyH_append 8 (.tmp 9) (.tmp 12) 39 13 (by kernel_rfl) (by kernel_rfl) base 24 i0 _ 2 32 Try.underlying39 hi0 hz0 hz1 hz2 rfl (by omega) A0 dl.length c0 (rowV dl) (by kernel_rfl) hRV (some ⟨g7, 0, none⟩) 1 1 _ [.slice A' n c', .int .i64 x] (by kernel_rfl) rfl r7.reads2 (by simp [Value.oneCell']) (by unfold maxLen; omega) (by omega) (Nat.le_trans hbg hgwV.size) (fun _ => trivial) ?_
  intro A1 c1 w8 h1 hg8 hA
  simp only [Act.put, List.getElem_toArray, List.getElem_cons_succ, List.getElem_cons_zero, List.setIfInBounds_toArray, List.set_cons_zero, List.set_cons_succ]
  refine wpAnyH_take (i := 9) (v := .pointer (some ⟨g, 0, none⟩)) rfl (by kernel_rfl) (by kernel_rfl) (by kernel_rfl) (fun _ _ _ h => h) (Or.inl ⟨by kernel_rfl, fun V _ => by kernel_rfl⟩) trivial ?_
  simp only [Act.put, List.getElem_toArray, List.getElem_cons_succ, List.getElem_cons_zero, List.setIfInBounds_toArray, List.set_cons_zero, List.set_cons_succ]
  refine wpAnyH_take (i := 10) (v := .pointer (some ⟨g, 0, none⟩)) rfl (by kernel_rfl) (by kernel_rfl) (by kernel_rfl) (fun _ _ _ h => h) (Or.inl ⟨by kernel_rfl, fun V _ => by kernel_rfl⟩) trivial ?_
  simp only [Act.put, List.getElem_toArray, List.getElem_cons_succ, List.getElem_cons_zero, List.setIfInBounds_toArray, List.set_cons_zero, List.set_cons_succ]
  have h08 := heap_kept_row h0V hRV (by decide) hg8
  have e1 : w8.cell? ⟨g, 0, none⟩ = some (.slice A0 dl.length c0) := by rw [cell_of_row w8 g 0 _ _ _ h08]; rfl
  have e2 := frozen_of_row w8 g 0 _ _ h08
  have hfin := Lib.hid (hh.out.add hh0.out hhR.out hhM.out hgwV ⟨A', c', L, x⟩ ⟨hLh.out, by simp only [hlh.out]; exact hnn⟩ hn hbg (by simp only [hlh.out]; exact o7) (by simpa [DV.cells, hlh.out] using h1) hg8)
  have r9 := Row.set (show Row w8 g 63 #[.slice A0 dl.length c0] from h08) 0 (.slice A1 (dl.length + 1) c1)
  have e3 : (w8.setCell ⟨g, 0, none⟩ (.slice A1 (dl.length + 1) c1)).cell? ⟨g, 0, none⟩ = some (.slice A1 (dl.length + 1) c1) := by simpa using r9.at 0
  refine wpAnyH_ready (rs := [11]) (by kernel_rfl) (by simp) ?_
  refine AllReadyH.cons rfl (fun K hK => ?_) AllReadyH.nil
  go_simp
  refine hK.out _ _ trivial (fun _ => ?_)
  clear hK K
  refine wpAnyH_done (by kernel_rfl) ?_ _
  generalize w8.setCell ⟨g, 0, none⟩ (.slice A1 (dl.length + 1) c1) = w9 at *
  clear r9 e1 e2 h08
  go_wp2
  go_ret
  exact ⟨⟨A', c', L, x⟩, by go_num, rfl, hfin.out.1, hfin.out.2⟩
end Go.Proofs.Ytkailfigoogfeaa
