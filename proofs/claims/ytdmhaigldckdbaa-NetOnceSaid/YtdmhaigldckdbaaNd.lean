/- Send. -/
import Derived.Test.YtdmhaigldckdbaaNs
import Derived.KernelRfl
import Derived.Deep.RegionHeld3
namespace Go.Proofs.Ytdmhaigldckdbaa
open Go Go.RowKit
/-- What the operations of Send's last region yield. -/
def ST (b0 : Nat) (A0 : Option Addr) (n0 c0 : Nat) (to : Int) (A : Option Addr) (n c : Nat) (l : List Nat) : Nat → Value → Nat → Nat → World → Prop
  | 4, v, _, _, _ => v = .slice A0 n0 c0
  | 5, v, _, _, _ => v = .agg #[.int .i64 to, .slice A n c]
  | 6, v, _, _, w => ∃ A' c', v = .agg #[.int .i64 to, .slice A' n c'] ∧ Own w b0 5 1 A' n c' (l.map byte)
  | 7, v, lo, hi, w => ∃ A' c', v = .slice (some ⟨lo, 0, none⟩) 1 1 ∧ hi = lo + 1 ∧ Row w lo 33 #[.int .i64 to, .slice A' n c'] ∧ Own w b0 5 1 A' n c' (l.map byte)
  | _, _, _, _, _ => True
theorem ST.mono (b0 : Nat) (A0 : Option Addr) (n0 c0 : Nat) (to : Int) (A : Option Addr) (n c : Nat) (l : List Nat) : ∀ i v lo hi w w', ST b0 A0 n0 c0 to A n c l i v lo hi w → w.grownBy w' none → ST b0 A0 n0 c0 to A n c l i v lo hi w'
  | 4, _, _, _, _, _, h, _ => h
  | 5, _, _, _, _, _, h, _ => h
  | 6, _, _, _, _, _, ⟨A', c', h1, h2⟩, hg => ⟨A', c', h1, h2.grown0 hg⟩
  | 7, _, _, _, _, _, ⟨A', c', h1, h2, h3, h4⟩, hg => ⟨A', c', h1, h2, h3.kept0 hg, h4.grown0 hg⟩
  | 0, _, _, _, _, _, _, _ => trivial
  | 1, _, _, _, _, _, _, _ => trivial
  | 2, _, _, _, _, _, _, _ => trivial
  | 3, _, _, _, _, _, _, _ => trivial
  | _ + 8, _, _, _, _, _, _, _ => trivial
theorem grown_undrew {a b : World} (h : a.drew.grownBy b none) : a.grownBy b none := ⟨h.os, h.tape, h.output, h.size, h.block⟩
theorem infoF : (Try.prog.info? 33).map (fun i => (i.zero, i.size, i.bytes)) = some (some (.agg #[.int .i64 0, .slice none 0 0]), 2, 32) := by kernel_rfl
theorem Row.reads2 {w : World} {g : Nat} {T : TypeId} {u v : Value} (h : Row w g T #[u, v]) : Reads w w.heap.size (some ⟨g, 0, none⟩) [u, v] := fun _ => ⟨_, rfl, h.lt, fun j x hx => by
  have hj : j < 2 := (List.getElem?_eq_some_iff.1 hx).1
  have : (⟨g, 0, none⟩ : Addr).add j = ⟨g, j, none⟩ := by unfold Addr.add; split <;> simp_all
  rw [this, h.at j, List.getElem?_toArray, hx]⟩
set_option maxRecDepth 100000 in
set_option maxHeartbeats 2000000 in
/-- Send, of a flight that may fly. -/
theorem send_ok (w : World) (base g : Nat) (fl : List Flt) (to : Int) (A : Option Addr) (n c : Nat) (l : List Nat) (B : Nat) (h : NetIs w base g fl) (hn : fl.length < 64) (ht : -1 ≤ to ∧ to ≤ 5) (hl : l.length = n) (hl8 : n ≤ 128) (hb : Byt l) (hr : Reads w B A (l.map byte)) :
    Calls Try.prog 14 #[.pointer (some ⟨g, 0, none⟩), .agg #[.int .i64 to, .slice A n c]] w fun e w' => e = .returned (.int .i64 0) ∧ ∃ f, f.it = (to, l) ∧ Step w w' base g fl (fl ++ [f]) := by
  have hg0 := World.grownBy_alloc w (.cells #[.int .i64 to, .slice A n c] 33) none
  have b3 := Row.new w 33 #[.int .i64 to, .slice A n c]
  have CN := Lib.hid (fun W (hg : w.grownBy W none) => none_net W base g fl (h.grown0 hg))
  have CF := Lib.hid (fun W (hg : w.grownBy W none) => full_net W base g fl (h.grown0 hg))
  have hdf : decide (fl.length = 64) = false := by simp; omega
  rw [hdf] at CF
  have CO := Lib.hid (fun W (hg : w.grownBy W none) => own_flight to A n c l W B hl (hr.grown0 hg) (by omega))
  obtain ⟨A0, c0, h0, hR⟩ := h.2.2.2
  have h0A : (w.alloc (.cells #[.int .i64 to, .slice A n c] 33)).heap[g]? = some (.cells #[.bool true, .slice A0 fl.length c0] 45 (0, 0)) := by rw [hg0.block g h.lt (by simp)]; exact h0
  have hh := Lib.hid h
  have hh0 := Lib.hid h0
  have hhR := Lib.hid hR
  have hsz := World.size_alloc w (.cells #[.int .i64 to, .slice A n c] 33)
  have hlh := Lib.hid hl
  have k0 := b3.two.1
  have k1 := b3.two.2
  clear hdf h h0 hR hr hl
  generalize hW : w.alloc (.cells #[.int .i64 to, .slice A n c] 33) = W0 at *
  have hW' := Lib.hid hW
  have hd0 : decide (to < -1) = false := by simp; omega
  have hd1 : decide (6 ≤ to) = false := by simp; omega
  have hd2 : decide ((128 : Int) < (n : Int)) = false := by simp; omega
  clear hW
  go_enter Try.func14, Try.ntmps14
  go_wp2_with fail
  rw [hW'.out]
  refine (CN.out _ hg0).mono ?_; rintro e w1 ⟨rfl, rfl⟩
  go_wp2_with fail
  refine (CF.out _ hg0).mono ?_; rintro e w1 ⟨rfl, rfl⟩
  go_wp2_with fail
  refine wp_region_held (S := fun _ => True) (by kernel_rfl) ?_
  refine wpAnyH_take (i := 0) (v := .pointer (some ⟨g, 0, none⟩)) rfl (by kernel_rfl) (by kernel_rfl) (by kernel_rfl) (fun _ _ _ h => h) (Or.inl ⟨by kernel_rfl, fun V _ => by kernel_rfl⟩) trivial ?_
  simp only [Act.put, List.getElem_toArray, List.getElem_cons_succ, List.getElem_cons_zero, List.setIfInBounds_toArray, List.set_cons_zero, List.set_cons_succ]
  refine wpAnyH_take (i := 1) (v := .pointer (some ⟨g, 0, none⟩)) rfl (by kernel_rfl) (by kernel_rfl) (by kernel_rfl) (fun _ _ _ h => h) (Or.inl ⟨by kernel_rfl, fun V _ => by kernel_rfl⟩) trivial ?_
  simp only [Act.put, List.getElem_toArray, List.getElem_cons_succ, List.getElem_cons_zero, List.setIfInBounds_toArray, List.set_cons_zero, List.set_cons_succ]
  refine wpAnyH_take (i := 2) (v := .pointer (some ⟨g, 0, none⟩)) rfl (by kernel_rfl) (by kernel_rfl) (by kernel_rfl) (fun _ _ _ h => h) (Or.inl ⟨by kernel_rfl, fun V _ => by kernel_rfl⟩) trivial ?_
  simp only [Act.put, List.getElem_toArray, List.getElem_cons_succ, List.getElem_cons_zero, List.setIfInBounds_toArray, List.set_cons_zero, List.set_cons_succ]
  refine wpAnyH_take (i := 3) (v := .pointer (some ⟨g, 1, none⟩)) rfl (by kernel_rfl) (by kernel_rfl) (by kernel_rfl) (fun _ _ _ h => h) (Or.inl ⟨by kernel_rfl, fun V _ => by kernel_rfl⟩) trivial ?_
  simp only [Act.put, List.getElem_toArray, List.getElem_cons_succ, List.getElem_cons_zero, List.setIfInBounds_toArray, List.set_cons_zero, List.set_cons_succ]
  refine Grow.wpAnyH_from (w0 := W0.drew) [0, 1, 2, 3] [4, 5, 6, 7] #[true, true, true, true, true, true, true, true, false, false, false, false] [(some 29, 4), (some 30, 5), (some 31, 6), (some 32, 7)] 4 (ST w.heap.size A0 fl.length c0 to A n c l) (by kernel_rfl) (by kernel_rfl) (by kernel_rfl) (by decide) (by kernel_rfl) (by kernel_rfl) (by kernel_rfl) (fun _ _ => trivial) (ST.mono _ _ _ _ _ _ _ _ _) ?_ ?_
  · refine Grow.StepsD.cons [] [] rfl (by kernel_rfl) (by kernel_rfl) (fun vs lo up W hg hT K hK => ?_) ?_
    · have hgW := grown_undrew hg
      have e1 : W.cell? ⟨g, 1, none⟩ = some (.slice A0 fl.length c0) := by
        rw [cell_of_row W g 1 _ _ _ ((hgW.block g (Array.getElem?_eq_some_iff.1 h0A).1 (by simp)).trans h0A)]; rfl
      simp only [Grow.putL] at hK ⊢
      go_simp
      exact hK _ _ (World.grownBy.refl _ _) rfl
    refine Grow.StepsD.cons [] [] rfl (by kernel_rfl) (by kernel_rfl) (fun vs lo up W hg hT K hK => ?_) ?_
    · have hgW := grown_undrew hg
      have e0 := (b3.kept0 hgW).two.1
      have e1 := (b3.kept0 hgW).two.2
      simp only [Grow.putL] at hK ⊢
      go_simp
      exact hK _ _ (World.grownBy.refl _ _) rfl
    refine Grow.StepsD.cons [5] [(some 30, 5)] rfl (by kernel_rfl) (by kernel_rfl) (fun vs lo up W hg hT K hK => ?_) ?_
    · have hgW := grown_trans hg0 (grown_undrew hg)
      have t5 : vs 5 = .agg #[.int .i64 to, .slice A n c] := hT
      simp only [Grow.putL, t5] at hK ⊢
      go_simp
      refine (CO.out _ hgW).mono ?_; rintro e V ⟨A', c', rfl, hown, hgx⟩
      exact hK _ _ hgx ⟨A', c', rfl, hown.base_ hgW.size⟩
    refine Grow.StepsD.cons [6] [(some 31, 6)] rfl (by kernel_rfl) (by kernel_rfl) (fun vs lo up W hg hT K hK => ?_) Grow.StepsD.nil
    · obtain ⟨A', c', t6, hown⟩ := hT
      simp only [Grow.putL, t6] at hK ⊢
      go_simp
      exact hK _ _ (World.grownBy_alloc _ _ _) ⟨A', c', rfl, World.size_alloc _ _, Row.new _ _ _, hown.alloc _⟩
  intro vs lo up V hgV hT hbb hap
  have hgW := grown_undrew hgV
  have hgwV := grown_trans hg0 hgW
  obtain ⟨t4, t5, ⟨A6, c6, t6, o6⟩, A', c', t7, u7, r7, o7⟩ := hT
  have q4 : vs 4 = .slice A0 fl.length c0 := t4
  have q5 : vs 5 = .agg #[.int .i64 to, .slice A n c] := t5
  simp only [Grow.putL, q4, q5, t6, t7, Act.put, List.getElem_toArray, List.getElem_cons_succ, List.getElem_cons_zero, List.setIfInBounds_toArray, List.set_cons_zero, List.set_cons_succ]
  clear hbb hap q4 q5 t4 t5 t6 t7 o6 u7 hgV
  generalize lo 7 = g7 at *
  obtain ⟨i0, hi0, hz0, hz1, hz2⟩ := info_parts infoF
  have hRV := (hhR.out.grown0 hgwV)
  have h0V : V.heap[g]? = some (.cells #[.bool true, .slice A0 fl.length c0] 45 (0, 0)) := (hgW.block g (Array.getElem?_eq_some_iff.1 h0A).1 (by simp)).trans h0A
  refine wpAnyH_append 8 (.tmp 29) (.tmp 32) 43 33 (by kernel_rfl) (by kernel_rfl) base 33 i0 _ 2 32 Try.underlying43 hi0 hz0 hz1 hz2 rfl (by omega) A0 fl.length c0 (rowF fl) (by kernel_rfl) hRV (some ⟨g7, 0, none⟩) 1 1 _ [.int .i64 to, .slice A' n c'] (by kernel_rfl) rfl r7.reads2 (by simp [Value.oneCell']) (by unfold maxLen; omega) (by omega) (Nat.le_trans (Nat.le_trans hh.out.1 (Nat.le_of_lt hh.out.lt)) hgwV.size) (fun _ => trivial) ?_
  intro A1 c1 w8 h1 hg8 hA
  simp only [Act.put, List.getElem_toArray, List.getElem_cons_succ, List.getElem_cons_zero, List.setIfInBounds_toArray, List.set_cons_zero, List.set_cons_succ]
  refine wpAnyH_take (i := 9) (v := .pointer (some ⟨g, 0, none⟩)) rfl (by kernel_rfl) (by kernel_rfl) (by kernel_rfl) (fun _ _ _ h => h) (Or.inl ⟨by kernel_rfl, fun V _ => by kernel_rfl⟩) trivial ?_
  simp only [Act.put, List.getElem_toArray, List.getElem_cons_succ, List.getElem_cons_zero, List.setIfInBounds_toArray, List.set_cons_zero, List.set_cons_succ]
  refine wpAnyH_take (i := 10) (v := .pointer (some ⟨g, 1, none⟩)) rfl (by kernel_rfl) (by kernel_rfl) (by kernel_rfl) (fun _ _ _ h => h) (Or.inl ⟨by kernel_rfl, fun V _ => by kernel_rfl⟩) trivial ?_
  simp only [Act.put, List.getElem_toArray, List.getElem_cons_succ, List.getElem_cons_zero, List.setIfInBounds_toArray, List.set_cons_zero, List.set_cons_succ]
  have h08 := heap_kept_row h0V hRV (by decide) hg8
  have e1 : w8.cell? ⟨g, 1, none⟩ = some (.slice A0 fl.length c0) := by rw [cell_of_row w8 g 1 _ _ _ h08]; rfl
  have e2 := frozen_of_row w8 g 1 _ _ h08
  refine wpAnyH_ready (rs := [11]) (by kernel_rfl) (by simp) ?_
  refine AllReadyH.cons rfl (fun K hK => ?_) AllReadyH.nil
  go_simp
  refine hK.out _ _ trivial (fun _ => ?_)
  clear hK K
  refine wpAnyH_done (by kernel_rfl) ?_ _
  go_wp2
  go_ret
  refine ⟨rfl, ⟨to, A', c', l⟩, rfl, ?_⟩
  have hll := hlh.out
  exact hh.out.add hh0.out hhR.out hgwV ⟨to, A', c', l⟩ ⟨by simp only [hll]; exact hl8, hb, ht⟩ hn (Nat.le_refl _) (by simp only [hll]; exact o7) (by simpa [Flt.cells, hll] using h1) hg8 hA
end Go.Proofs.Ytdmhaigldckdbaa
