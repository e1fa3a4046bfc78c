/- The document's Copy and Spoil. -/
import Derived.Test.YtdmhaigldckdbaaOc
namespace Go.Proofs.Ytdmhaigldckdbaa
open Go Go.RowKit
theorem DStep.of_grown {w W w' : World} {base g : Nat} {dl dl' : List Flt} (hw : DocIs w base g dl) (hg : w.grownBy W none) (s : DStep W w' base g dl dl') : DStep w w' base g dl dl' := by
  obtain ⟨s1, s2, s3⟩ := s
  refine ⟨s1, (But.of_grown (F := DBlk w base) hg (fun b e => by cases e)).trans s2 (fun i hi => ?_), fun d hd => ?_⟩
  · obtain ⟨h1, cur, T, h2, h3⟩ := hi
    by_cases hlt : i < w.heap.size
    · rw [hg.block i hlt (by simp)] at h2
      exact .inl ⟨h1, cur, T, h2, h3⟩
    · exact .inr (by omega)
  · rcases s3 d hd with h1 | h1
    · exact .inl h1
    · exact .inr fun b hb => Nat.le_trans hg.size (h1 b hb)
theorem rcopy_empty (w : World) (base g : Nat) (k : Int) (h : DocIs w base g []) :
    Calls Try.prog 21 #[.pointer (some ⟨g, 0, none⟩), .int .i64 k] w fun e w' => e = .returned (.int .i64 300) ∧ w = w' := by
  obtain ⟨A0, c0, h0, hR⟩ := h.2.2.2
  have e1 : w.cell? ⟨g, 0, none⟩ = some (.slice A0 0 c0) := by rw [cell_of_row w g 0 _ _ _ h0]; rfl
  clear h h0 hR
  go_enter Try.func21, Try.ntmps21
  go_wp2
  go_ret
  exact ⟨rfl, rfl⟩
theorem rspoil_empty (w : World) (base g : Nat) (k bit : Int) (h : DocIs w base g []) :
    Calls Try.prog 22 #[.pointer (some ⟨g, 0, none⟩), .int .i64 k, .int .i64 bit] w fun e w' => e = .returned (.int .i64 300) ∧ w = w' := by
  obtain ⟨A0, c0, h0, hR⟩ := h.2.2.2
  have e1 : w.cell? ⟨g, 0, none⟩ = some (.slice A0 0 c0) := by rw [cell_of_row w g 0 _ _ _ h0]; rfl
  clear h h0 hR
  go_enter Try.func22, Try.ntmps22
  go_wp2
  go_ret
  exact ⟨rfl, rfl⟩
/-- Copy of the document, whatever its Send answers. -/
theorem rcopy_any (w : World) (base g : Nat) (dl : List Flt) (k : Int) (h : DocIs w base g dl) (hp : 0 < dl.length) (x : Flt) (hx : dl[place k dl.length]? = some x) (R : Ending → World → Prop)
    (CS : ∀ W, w.grownBy W none → Calls Try.prog 24 #[.pointer (some ⟨g, 0, none⟩), .agg #[.int .i64 x.to, .slice x.A x.bs.length x.cap]] W fun e w' => (∃ z : Int, e = .returned (.int .i64 z)) ∧ R e w') :
    Calls Try.prog 21 #[.pointer (some ⟨g, 0, none⟩), .int .i64 k] w R := by
  have hle := h.2.1
  obtain ⟨A0, c0, h0, hR⟩ := h.2.2.2
  have hpl : place k dl.length < dl.length := place_lt k hp
  have CP := Lib.hid (fun W (hg : w.grownBy W none) => place_any W base g dl k (h.grown0 hg) hp)
  obtain ⟨r, rfl, hrr, _, hrl, hcr⟩ := hR.cells_ (by rw [rowF_len]; omega)
  obtain ⟨x0, x1⟩ := rowF_get dl _ x hx
  have y0 := (hcr (place k dl.length * 2) (by rw [rowF_len]; omega)).trans x0
  have y1 := (hcr (place k dl.length * 2 + 1) (by rw [rowF_len]; omega)).trans x1
  have e1 : w.cell? ⟨g, 0, none⟩ = some (.slice (some ⟨r, 0, none⟩) dl.length c0) := by rw [cell_of_row w g 0 _ _ _ h0]; rfl
  have hd0 : ((dl.length : Int) == 0) = false := beq_eq_false_iff_ne.2 (by omega)
  have hgd := grown_drew (World.grownBy.refl w none)
  have CS' := Lib.hid CS
  clear h h0 hR hcr x0 x1 hx CS
  generalize place k dl.length = p at *
  go_enter Try.func21, Try.ntmps21
  go_wp2_with fail
  go_region_with (first
    | (go_at_call 32; refine (CP.out _ hgd).mono ?_; rintro e V ⟨rfl, rfl⟩)
    | (go_at_call 24; refine (CS'.out _ hgd).mono ?_; rintro e V ⟨⟨z, rfl⟩, hR⟩))
  all_goals go_wp2
  all_goals go_ret
  all_goals exact hR
theorem rcopy_full (w : World) (base g : Nat) (dl : List Flt) (k : Int) (h : DocIs w base g dl) (hl : dl.length = 64) :
    Calls Try.prog 21 #[.pointer (some ⟨g, 0, none⟩), .int .i64 k] w fun e w' => e = .returned (.int .i64 4) ∧ w.grownBy w' none := by
  obtain ⟨x, hx⟩ : ∃ x, dl[place k dl.length]? = some x := ⟨_, List.getElem?_eq_getElem (place_lt _ (by omega))⟩
  have hxo := h.2.2.1 x (List.mem_of_getElem? hx)
  refine rcopy_any w base g dl k h (by omega) x hx _ fun W hg => (rsend_no W base g dl x.to x.A x.bs.length x.cap (h.grown0 hg) (by have := hxo.1.1; omega) 4 (.inr ⟨hxo.1.2.2, .inr ⟨hxo.1.1, hl, rfl⟩⟩)).mono ?_
  rintro e w' ⟨rfl, h1⟩
  exact ⟨⟨4, rfl⟩, rfl, grown_trans hg h1⟩
theorem rcopy_ok (w : World) (base g : Nat) (dl : List Flt) (k : Int) (h : DocIs w base g dl) (hp : 0 < dl.length) (hn : dl.length < 64) (x : Flt) (hx : dl[place k dl.length]? = some x) :
    Calls Try.prog 21 #[.pointer (some ⟨g, 0, none⟩), .int .i64 k] w fun e w' => e = .returned (.int .i64 0) ∧ ∃ f, f.it = x.it ∧ DStep w w' base g dl (dl ++ [f]) := by
  have hxo := h.2.2.1 x (List.mem_of_getElem? hx)
  refine rcopy_any w base g dl k h hp x hx _ fun W hg => (rsend_ok W base g dl x.to x.A x.bs.length x.cap x.bs _ (h.grown0 hg) hn hxo.1.2.2 rfl hxo.1.1 hxo.1.2.1 (hxo.2.grown0 hg).reads).mono ?_
  rintro e w' ⟨rfl, f, hf, hs⟩
  exact ⟨⟨0, rfl⟩, rfl, f, hf, DStep.of_grown h hg hs⟩
theorem wf_i64 {x : Int} (h : (Lit.int .i64 x).wf = true) : -9223372036854775808 ≤ x ∧ x ≤ 9223372036854775807 := by
  simp [Lit.wf] at h
  have h1 : IntKind.i64.min = -9223372036854775808 := rfl
  have h2 : IntKind.i64.max = 9223372036854775807 := rfl
  omega
theorem rowF_set (dl : List Flt) (p : Nat) (x : Flt) (hx : dl[p]? = some x) (A : Option Addr) (c : Nat) (l : List Nat) : (rowF dl).set (p * 2 + 1) (.slice A l.length c) = rowF (dl.set p ⟨x.to, A, c, l⟩) := by
  induction dl generalizing p with
  | nil => simp at hx
  | cons a r ih =>
    cases p with
    | zero =>
      simp only [List.getElem?_cons_zero, Option.some.injEq] at hx
      subst hx
      simp [rowF, Flt.cells]
    | succ q =>
      rw [List.getElem?_cons_succ] at hx
      have := ih q hx
      simp only [rowF, List.map_cons, List.flatten_cons, List.set_cons_succ] at this ⊢
      rw [← this]
      simp only [Flt.cells, List.cons_append, List.nil_append]
      rw [show (q + 1) * 2 + 1 = (q * 2 + 1) + 1 + 1 by omega, List.set_cons_succ, List.set_cons_succ]
theorem spot_place (n : Nat) (bit : Int) : spot n bit = place bit (8 * n) := by
  unfold spot place
  congr 1
  omega
theorem DocIs.spoil {w V : World} {base g p : Nat} {dl : List Flt} (h : DocIs w base g dl) {c0 r : Nat} (h0 : w.heap[g]? = some (.cells #[.slice (some ⟨r, 0, none⟩) dl.length c0] 62 (0, 0))) (hR : Own w base 51 2 (some ⟨r, 0, none⟩) dl.length c0 (rowF dl)) (hrr : rowOf (some ⟨r, 0, none⟩) c0 = some r)
    (x : Flt) (hx : dl[p]? = some x) (hg : w.grownBy V none) (A : Option Addr) (c : Nat) (l : List Nat) (hl : l.length = x.bs.length) (hb : Byt l) {b1 : Nat} (hb1 : w.heap.size ≤ b1) (ho : Own V b1 5 1 A l.length c (l.map byte)) :
    DStep w (V.setCell ⟨r, p * 2 + 1, none⟩ (.slice A l.length c)) base g dl (dl.set p ⟨x.to, A, c, l⟩) := by
  obtain ⟨k1, k2, k3, _⟩ := h
  have hgl := (Array.getElem?_eq_some_iff.1 h0).1
  have h0V : V.heap[g]? = some (.cells #[.slice (some ⟨r, 0, none⟩) dl.length c0] 62 (0, 0)) := by rw [hg.block g hgl (by simp)]; exact h0
  obtain ⟨cur, hcur⟩ := hR.row_of hrr
  obtain ⟨hr1, hr2⟩ := hR.row_ge r hrr
  have hcurV : V.heap[r]? = some (.cells cur 51 (0, 0)) := by rw [hg.block r hr2 (by simp)]; exact hcur
  have hne : g ≠ r := by
    rintro rfl
    rw [h0] at hcur
    cases hcur
  have s1 := grownBy_setCell V r (p * 2 + 1) (.slice A l.length c)
  have hxm := List.mem_of_getElem? hx
  have hsz : base ≤ w.heap.size := by omega
  refine ⟨⟨k1, by rw [List.length_set]; exact k2, fun d hd => ?_, some ⟨r, 0, none⟩, c0, ?_, ?_⟩, ?_, fun d hd => ?_⟩
  · rcases List.mem_or_eq_of_mem_set hd with hd | rfl
    · exact ⟨(k3 d hd).1, ((k3 d hd).2.grown0 hg).kept_ s1 hcurV (by decide)⟩
    · refine ⟨⟨by rw [hl]; exact (k3 x hxm).1.1, hb, (k3 x hxm).1.2.2⟩, ?_⟩
      exact (ho.kept_ s1 hcurV (by decide)).base_ (by omega)
  · rw [List.length_set, s1.block g (Nat.lt_of_lt_of_le hgl hg.size) (by simpa using hne)]
    exact h0V
  · rw [List.length_set, ← rowF_set dl p x hx]
    exact (hR.grown0 hg).set_ _ _
  · exact (But.of_grown (F := DBlk w base) hg (fun b e => by cases e)).trans (G := DBlk w base) (But.of_grown s1 (fun b e => by cases e; exact ⟨hr1, cur, _, hcur, .inr rfl⟩)) (fun i hi => .inl hi)
  · rcases List.mem_or_eq_of_mem_set hd with hd | rfl
    · exact .inl hd
    · exact .inr fun b hb => Nat.le_trans hb1 (ho.row_ge b hb).1
set_option maxRecDepth 100000 in
set_option maxHeartbeats 2000000 in
theorem rspoil_ok (w : World) (base g : Nat) (dl : List Flt) (k bit : Int) (wb : (Lit.int .i64 bit).wf = true) (h : DocIs w base g dl) (hp : 0 < dl.length) (x : Flt) (hx : dl[place k dl.length]? = some x) :
    Calls Try.prog 22 #[.pointer (some ⟨g, 0, none⟩), .int .i64 k, .int .i64 bit] w fun e w' => e = .returned (.int .i64 0) ∧ ∃ f, f.it = (x.to, flipB x.bs bit) ∧ DStep w w' base g dl (dl.set (place k dl.length) f) := by
  have hle := h.2.1
  have hwb := wf_i64 wb
  have hxo := h.2.2.1 x (List.mem_of_getElem? hx)
  have hxl := hxo.1.1
  have CF := Lib.hid (fun W (hg : w.grownBy W none) => rflip_any x.A x.bs.length x.cap bit x.bs W _ rfl (hxo.2.grown0 hg).reads hxo.1.2.1 (by omega) hwb.1 hwb.2)
  obtain ⟨A0, c0, h0, hR⟩ := h.2.2.2
  have hpl : place k dl.length < dl.length := place_lt k hp
  have CP := Lib.hid (fun W (hg : w.grownBy W none) => place_any W base g dl k (h.grown0 hg) hp)
  obtain ⟨r, rfl, hrr, _, hrl, hcr⟩ := hR.cells_ (by rw [rowF_len]; omega)
  obtain ⟨x0, x1⟩ := rowF_get dl _ x hx
  have y1 := (hcr (place k dl.length * 2 + 1) (by rw [rowF_len]; omega)).trans x1
  have e1 : w.cell? ⟨g, 0, none⟩ = some (.slice (some ⟨r, 0, none⟩) dl.length c0) := by rw [cell_of_row w g 0 _ _ _ h0]; rfl
  have hd0 : ((dl.length : Int) == 0) = false := beq_eq_false_iff_ne.2 (by omega)
  have hgd := grown_drew (World.grownBy.refl w none)
  obtain ⟨cur, hcur⟩ := hR.row_of hrr
  have hRr : Row w r 51 cur := hcur
  clear hcur
  have hSp := Lib.hid (fun V hg A c l hl hb b1 hb1 ho => h.spoil (p := place k dl.length) h0 hR hrr x hx (V := V) hg A c l hl hb (b1 := b1) hb1 ho)
  have hfb := Lib.hid (flipB_byt hxo.1.2.1 bit)
  have hfl := flipB_len x.bs bit
  clear h h0 hR hcr x0 x1 hx hxo
  generalize place k dl.length = p at *
  generalize flipB x.bs bit = l2 at *
  go_enter Try.func22, Try.ntmps22
  go_wp2_with fail
  refine (CP.out _ (World.grownBy.refl w none)).mono ?_; rintro e V ⟨rfl, rfl⟩
  go_wp2_with fail
  go_region_with (go_at_call 34; refine (CF.out _ hgd).mono ?_; rintro e V ⟨A', c', rfl, hown, hg'⟩; have v1 := hg'.cell e1 (by simp); have v2 := hg'.cell y1 (by simp); have v3 := (hRr.kept0 (grown_trans hgd hg')).free (p * 2 + 1))
  all_goals
    have hfin := hSp.out V (grown_trans hgd hg') A' c' l2 hfl hfb.out _ (Nat.le_refl w.heap.size) (by rw [hfl]; exact hown)
    rw [hfl] at hfin
    clear hSp
    generalize V.setCell ⟨r, p * 2 + 1, none⟩ (.slice A' x.bs.length c') = w9 at *
    go_wp2
    go_ret
    exact ⟨rfl, _, rfl, hfin⟩
end Go.Proofs.Ytdmhaigldckdbaa
