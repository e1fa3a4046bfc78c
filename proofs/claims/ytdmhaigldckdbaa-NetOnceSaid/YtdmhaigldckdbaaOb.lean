/- The document's net in memory; New, Copied, Place, Send. -/
import Derived.Test.YtdmhaigldckdbaaNr
namespace Go.Proofs.Ytdmhaigldckdbaa
open Go Go.RowKit
/-- The document's net, with flights whose bytes are nobody else's to write. -/
def DocIs (w : World) (base g : Nat) (dl : List Flt) : Prop :=
  base ≤ g ∧ dl.length ≤ 64 ∧ (∀ d ∈ dl, d.ok ∧ Own w base 5 1 d.A d.bs.length d.cap (d.bs.map byte)) ∧ ∃ A c, w.heap[g]? = some (.cells #[.slice A dl.length c] 62 (0, 0)) ∧ Own w base 51 2 A dl.length c (rowF dl)
/-- The blocks that the document's calls may write. -/
def DBlk (w : World) (base b : Nat) : Prop := base ≤ b ∧ ∃ cur T, w.heap[b]? = some (.cells cur T (0, 0)) ∧ (T = 62 ∨ T = 51)
def DStep (w w' : World) (base g : Nat) (dl dl' : List Flt) : Prop := DocIs w' base g dl' ∧ But (DBlk w base) w w' ∧ ∀ d ∈ dl', d ∈ dl ∨ ∀ b, d.row = some b → w.heap.size ≤ b
theorem DocIs.grown0 {w w' : World} {base g : Nat} {dl : List Flt} (h : DocIs w base g dl) (hg : w.grownBy w' none) : DocIs w' base g dl := by
  obtain ⟨h1, h2, h3, A, c, h4, h5⟩ := h
  exact ⟨h1, h2, fun d hd => ⟨(h3 d hd).1, (h3 d hd).2.grown0 hg⟩, A, c, by rw [hg.block g (Array.getElem?_eq_some_iff.1 h4).1 (by simp)]; exact h4, h5.grown0 hg⟩
theorem DocIs.lt {w : World} {base g : Nat} {dl : List Flt} (h : DocIs w base g dl) : g < w.heap.size := by
  obtain ⟨_, _, _, A, c, h4, _⟩ := h
  exact (Array.getElem?_eq_some_iff.1 h4).1
theorem rnew_any (w : World) : Calls Try.prog 17 #[] w fun e w' => ∃ g, e = .returned (.pointer (some ⟨g, 0, none⟩)) ∧ DocIs w' w.heap.size g [] ∧ w.grownBy w' none := by
  go_enter Try.func17, Try.ntmps17
  go_wp2
  go_ret
  exact ⟨_, rfl, ⟨Nat.le_refl _, by simp, by simp, none, 0, heap_alloc_new w _, Own.nil_ _ _ _ _ _⟩, World.grownBy_alloc _ _ _⟩
theorem place_any (w : World) (base g : Nat) (dl : List Flt) (k : Int) (h : DocIs w base g dl) (hp : 0 < dl.length) :
    Calls Try.prog 32 #[.pointer (some ⟨g, 0, none⟩), .int .i64 k] w fun e w' => e = .returned (.int .i64 ((place k dl.length : Nat) : Int)) ∧ w = w' := by
  obtain ⟨_, hl, _, A, c, h4, _⟩ := h
  have hc : w.cell? ⟨g, 0, none⟩ = some (.slice A dl.length c) := by rw [cell_of_row w g 0 _ _ _ h4]; rfl
  clear h4
  by_cases hk : 0 ≤ k
  · have hd : decide (k < 0) = false := by simp; omega
    have he : k.tmod (dl.length : Int) = ((place k dl.length : Nat) : Int) := by
      unfold place
      rw [Int.tmod_eq_emod_of_nonneg (by omega), Int.natCast_emod, Int.toNat_of_nonneg (by omega)]
    have hlt : place k dl.length < dl.length := place_lt k hp
    generalize place k dl.length = q at *
    go_enter Try.func32, Try.ntmps32
    go_wp2
    go_ret
    exact ⟨rfl, rfl⟩
  · have hd : decide (k < 0) = true := by simp; omega
    have he : place k dl.length = 0 := by
      unfold place
      rw [Int.toNat_of_nonpos (by omega), Nat.zero_mod]
    rw [he]
    go_enter Try.func32, Try.ntmps32
    go_wp2
    go_ret
    exact ⟨rfl, rfl⟩
set_option maxHeartbeats 1000000 in
theorem copied_any (to : Int) (A : Option Addr) (n c : Nat) (l : List Nat) (w : World) (B : Nat) (hl : l.length = n) (hr : Reads w B A (l.map byte)) (hn : n ≤ 1000000) :
    Calls Try.prog 35 #[.agg #[.int .i64 to, .slice A n c]] w fun e w' => ∃ A' c', e = .returned (.agg #[.int .i64 to, .slice A' n c']) ∧ Own w' w.heap.size 5 1 A' n c' (l.map byte) ∧ w.grownBy w' none := by
  have CC := Lib.hid (fun W (hg : w.grownBy W none) => copy_any A n c l W B hl (hr.grown0 hg) hn)
  have b1 := (Row.new w 51 #[.int .i64 to, .slice A n c]).kept0 (World.grownBy_alloc _ (.cells #[.int .i64 0, .slice none 0 0] 51) none)
  have b2 := Row.new (w.alloc (.cells #[.int .i64 to, .slice A n c] 51)) 51 #[.int .i64 0, .slice none 0 0]
  rw [World.size_alloc] at b2
  have hg0 := grown_trans (World.grownBy_alloc w (.cells #[.int .i64 to, .slice A n c] 51) none) (World.grownBy_alloc _ (.cells #[.int .i64 0, .slice none 0 0] 51) none)
  generalize hW : (w.alloc (.cells #[.int .i64 to, .slice A n c] 51)).alloc (.cells #[.int .i64 0, .slice none 0 0] 51) = W at *
  have hW' := Lib.hid hW
  obtain ⟨c0, c1⟩ := b1.two
  have d0 := grown_drew (World.grownBy.refl W none)
  obtain ⟨c2, c3⟩ := (b1.kept0 d0).two
  clear hW hl hr
  generalize l.map byte = xs at *
  go_enter Try.func35, Try.ntmps35
  go_wp2_with fail
  rw [hW'.out]
  have hl0 := b1.kept0 d0
  have hl1 := b2.kept0 d0
  have l0 := hl1.free 0
  have l1 := hl1.free 1
  go_region_with (go_at_call 23; refine (CC.out _ (grown_trans hg0 d0)).mono ?_; rintro e V ⟨A1, c2, rfl, hown, hg1⟩; have m1 := (hl1.kept0 hg1).free 0; have m2 := (hl1.kept0 hg1).free 1; obtain ⟨m3, m4⟩ := (hl0.kept0 hg1).two; obtain ⟨m5, m6⟩ := (hl1.kept0 hg1).two)
  all_goals
    have hb := hl1.kept0 hg1
    have f2 := (hb.set 0 (.int .i64 to)).set 1 (.slice A1 n c2)
    have g0 := f2.at 0
    have g1 := f2.at 1
    simp only [List.setIfInBounds_toArray, List.set_cons_zero, List.set_cons_succ, List.getElem?_toArray, List.getElem?_cons_zero, List.getElem?_cons_succ] at g0 g1
    have hgF := grown_new (grown_new (grown_trans (grown_trans hg0 d0) hg1) (grownBy_setCell V (w.heap.size + 1) 0 (.int .i64 to)) (fun e h => by cases h; omega)) (grownBy_setCell _ (w.heap.size + 1) 1 (.slice A1 n c2)) (fun e h => by cases h; omega)
    have hoF := (hown.kept_ (grownBy_setCell V (w.heap.size + 1) 0 (.int .i64 to)) (b := w.heap.size + 1) hb (by decide)).kept_ (grownBy_setCell _ (w.heap.size + 1) 1 (.slice A1 n c2)) (b := w.heap.size + 1) (hb.set 0 (.int .i64 to)) (by decide)
    clear m1 m2 m3 m4 m5 m6 hb f2
    generalize (V.setCell ⟨w.heap.size + 1, 0, none⟩ (.int .i64 to)).setCell ⟨w.heap.size + 1, 1, none⟩ (.slice A1 n c2) = w5 at *
    go_wp2
    exact bodyPost_ret (v := .agg #[.int .i64 to, .slice A1 n c2]) (by simp [results, Try.results35, go_sem, g0, g1]) rfl ⟨A1, c2, rfl, hoF.base_ hg0.size, hgF⟩
theorem infoRF : (Try.prog.info? 51).map (fun i => (i.zero, i.size, i.bytes)) = some (some (.agg #[.int .i64 0, .slice none 0 0]), 2, 32) := by kernel_rfl
theorem DocIs.add {w V w8 : World} {base g : Nat} {dl : List Flt} (h : DocIs w base g dl) {A0 : Option Addr} {c0 : Nat} (h0 : w.heap[g]? = some (.cells #[.slice A0 dl.length c0] 62 (0, 0))) (hR : Own w base 51 2 A0 dl.length c0 (rowF dl))
    (hV : w.grownBy V none) (f : Flt) (hf : f.ok) (hn : dl.length < 64) {b1 : Nat} (hb1 : w.heap.size ≤ b1) (ho : Own V b1 5 1 f.A f.bs.length f.cap (f.bs.map byte))
    {A1 : Option Addr} {c1 : Nat} (h1 : Own w8 base 51 2 A1 (dl.length + 1) c1 (rowF dl ++ f.cells)) (hg8 : V.grownBy w8 (rowOf A0 c0)) :
    DStep w (w8.setCell ⟨g, 0, none⟩ (.slice A1 (dl.length + 1) c1)) base g dl (dl ++ [f]) := by
  obtain ⟨k1, k2, k3, _⟩ := h
  have hgl := (Array.getElem?_eq_some_iff.1 h0).1
  have hRV := hR.grown0 hV
  have h0V : V.heap[g]? = some (.cells #[.slice A0 dl.length c0] 62 (0, 0)) := by rw [hV.block g hgl (by simp)]; exact h0
  have h08 := heap_kept_row h0V hRV (by decide) hg8
  have hg9 := grownBy_setCell w8 g 0 (.slice A1 (dl.length + 1) c1)
  refine ⟨⟨k1, by simp; omega, fun x hx => ?_, A1, c1, ?_, ?_⟩, ?_, fun d hd => ?_⟩
  · rcases List.mem_append.1 hx with hx | hx
    · exact ⟨(k3 x hx).1, (((k3 x hx).2.grown0 hV).kept_row hRV (by decide) hg8).kept_ hg9 h08 (by decide)⟩
    · rw [List.mem_singleton.1 hx]
      exact ⟨hf, ((ho.kept_row hRV (by decide) hg8).kept_ hg9 h08 (by decide)).base_ (by omega)⟩
  · have := heap_setCell_same w8 g 0 _ _ (.slice A1 (dl.length + 1) c1) h08
    rw [this]
    simp
  · have := h1.kept_ hg9 h08 (by decide)
    rw [rowF_snoc]
    simpa using this
  · have hFr : ∀ b, rowOf A0 c0 = some b → DBlk w base b := fun b hb => by
      obtain ⟨cur, hcur⟩ := hR.row_of hb
      exact ⟨(hR.row_ge b hb).1, cur, _, hcur, .inr rfl⟩
    exact (But.of_grown (F := DBlk w base) hV (fun b e => by cases e)).trans (G := DBlk w base) ((But.of_grown hg8 hFr).trans (G := DBlk w base) (But.of_grown hg9 (fun b e => by cases e; exact ⟨k1, _, _, h0, .inl rfl⟩)) (fun i hi => .inl hi)) (fun i hi => .inl hi)
  · rcases List.mem_append.1 hd with hd | hd
    · exact .inl hd
    · rw [List.mem_singleton.1 hd]
      exact .inr fun b hb => Nat.le_trans hb1 (ho.row_ge b hb).1
set_option maxHeartbeats 1000000 in
theorem rsend_no (w : World) (base g : Nat) (fl : List Flt) (to : Int) (A : Option Addr) (n c : Nat) (h : DocIs w base g fl) (hn2 : n ≤ 1000000) (z : Int)
    (hz : (to < -1 ∨ 5 < to) ∧ z = 2 ∨ (-1 ≤ to ∧ to ≤ 5) ∧ (128 < n ∧ z = 3 ∨ n ≤ 128 ∧ fl.length = 64 ∧ z = 4)) :
    Calls Try.prog 24 #[.pointer (some ⟨g, 0, none⟩), .agg #[.int .i64 to, .slice A n c]] w fun e w' => e = .returned (.int .i64 z) ∧ w.grownBy w' none := by
  have hg0 := World.grownBy_alloc w (.cells #[.int .i64 to, .slice A n c] 51) none
  obtain ⟨A0, c0, h0, hR⟩ := h.2.2.2
  have h0A : (w.alloc (.cells #[.int .i64 to, .slice A n c] 51)).heap[g]? = some (.cells #[.slice A0 fl.length c0] 62 (0, 0)) := by rw [hg0.block g h.lt (by simp)]; exact h0
  have eg0 : (w.alloc (.cells #[.int .i64 to, .slice A n c] 51)).cell? ⟨g, 0, none⟩ = some (.slice A0 fl.length c0) := by rw [cell_of_row _ g 0 _ _ _ h0A]; rfl
  clear h0 hR h0A h
  rcases hz with ⟨ht | ht, rfl⟩ | ⟨ht, ⟨hn, rfl⟩ | ⟨hn, hl, rfl⟩⟩
  · have hd0 : decide (to < -1) = true := by simp; omega
    clear ht
    go_enter Try.func24, Try.ntmps24
    go_wp2
    go_ret
    exact ⟨rfl, hg0⟩
  · have hd0 : decide (to < -1) = false := by simp; omega
    have hd1 : decide (5 < to) = true := by simp; omega
    clear ht
    go_enter Try.func24, Try.ntmps24
    go_wp2
    go_ret
    exact ⟨rfl, hg0⟩
  · have hd0 : decide (to < -1) = false := by simp; omega
    have hd1 : decide (5 < to) = false := by simp; omega
    have hd2 : decide ((128 : Int) < (n : Int)) = true := by simp; omega
    clear ht
    go_enter Try.func24, Try.ntmps24
    go_wp2
    go_ret
    exact ⟨rfl, hg0⟩
  · have hd0 : decide (to < -1) = false := by simp; omega
    have hd1 : decide (5 < to) = false := by simp; omega
    have hd2 : decide ((128 : Int) < (n : Int)) = false := by simp; omega
    have hdf : ((fl.length : Int) == 64) = true := by simp; omega
    clear ht
    go_enter Try.func24, Try.ntmps24
    go_wp2
    go_ret
    exact ⟨rfl, hg0⟩
/-- What the operations of the document's Send's last region yield. -/
def RT (b0 : Nat) (A0 : Option Addr) (n0 c0 : Nat) (to : Int) (A : Option Addr) (n c : Nat) (l : List Nat) : Nat → Value → Nat → Nat → World → Prop
  | 4, v, _, _, _ => v = .slice A0 n0 c0
  | 5, v, _, _, _ => v = .agg #[.int .i64 to, .slice A n c]
  | 6, v, _, _, w => ∃ A' c', v = .agg #[.int .i64 to, .slice A' n c'] ∧ Own w b0 5 1 A' n c' (l.map byte)
  | 7, v, lo, hi, w => ∃ A' c', v = .slice (some ⟨lo, 0, none⟩) 1 1 ∧ hi = lo + 1 ∧ Row w lo 51 #[.int .i64 to, .slice A' n c'] ∧ Own w b0 5 1 A' n c' (l.map byte)
  | _, _, _, _, _ => True
theorem RT.mono (b0 : Nat) (A0 : Option Addr) (n0 c0 : Nat) (to : Int) (A : Option Addr) (n c : Nat) (l : List Nat) : ∀ i v lo hi w w', RT b0 A0 n0 c0 to A n c l i v lo hi w → w.grownBy w' none → RT b0 A0 n0 c0 to A n c l i v lo hi w'
  | 4, _, _, _, _, _, h, _ => h
  | 5, _, _, _, _, _, h, _ => h
  | 6, _, _, _, _, _, ⟨A', c', h1, h2⟩, hg => ⟨A', c', h1, h2.grown0 hg⟩
  | 7, _, _, _, _, _, ⟨A', c', h1, h2, h3, h4⟩, hg => ⟨A', c', h1, h2, h3.kept0 hg, h4.grown0 hg⟩
  | 0, _, _, _, _, _, _, _ => trivial
  | 1, _, _, _, _, _, _, _ => trivial
  | 2, _, _, _, _, _, _, _ => trivial
  | 3, _, _, _, _, _, _, _ => trivial
  | _ + 8, _, _, _, _, _, _, _ => trivial
set_option maxRecDepth 100000 in
set_option maxHeartbeats 2000000 in
theorem rsend_ok (w : World) (base g : Nat) (fl : List Flt) (to : Int) (A : Option Addr) (n c : Nat) (l : List Nat) (B : Nat) (h : DocIs w base g fl) (hn : fl.length < 64) (ht : -1 ≤ to ∧ to ≤ 5) (hl : l.length = n) (hl8 : n ≤ 128) (hb : Byt l) (hr : Reads w B A (l.map byte)) :
    Calls Try.prog 24 #[.pointer (some ⟨g, 0, none⟩), .agg #[.int .i64 to, .slice A n c]] w fun e w' => e = .returned (.int .i64 0) ∧ ∃ f, f.it = (to, l) ∧ DStep w w' base g fl (fl ++ [f]) := by
  have hg0 := World.grownBy_alloc w (.cells #[.int .i64 to, .slice A n c] 51) none
  have b3 := Row.new w 51 #[.int .i64 to, .slice A n c]
  have hdf : ((fl.length : Int) == 64) = false := by simp; omega
  have CO := Lib.hid (fun W (hg : w.grownBy W none) => copied_any to A n c l W B hl (hr.grown0 hg) (by omega))
  obtain ⟨A0, c0, h0, hR⟩ := h.2.2.2
  have h0A : (w.alloc (.cells #[.int .i64 to, .slice A n c] 51)).heap[g]? = some (.cells #[.slice A0 fl.length c0] 62 (0, 0)) := by rw [hg0.block g h.lt (by simp)]; exact h0
  have hh := Lib.hid h
  have hh0 := Lib.hid h0
  have hhR := Lib.hid hR
  have hsz := World.size_alloc w (.cells #[.int .i64 to, .slice A n c] 51)
  have hlh := Lib.hid hl
  have k0 := b3.two.1
  have k1 := b3.two.2
  have eg0 : (w.alloc (.cells #[.int .i64 to, .slice A n c] 51)).cell? ⟨g, 0, none⟩ = some (.slice A0 fl.length c0) := by rw [cell_of_row _ g 0 _ _ _ h0A]; rfl
  clear h h0 hR hr hl
  have hd0 : decide (to < -1) = false := by simp; omega
  have hd1 : decide (5 < to) = false := by simp; omega
  have hd2 : decide ((128 : Int) < (n : Int)) = false := by simp; omega
  go_enter Try.func24, Try.ntmps24
  go_wp2_with fail
  generalize hW : w.alloc (.cells #[.int .i64 to, .slice A n c] 51) = W0 at *
  clear hW
  refine wp_region_held (S := fun _ => True) (by kernel_rfl) ?_
  refine wpAnyH_take (i := 0) (v := .pointer (some ⟨g, 0, none⟩)) rfl (by kernel_rfl) (by kernel_rfl) (by kernel_rfl) (fun _ _ _ h => h) (Or.inl ⟨by kernel_rfl, fun V _ => by kernel_rfl⟩) trivial ?_
  simp only [Act.put, List.getElem_toArray, List.getElem_cons_succ, List.getElem_cons_zero, List.setIfInBounds_toArray, List.set_cons_zero, List.set_cons_succ]
  refine wpAnyH_take (i := 1) (v := .pointer (some ⟨g, 0, none⟩)) rfl (by kernel_rfl) (by kernel_rfl) (by kernel_rfl) (fun _ _ _ h => h) (Or.inl ⟨by kernel_rfl, fun V _ => by kernel_rfl⟩) trivial ?_
  simp only [Act.put, List.getElem_toArray, List.getElem_cons_succ, List.getElem_cons_zero, List.setIfInBounds_toArray, List.set_cons_zero, List.set_cons_succ]
  refine wpAnyH_take (i := 2) (v := .pointer (some ⟨g, 0, none⟩)) rfl (by kernel_rfl) (by kernel_rfl) (by kernel_rfl) (fun _ _ _ h => h) (Or.inl ⟨by kernel_rfl, fun V _ => by kernel_rfl⟩) trivial ?_
  simp only [Act.put, List.getElem_toArray, List.getElem_cons_succ, List.getElem_cons_zero, List.setIfInBounds_toArray, List.set_cons_zero, List.set_cons_succ]
  refine wpAnyH_take (i := 3) (v := .pointer (some ⟨g, 0, none⟩)) rfl (by kernel_rfl) (by kernel_rfl) (by kernel_rfl) (fun _ _ _ h => h) (Or.inl ⟨by kernel_rfl, fun V _ => by kernel_rfl⟩) trivial ?_
  simp only [Act.put, List.getElem_toArray, List.getElem_cons_succ, List.getElem_cons_zero, List.setIfInBounds_toArray, List.set_cons_zero, List.set_cons_succ]
  refine Grow.wpAnyH_from (w0 := W0.drew) [0, 1, 2, 3] [4, 5, 6, 7] #[true, true, true, true, true, true, true, true, false, false, false, false] [(some 27, 4), (some 28, 5), (some 29, 6), (some 30, 7)] 4 (RT w.heap.size A0 fl.length c0 to A n c l) (by kernel_rfl) (by kernel_rfl) (by kernel_rfl) (by decide) (by kernel_rfl) (by kernel_rfl) (by kernel_rfl) (fun _ _ => trivial) (RT.mono _ _ _ _ _ _ _ _ _) ?_ ?_
  · refine Grow.StepsD.cons [] [] rfl (by kernel_rfl) (by kernel_rfl) (fun vs lo up W hg hT K hK => ?_) ?_
    · have hgW := grown_undrew hg
      have e1 : W.cell? ⟨g, 0, none⟩ = some (.slice A0 fl.length c0) := by
        rw [cell_of_row W g 0 _ _ _ ((hgW.block g (Array.getElem?_eq_some_iff.1 h0A).1 (by simp)).trans h0A)]; rfl
      simp only [Grow.putL] at hK ⊢
      go_simp
      exact hK _ _ (World.grownBy.refl _ _) rfl
    refine Grow.StepsD.cons [] [] rfl (by kernel_rfl) (by kernel_rfl) (fun vs lo up W hg hT K hK => ?_) ?_
    · have hgW := grown_undrew hg
      have e0 := (b3.kept0 hgW).two.1
      have e1 := (b3.kept0 hgW).two.2
      simp only [Grow.putL] at hK ⊢
      go_simp
      exact hK _ _ (World.grownBy.refl _ _) rfl
    refine Grow.StepsD.cons [5] [(some 28, 5)] rfl (by kernel_rfl) (by kernel_rfl) (fun vs lo up W hg hT K hK => ?_) ?_
    · have hgW := grown_trans hg0 (grown_undrew hg)
      have t5 : vs 5 = .agg #[.int .i64 to, .slice A n c] := hT
      simp only [Grow.putL, t5] at hK ⊢
      go_simp
      refine (CO.out _ hgW).mono ?_; rintro e V ⟨A', c', rfl, hown, hgx⟩
      exact hK _ _ hgx ⟨A', c', rfl, hown.base_ hgW.size⟩
    refine Grow.StepsD.cons [6] [(some 29, 6)] rfl (by kernel_rfl) (by kernel_rfl) (fun vs lo up W hg hT K hK => ?_) Grow.StepsD.nil
    · obtain ⟨A', c', t6, hown⟩ := hT
      simp only [Grow.putL, t6] at hK ⊢
      go_simp
      exact hK _ _ (World.grownBy_alloc _ _ _) ⟨A', c', rfl, World.size_alloc _ _, Row.new _ _ _, hown.alloc _⟩
  intro vs lo up V hgV hT hbb hap
  have hgW := grown_undrew hgV
  have hgwV := grown_trans hg0 hgW
  obtain ⟨t4, t5, ⟨A6, c6, t6, o6⟩, A', c', t7, u7, r7, o7⟩ := hT
  have q4 : vs 4 = .slice A0 fl.length c0 := t4
  have q5 : vs 5 = .agg #[.int .i64 to, .slice A n c] := t5
  simp only [Grow.putL, q4, q5, t6, t7, Act.put, List.getElem_toArray, List.getElem_cons_succ, List.getElem_cons_zero, List.setIfInBounds_toArray, List.set_cons_zero, List.set_cons_succ]
  clear hbb hap q4 q5 t4 t5 t6 t7 o6 u7 hgV
  generalize lo 7 = g7 at *
  obtain ⟨i0, hi0, hz0, hz1, hz2⟩ := info_parts infoRF
  have hRV := (hhR.out.grown0 hgwV)
  have h0V : V.heap[g]? = some (.cells #[.slice A0 fl.length c0] 62 (0, 0)) := (hgW.block g (Array.getElem?_eq_some_iff.1 h0A).1 (by simp)).trans h0A
  refine wpAnyH_append 8 (.tmp 27) (.tmp 30) 60 31 (by kernel_rfl) (by kernel_rfl) base 51 i0 _ 2 32 Try.underlying60 hi0 hz0 hz1 hz2 rfl (by omega) A0 fl.length c0 (rowF fl) (by kernel_rfl) hRV (some ⟨g7, 0, none⟩) 1 1 _ [.int .i64 to, .slice A' n c'] (by kernel_rfl) rfl r7.reads2 (by simp [Value.oneCell']) (by unfold maxLen; omega) (by omega) (Nat.le_trans (Nat.le_trans hh.out.1 (Nat.le_of_lt hh.out.lt)) hgwV.size) (fun _ => trivial) ?_
  intro A1 c1 w8 h1 hg8 hA
  simp only [Act.put, List.getElem_toArray, List.getElem_cons_succ, List.getElem_cons_zero, List.setIfInBounds_toArray, List.set_cons_zero, List.set_cons_succ]
  refine wpAnyH_take (i := 9) (v := .pointer (some ⟨g, 0, none⟩)) rfl (by kernel_rfl) (by kernel_rfl) (by kernel_rfl) (fun _ _ _ h => h) (Or.inl ⟨by kernel_rfl, fun V _ => by kernel_rfl⟩) trivial ?_
  simp only [Act.put, List.getElem_toArray, List.getElem_cons_succ, List.getElem_cons_zero, List.setIfInBounds_toArray, List.set_cons_zero, List.set_cons_succ]
  refine wpAnyH_take (i := 10) (v := .pointer (some ⟨g, 0, none⟩)) rfl (by kernel_rfl) (by kernel_rfl) (by kernel_rfl) (fun _ _ _ h => h) (Or.inl ⟨by kernel_rfl, fun V _ => by kernel_rfl⟩) trivial ?_
  simp only [Act.put, List.getElem_toArray, List.getElem_cons_succ, List.getElem_cons_zero, List.setIfInBounds_toArray, List.set_cons_zero, List.set_cons_succ]
  have h08 := heap_kept_row h0V hRV (by decide) hg8
  have e1 : w8.cell? ⟨g, 0, none⟩ = some (.slice A0 fl.length c0) := by rw [cell_of_row w8 g 0 _ _ _ h08]; rfl
  have e2 := frozen_of_row w8 g 0 _ _ h08
  refine wpAnyH_ready (rs := [11]) (by kernel_rfl) (by simp) ?_
  refine AllReadyH.cons rfl (fun K hK => ?_) AllReadyH.nil
  go_simp
  refine hK.out _ _ trivial (fun _ => ?_)
  clear hK K
  refine wpAnyH_done (by kernel_rfl) ?_ _
  go_wp2
  go_ret
  refine ⟨rfl, ⟨to, A', c', l⟩, rfl, ?_⟩
  have hll := hlh.out
  exact hh.out.add hh0.out hhR.out hgwV ⟨to, A', c', l⟩ ⟨by simp only [hll]; exact hl8, hb, ht⟩ hn (Nat.le_refl _) (by simp only [hll]; exact o7) (by simpa [Flt.cells, hll] using h1) hg8
end Go.Proofs.Ytdmhaigldckdbaa
