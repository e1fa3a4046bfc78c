/- The walk of words.Get where a byte below 128 stands near. -/
import Derived.Test.YthijicpfihpkfaaGw
import Derived.Test.YthijicpfihpkfaaWq
namespace Go.Proofs.Ythijicpfihpkfaa
open Go Go.RowKit Go.Shelf
attribute [local go_sem] Oper.semAt_some
def getS (s : List Nat) (j : Nat) : Option (Nat × Nat) := if valL s < 18446744073709551616 ∧ (putL (valL s)).length = j + 1 then some (valL s, j + 1) else none
def Over (pre : List (Nat × Fin 256)) : Prop := ∃ ini x, pre = ini ++ [x] ∧ 144115188075855872 ≤ acc ini
theorem u8_and127 (d : Nat) (h : d < 256) : bits .and .u8 (d : Int) 127 = (d : Int) % 128 := by
  have := u8_and_nat d 127 h (by omega)
  rw [and127] at this
  simpa using this
set_option maxRecDepth 100000 in
set_option maxHeartbeats 4000000 in
theorem get_in (ad : Addr) (n c k j : Nat) (l s : List Nat) (w : World) (hk : k < n) (hnc : n ≤ c) (_hc : c ≤ 9223372036854775807) (hn : n ≤ 1000000) (hl : l.length = n) (hr : Reads w w.heap.size (some ad) (l.map byte)) (hb : Byt l)
    (hj : idxV (l.drop k) = j) (hj9 : j ≤ 9) (hjn : k + j < n) (hs : s = (l.drop k).take (j + 1)) :
    Calls Try.prog 27 #[.slice (some ad) n c, .int .i64 k] w fun e w' => e = .returned (resT (getS s j)) ∧ w.grownBy w' none := by
  have hbs : Byt s := fun x hx => hb x (List.mem_of_mem_drop (List.mem_of_mem_take (hs ▸ hx)))
  have hsl : s.length = j + 1 := by rw [hs, List.length_take, List.length_drop]; omega
  have hr2 : Reads w w.heap.size (some (ad.add k)) ((l.drop k).map byte) := by
    have := hr.drop (k := k) rfl
    rwa [← List.map_drop] at this
  have hr3 : Reads w w.heap.size (some (ad.add k)) (s.map byte) := by
    have := hr2.take (j + 1)
    rwa [← List.map_take, ← hs] at this
  have C := Lib.hid (fun W c' (hg : w.grownBy W none) => idx_any (some (ad.add k)) (n - k) c' (l.drop k) W w.heap.size (by simp; omega) (hr2.grown0 hg) (fun x hx => hb x (List.mem_of_mem_drop hx)) (by omega))
  rw [hj] at C
  have hg3 := Lib.hid (grown_trans (World.grownBy_alloc w (.cells #[.int .u64 0] 27) none) (grown_trans (World.grownBy_alloc _ (.cells #[.int .i64 0] 3) none) (World.grownBy_alloc _ (.cells #[.bool false] 4) none)))
  have hacc := Lib.hid (acc_bwd s hbs)
  clear hr2 hr hb hj hs hl
  have hsl' := Lib.hid hsl
  refine (callsIn_wide (n := 5)).1 ?_
  refine callsIn_of_wp_marks Try.func27 rfl trivial ?_ rfl
  simp only [Try.ntmps27, List.size_toArray, List.length_cons, List.length_nil, Nat.reduceAdd, Nat.reduceSub, Array.replicate_succ, Array.replicate_zero, List.push_toArray, List.append_toArray, List.nil_append, List.cons_append]
  gi_wp2_with fail
  refine ⟨trivial, ?_⟩
  refine (callsIn_wide.2 (C.out _ _ hg3.out)).mono ?_; rintro e w1 ⟨rfl, rfl⟩
  gi_wp2_with fail
  refine ⟨trivial, ?_⟩
  refine (back_in Fence.wide 4 trivial rfl _ _ _ _).mono ?_; rintro e w' ⟨rfl, rfl⟩
  gi_wp2
  have b0 : Boxed (((((w.alloc (.cells #[.int .u64 0] 27)).alloc (.cells #[.int .i64 0] 3)).alloc (.cells #[.bool false] 4)).alloc (.cells #[.int .u64 0] 27)).alloc (.cells #[.slice (some (ad.add k)) (k + j + 1 - k) (c - k)] 22)) w.heap.size 27 (.int .u64 0) := ((((Boxed.new w _ _).alloc _).alloc _).alloc _).alloc _
  have b1 : Boxed (((((w.alloc (.cells #[.int .u64 0] 27)).alloc (.cells #[.int .i64 0] 3)).alloc (.cells #[.bool false] 4)).alloc (.cells #[.int .u64 0] 27)).alloc (.cells #[.slice (some (ad.add k)) (k + j + 1 - k) (c - k)] 22)) (w.heap.size + 1) 3 (.int .i64 0) := by
    have := (((Boxed.new (w.alloc (.cells #[.int .u64 0] 27)) 3 (.int .i64 0)).alloc (.cells #[.bool false] 4)).alloc (.cells #[.int .u64 0] 27)).alloc (.cells #[.slice (some (ad.add k)) (k + j + 1 - k) (c - k)] 22)
    rwa [World.size_alloc] at this
  have b2 : Boxed (((((w.alloc (.cells #[.int .u64 0] 27)).alloc (.cells #[.int .i64 0] 3)).alloc (.cells #[.bool false] 4)).alloc (.cells #[.int .u64 0] 27)).alloc (.cells #[.slice (some (ad.add k)) (k + j + 1 - k) (c - k)] 22)) (w.heap.size + 1 + 1) 4 (.bool false) := by
    have := ((Boxed.new ((w.alloc (.cells #[.int .u64 0] 27)).alloc (.cells #[.int .i64 0] 3)) 4 (.bool false)).alloc (.cells #[.int .u64 0] 27)).alloc (.cells #[.slice (some (ad.add k)) (k + j + 1 - k) (c - k)] 22)
    rwa [World.size_alloc, World.size_alloc] at this
  have bN : Boxed (((((w.alloc (.cells #[.int .u64 0] 27)).alloc (.cells #[.int .i64 0] 3)).alloc (.cells #[.bool false] 4)).alloc (.cells #[.int .u64 0] 27)).alloc (.cells #[.slice (some (ad.add k)) (k + j + 1 - k) (c - k)] 22)) (w.heap.size + 1 + 1 + 1) 27 (.int .u64 0) := by
    have := (Boxed.new (((w.alloc (.cells #[.int .u64 0] 27)).alloc (.cells #[.int .i64 0] 3)).alloc (.cells #[.bool false] 4)) 27 (.int .u64 0)).alloc (.cells #[.slice (some (ad.add k)) (k + j + 1 - k) (c - k)] 22)
    rwa [World.size_alloc, World.size_alloc, World.size_alloc] at this
  have bS : Boxed (((((w.alloc (.cells #[.int .u64 0] 27)).alloc (.cells #[.int .i64 0] 3)).alloc (.cells #[.bool false] 4)).alloc (.cells #[.int .u64 0] 27)).alloc (.cells #[.slice (some (ad.add k)) (k + j + 1 - k) (c - k)] 22)) (w.heap.size + 1 + 1 + 1 + 1) 22 (.slice (some (ad.add k)) s.length (c - k)) := by
    have := Boxed.new ((((w.alloc (.cells #[.int .u64 0] 27)).alloc (.cells #[.int .i64 0] 3)).alloc (.cells #[.bool false] 4)).alloc (.cells #[.int .u64 0] 27)) 22 (.slice (some (ad.add k)) (k + j + 1 - k) (c - k))
    rw [World.size_alloc, World.size_alloc, World.size_alloc, World.size_alloc] at this
    have e : s.length = k + j + 1 - k := by omega
    rw [e]
    exact this
  have hg5 : w.grownBy (((((w.alloc (.cells #[.int .u64 0] 27)).alloc (.cells #[.int .i64 0] 3)).alloc (.cells #[.bool false] 4)).alloc (.cells #[.int .u64 0] 27)).alloc (.cells #[.slice (some (ad.add k)) (k + j + 1 - k) (c - k)] 22)) none := grown_trans hg3.out (grown_trans (World.grownBy_alloc _ _ none) (World.grownBy_alloc _ _ none))
  have hsz5 : (((((w.alloc (.cells #[.int .u64 0] 27)).alloc (.cells #[.int .i64 0] 3)).alloc (.cells #[.bool false] 4)).alloc (.cells #[.int .u64 0] 27)).alloc (.cells #[.slice (some (ad.add k)) (k + j + 1 - k) (c - k)] 22)).heap.size = w.heap.size + 5 := by simp
  generalize (((((w.alloc (.cells #[.int .u64 0] 27)).alloc (.cells #[.int .i64 0] 3)).alloc (.cells #[.bool false] 4)).alloc (.cells #[.int .u64 0] 27)).alloc (.cells #[.slice (some (ad.add k)) (k + j + 1 - k) (c - k)] 22)) = W5 at *
  refine wpIn_rangeFunc_ownF (α := Nat × Fin 256) rfl (by omega) (gf := 52) (lb := #[.pointer (some ⟨w.heap.size + 1 + 1 + 1 + 1, 0, none⟩)]) rfl trivial (enters_of Try.func52 (by kernel_rfl) rfl)
    (back_stops Fence.wide 4 trivial rfl (by omega) _ w.heap.size (ad.add k) (c - k) s (by omega) (by omega) hbs W5 bS (by omega) (hr3.grown0 hg5))
    (fun h k => ⟨h.1.trans k.1, h.2.trans k.2⟩) (fun W l o o' hl ho hc hw => ⟨belowK_b (w := W5) (by omega) W l o o' hl ho hc hw, keepsBox_putObj o' ho hc⟩) (Below.refl _ _) (fun _ => rfl)
    (fun pre W => (Boxed W w.heap.size 27 (.int .u64 0) ∧ Boxed W (w.heap.size + 1) 3 (.int .i64 0) ∧ Boxed W (w.heap.size + 1 + 1) 4 (.bool false) ∧ Boxed W (w.heap.size + 1 + 1 + 1) 27 (.int .u64 (acc pre : Nat)) ∧ acc pre < 18446744073709551616) ∧ Below w.heap.size w W)
    (fun c pre W => (c = .ret ∧ Over pre ∧ Boxed W w.heap.size 27 (.int .u64 0) ∧ Boxed W (w.heap.size + 1) 3 (.int .i64 0) ∧ Boxed W (w.heap.size + 1 + 1) 4 (.bool false)) ∧ Below w.heap.size w W)
    ?hI ?hIx ⟨⟨b0, b1, b2, bN, by simp [acc]⟩, grown_below hg5⟩ ?a1 ?assign ?body ?done ?stop
  case assign =>
    intro l x W K hK
    gi_wp2
    exact hK
  case hI =>
    rintro s W W' row ⟨⟨h0, h1, h2, h3, h4⟩, h5⟩ hg hr
    have hne : ∀ b, b < w.heap.size + 5 → some b ≠ row := fun b hb e => by have := (hr b e.symm).1; omega
    exact ⟨⟨h0.kept hg (hne _ (by omega)), h1.kept hg (hne _ (by omega)), h2.kept hg (hne _ (by omega)), h3.kept hg (hne _ (by omega)), h4⟩, h5.grown hg h5.size (fun r e => by have := (hr r e).1; omega)⟩
  case hIx =>
    rintro c s W W' row ⟨⟨e, h3, h0, h1, h2⟩, h5⟩ hg hr
    have hne : ∀ b, b < w.heap.size + 5 → some b ≠ row := fun b hb e => by have := (hr b e.symm).1; omega
    exact ⟨⟨e, h3, h0.kept hg (hne _ (by omega)), h1.kept hg (hne _ (by omega)), h2.kept hg (hne _ (by omega))⟩, h5.grown hg h5.size (fun r e => by have := (hr r e).1; omega)⟩
  case body =>
    rintro l pre ⟨i, d⟩ W ⟨⟨h0, h1, h2, h3, h4⟩, h5⟩ hlen
    clear b0 b1 b2 bN bS hacc
    have hsn := Lib.hid (acc_snoc pre (i, d))
    have hd := d.isLt
    generalize hm : acc pre = m at *
    have hm' := Lib.hid hm
    clear hm hsl
    have c0 := h0.cell
    have f0 := h0.frozen
    have c1 := h1.cell
    have f1 := h1.frozen
    have c2 := h2.cell
    have f2 := h2.frozen
    have c3 := h3.cell
    have f3 := h3.frozen
    by_cases hov : m < 144115188075855872
    · have hq : ((m : Int) / 144115188075855872 != 0) = false := by simp; omega
      have hor := u64_seven m (d.val % 128) hov (by omega)
      have hcs : ((d.val % 128 : Nat) : Int) = (d.val : Int) % 128 := by omega
      rw [hcs] at hor
      have hand := u8_and127 d.val hd
      have hcs' := Lib.hid hcs
      clear hcs
      gi_wp2
      refine ⟨KeepsOthers.setCell _ _ _, ⟨(Below.refl _ _).setCell (p := ⟨w.heap.size + 1 + 1 + 1, 0, none⟩) (show w.heap.size ≤ w.heap.size + 1 + 1 + 1 by omega) _, fun v hv => hv.other (by omega) _⟩,
        ⟨h0.other (by omega) _, h1.other (by omega) _, h2.other (by omega) _, ?_, ?_⟩, h5.setCell (p := ⟨w.heap.size + 1 + 1 + 1, 0, none⟩) (show w.heap.size ≤ w.heap.size + 1 + 1 + 1 by omega) _⟩
      · rw [hsn.out, Int.natCast_add, Int.natCast_mul, hcs'.out]
        exact h3.set _
      · rw [hsn.out]
        show m * 128 + d.val % 128 < _
        omega
    · have hq : ((m : Int) / 144115188075855872 != 0) = true := by simp; omega
      gi_wp2
      refine ⟨((KeepsOthers.setCell _ _ _).trans (KeepsOthers.setCell _ _ _)).trans (KeepsOthers.setCell _ _ _), ⟨rfl, ⟨pre, (i, d), rfl, by rw [hm'.out]; omega⟩, ((h0.set _).other (by omega) _).other (by omega) _, ((h1.other (by omega) _).set _).other (by omega) _, ((h2.other (by omega) _).other (by omega) _).set _⟩, ?_⟩
      exact ((h5.setCell (p := ⟨w.heap.size, 0, none⟩) (Nat.le_refl _) _).setCell (p := ⟨w.heap.size + 1, 0, none⟩) (show w.heap.size ≤ w.heap.size + 1 by omega) _).setCell (p := ⟨w.heap.size + 1 + 1, 0, none⟩) (show w.heap.size ≤ w.heap.size + 1 + 1 by omega) _
  case done =>
    rintro D ys W hD rfl ⟨⟨h0, h1, h2, h3, h4⟩, h5⟩ hK
    clear b0 b1 b2 bN bS
    have hv := hacc.out s.length (Nat.le_refl _)
    rw [Nat.sub_self, List.drop_zero] at hv
    rw [hv] at h3 h4
    clear hacc hv
    have hsz := Lib.hid (size_any (valL s) W h4)
    have hgs : getS s j = if valL s < 18446744073709551616 ∧ (putL (valL s)).length = j + 1 then some (valL s, j + 1) else none := rfl
    generalize valL s = v at *
    generalize (putL v).length = len at *
    have hgs' := Lib.hid hgs
    clear hgs
    have c0 := h0.cell
    have f0 := h0.frozen
    have c1 := h1.cell
    have f1 := h1.frozen
    have c2 := h2.cell
    have f2 := h2.frozen
    have c3 := h3.cell
    gi_wp2_with fail
    refine ⟨trivial, ?_⟩
    refine (callsIn_wide.2 hsz.out).mono ?_; rintro e w6 ⟨rfl, rfl⟩
    by_cases hlen : len = j + 1
    · have hq : ((len : Int) != (j : Int) + 1) = false := by simp; omega
      have hpost := Lib.hid (hgs'.out.trans (if_pos ⟨h4, hlen⟩))
      clear hlen
      gi_wp2
      have hK' := (((KeepsOthers.setCell W ⟨w.heap.size, 0, none⟩ (.int .u64 (v : Int))).trans (KeepsOthers.setCell _ ⟨w.heap.size + 1, 0, none⟩ (.int .i64 ((j : Int) + 1)))).trans (KeepsOthers.setCell _ ⟨w.heap.size + 1 + 1, 0, none⟩ (.bool true))).same D _ hK rfl
      refine ⟨by simp, .inl ⟨_, _, rfl, run_takeDeferred hK', ?_⟩⟩
      have g0 := cell_kept (((h0.set (.int .u64 (v : Int))).other (B' := w.heap.size + 1) (by omega) (.int .i64 ((j : Int) + 1))).other (B' := w.heap.size + 1 + 1) (by omega) (.bool true)).cell (grownBy_putObj' _ D (.deferred none)) (fun r e => by cases e; exact ⟨_, hK', rfl⟩)
      have g1 := cell_kept (((h1.other (B' := w.heap.size) (by omega) (.int .u64 (v : Int))).set (.int .i64 ((j : Int) + 1))).other (B' := w.heap.size + 1 + 1) (by omega) (.bool true)).cell (grownBy_putObj' _ D (.deferred none)) (fun r e => by cases e; exact ⟨_, hK', rfl⟩)
      have g2 := cell_kept (((h2.other (B' := w.heap.size) (by omega) (.int .u64 (v : Int))).other (B' := w.heap.size + 1) (by omega) (.int .i64 ((j : Int) + 1))).set (.bool true)).cell (grownBy_putObj' _ D (.deferred none)) (fun r e => by cases e; exact ⟨_, hK', rfl⟩)
      refine ⟨.tuple #[.int .u64 (v : Int), .int .i64 ((j : Int) + 1), .bool true], by simp [results, Try.f27, go_sem, g0, g1, g2], by rw [hpost.out]; rfl, ?_⟩
      exact below_grown ((((h5.setCell (p := ⟨w.heap.size, 0, none⟩) (Nat.le_refl _) (.int .u64 (v : Int))).setCell (p := ⟨w.heap.size + 1, 0, none⟩) (show w.heap.size ≤ w.heap.size + 1 by omega) (.int .i64 ((j : Int) + 1))).setCell (p := ⟨w.heap.size + 1 + 1, 0, none⟩) (show w.heap.size ≤ w.heap.size + 1 + 1 by omega) (.bool true)).trans (belowK_b (w := w) (Nat.le_refl _) _ D _ _ (by omega) hK' rfl rfl))
    · have hq : ((len : Int) != (j : Int) + 1) = true := by simp; omega
      have hpost := Lib.hid (hgs'.out.trans (if_neg (fun h => hlen h.2)))
      clear hlen
      gi_wp2
      have hK' := (((KeepsOthers.setCell W ⟨w.heap.size, 0, none⟩ (.int .u64 0)).trans (KeepsOthers.setCell _ ⟨w.heap.size + 1, 0, none⟩ (.int .i64 0))).trans (KeepsOthers.setCell _ ⟨w.heap.size + 1 + 1, 0, none⟩ (.bool false))).same D _ hK rfl
      refine ⟨by simp, .inl ⟨_, _, rfl, run_takeDeferred hK', ?_⟩⟩
      have g0 := cell_kept (((h0.set (.int .u64 0)).other (B' := w.heap.size + 1) (by omega) (.int .i64 0)).other (B' := w.heap.size + 1 + 1) (by omega) (.bool false)).cell (grownBy_putObj' _ D (.deferred none)) (fun r e => by cases e; exact ⟨_, hK', rfl⟩)
      have g1 := cell_kept (((h1.other (B' := w.heap.size) (by omega) (.int .u64 0)).set (.int .i64 0)).other (B' := w.heap.size + 1 + 1) (by omega) (.bool false)).cell (grownBy_putObj' _ D (.deferred none)) (fun r e => by cases e; exact ⟨_, hK', rfl⟩)
      have g2 := cell_kept (((h2.other (B' := w.heap.size) (by omega) (.int .u64 0)).other (B' := w.heap.size + 1) (by omega) (.int .i64 0)).set (.bool false)).cell (grownBy_putObj' _ D (.deferred none)) (fun r e => by cases e; exact ⟨_, hK', rfl⟩)
      refine ⟨.tuple #[.int .u64 0, .int .i64 0, .bool false], by simp [results, Try.f27, go_sem, g0, g1, g2], by rw [hpost.out]; rfl, ?_⟩
      exact below_grown ((((h5.setCell (p := ⟨w.heap.size, 0, none⟩) (Nat.le_refl _) (.int .u64 0)).setCell (p := ⟨w.heap.size + 1, 0, none⟩) (show w.heap.size ≤ w.heap.size + 1 by omega) (.int .i64 0)).setCell (p := ⟨w.heap.size + 1 + 1, 0, none⟩) (show w.heap.size ≤ w.heap.size + 1 + 1 by omega) (.bool false)).trans (belowK_b (w := w) (Nat.le_refl _) _ D _ _ (by omega) hK' rfl rfl))
  case stop =>
    rintro D c pre W hD ⟨k', hk', rfl⟩ ⟨⟨rfl, hov, h0, h1, h2⟩, h5⟩ hK
    obtain ⟨ini, x, e1, h57⟩ := hov
    clear b0 b1 b2 bN bS
    have hno : ¬ valL s < 18446744073709551616 := by
      cases k' with
      | zero => simp [bwd] at e1
      | succ k' =>
        rw [bwd_succ] at e1
        obtain ⟨rfl, _⟩ := List.append_inj' e1 rfl
        rw [hacc.out k' (by omega)] at h57
        have h6 := valL_drop_le s (s.length - k')
        have h7 : 128 ≤ 128 ^ (s.length - k') := by
          have := Nat.pow_le_pow_right (n := 128) (by omega) (show 1 ≤ s.length - k' by omega)
          simpa using this
        have h8 := Nat.mul_le_mul h7 h57
        omega
    have hpost := Lib.hid (show getS s j = none from if_neg (fun h => hno h.1))
    clear hno hacc h57 e1 hsl
    gi_wp2
    have hK' := hK
    refine ⟨by simp, .inl ⟨_, _, rfl, run_takeDeferred hK', ?_⟩⟩
    have g0 := cell_kept h0.cell (grownBy_putObj' _ D (.deferred none)) (fun r e => by cases e; exact ⟨_, hK', rfl⟩)
    have g1 := cell_kept h1.cell (grownBy_putObj' _ D (.deferred none)) (fun r e => by cases e; exact ⟨_, hK', rfl⟩)
    have g2 := cell_kept h2.cell (grownBy_putObj' _ D (.deferred none)) (fun r e => by cases e; exact ⟨_, hK', rfl⟩)
    refine ⟨.tuple #[.int .u64 0, .int .i64 0, .bool false], by simp [results, Try.f27, go_sem, g0, g1, g2], by rw [hpost.out]; rfl, ?_⟩
    exact below_grown (h5.trans (belowK_b (w := w) (Nat.le_refl _) _ D _ _ (by omega) hK' rfl rfl))
end Go.Proofs.Ythijicpfihpkfaa
