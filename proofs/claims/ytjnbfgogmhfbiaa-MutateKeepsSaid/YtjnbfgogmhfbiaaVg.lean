/- slices.Insert of nodes: at the end; where there is no room; whatever. -/
import Derived.Test.YtjnbfgogmhfbiaaVf
namespace Go.Proofs.Ytjnbfgogmhfbiaa
open Go Go.RowKit
theorem grow_lay (xs rs zs : List Value) (i n m G : Nat) (hr : rs.length = G * 51) (hx : xs.length = n * 51) (hrx : ∀ t, t < i * 51 → rs[t]? = xs[t]?) (hz : zs.length = m * 51) (hi : i ≤ n) (hc : n + m ≤ G) :
    (layL (layL rs (i * 51) zs) ((i + m) * 51) (xs.drop (i * 51))).take ((n + m) * 51) = xs.take (i * 51) ++ zs ++ xs.drop (i * 51) := by
  apply List.ext_getElem?
  intro t
  have l1 : (xs.take (i * 51)).length = i * 51 := by simp; omega
  have l2 : (xs.drop (i * 51)).length = n * 51 - i * 51 := by simp [hx]
  have l3 : (xs.take (i * 51) ++ zs).length = (i + m) * 51 := by rw [List.length_append, l1, hz]; omega
  rw [List.getElem?_take]
  by_cases c0 : t < (n + m) * 51
  · rw [if_pos c0, layL_get _ _ _ _ (by rw [layL_len, l2, hr]; omega), layL_get _ _ _ _ (by rw [hz, hr]; omega), l2, hz]
    by_cases c1 : t < i * 51
    · rw [if_neg (by omega), if_neg (by omega), List.getElem?_append_left (by omega), List.getElem?_append_left (by omega), List.getElem?_take, if_pos c1, hrx t c1]
    · by_cases c2 : t < (i + m) * 51
      · rw [if_neg (by omega), if_pos (by omega), List.getElem?_append_left (by omega), List.getElem?_append_right (by omega), l1]
      · rw [if_pos (by omega), List.getElem?_append_right (by omega), l3]
  · rw [if_neg c0, List.getElem?_eq_none (by rw [List.length_append, l3, l2]; omega)]
set_option maxRecDepth 100000 in
set_option maxHeartbeats 4000000 in
theorem ins_grow (w : World) (base n c i m vc vb base' : Nat) (b : Nat) (xs zs : List Value) (hbase : base ≤ w.heap.size) (h : Own w base 32 51 (some ⟨b, 0, none⟩) n c xs) (hv : Own w base' 32 51 (some ⟨vb, 0, none⟩) m vc zs) (h1 : ∀ u ∈ xs, u.oneCell' = true) (h2 : ∀ u ∈ zs, u.oneCell' = true) (hi : i < n) (hm : 0 < m) (hroom : c < n + m) (hbig : n + m ≤ 100000) :
    Calls Try.prog 39 #[.slice (some ⟨b, 0, none⟩) n c, .int .i64 (i : Int), .slice (some ⟨vb, 0, none⟩) m vc] w fun e w' => ∃ b' c', e = .returned (.slice (some ⟨b', 0, none⟩) (n + m) c') ∧ Own w' base 32 51 (some ⟨b', 0, none⟩) (n + m) c' (xs.take (i * 51) ++ zs ++ xs.drop (i * 51)) ∧ w.grownBy w' none := by
  have hx := h.len
  have hz := hv.len
  have hnc := h.2.1
  obtain ⟨g0, hA0, _, hbg, hgl, hcell⟩ := h.cells_ (by rw [hx]; omega)
  obtain rfl : b = g0 := by simpa using hA0
  clear hA0
  obtain ⟨g1, hA1, _, _, hvl, hvcell⟩ := hv.cells_ (by rw [hz]; omega)
  obtain rfl : vb = g1 := by simpa using hA1
  clear hA1
  obtain ⟨i0, hi0, hz0, hzs, hzb⟩ := info_parts infoN
  have hkk : (n : Int) + (m : Int) - (i : Int) = ((n + m - i : Nat) : Int) := by omega
  have hik : i + (n + m - i) = n + m := by omega
  obtain ⟨G, hG⟩ : ∃ G, G = grownCap w (n + m) c 32 := ⟨_, rfl⟩
  obtain ⟨rs, hrs⟩ : ∃ rs : Array Value, rs = (xs.take (i * 51)).toArray ++ Builtin.zeroCells (Value.agg zeroNode.toArray).cells (n + m - i) ++ Builtin.zeroCells (Value.agg zeroNode.toArray).cells (G - (n + m)) := ⟨_, rfl⟩
  obtain ⟨W1, hW1⟩ : ∃ W1, W1 = w.drew.alloc (.cells rs 32) := ⟨_, rfl⟩
  have hGn : n + m ≤ G := by rw [hG]; exact grownCap_ge w _ _ _
  have hG63 : G ≤ maxLen := by
    rw [hG]
    exact grownCap_le_maxLen w (n + m) c 32 (by unfold maxLen; omega)
  have hrl : rs.size = G * 51 := by
    have h51 : (Value.agg zeroNode.toArray).cells.size = 51 := rfl
    rw [hrs, Array.size_append, Array.size_append, size_zeroCells, size_zeroCells, h51, List.size_toArray, List.length_take, hx]
    omega
  have hrz : ∀ ty, (Builtin.append_ #[22, 3] ty #[.slice (some ⟨b, 0, none⟩) i c, .int .i64 ((n : Int) + (m : Int) - (i : Int))]).run Try.prog w = .ok (.slice (some ⟨w.heap.size, 0, none⟩) (n + m) G) W1 := fun ty => by
    have hold : (Builtin.firstCells i0.size i (.slice (some ⟨b, 0, none⟩) i c)).run Try.prog w.drew = .ok (xs.take (i * 51)).toArray w.drew := by
      rw [hzs]
      exact run_firstCells_some w.drew 51 i ⟨b, 0, none⟩ i c (xs.take (i * 51)) (by rw [List.length_take]; omega) (fun j v hj => by
        rw [List.getElem?_take] at hj
        split at hj
        · have ht := (List.getElem?_eq_some_iff.1 hj).1
          rw [Addr.add_lit, Nat.zero_add]
          show w.cell? _ = _
          rw [hcell j ht]
          exact hj
        · cases hj)
    have h := Lib.run_append_grow_zeros w 22 3 ty 32 i0 _ .i64 .i64 Try.underlying22 Try.underlying3 hi0 hz0 (some ⟨b, 0, none⟩) i c (xs.take (i * 51)) hold (n + m - i) (by omega) (by omega) (by omega) (by omega) (by rw [hzb]; omega) (by rw [hzb, hik]; exact growslice_fits hroom (by omega))
    rw [hik] at h
    rw [hkk, h, hW1, hrs, hG]
  have g1 : w.grownBy W1 none := by rw [hW1]; exact grown_trans (grown_drew (World.grownBy.refl w _)) (World.grownBy_alloc _ _ _)
  have o1 : Own W1 w.heap.size 32 51 (some ⟨w.heap.size, 0, none⟩) G G rs.toList :=
    ⟨by rw [Array.length_toList, hrl], Nat.le_refl _, hG63, .inr ⟨_, rs, rfl, Nat.le_refl _, by rw [hW1]; exact heap_alloc_new w.drew _, by rw [hrl]; exact Nat.le_refl _, by rw [List.take_of_length_le (by rw [Array.length_toList, hrl]; exact Nat.le_refl _)]⟩⟩
  have hbW : ∀ j v, xs[j]? = some v → W1.cell? ⟨b, j, none⟩ = some v := fun j v hj => g1.cell (by rw [hcell j (List.getElem?_eq_some_iff.1 hj).1]; exact hj) (by simp)
  have hvW : ∀ j v, zs[j]? = some v → W1.cell? ⟨vb, j, none⟩ = some v := fun j v hj => g1.cell (by rw [hvcell j (List.getElem?_eq_some_iff.1 hj).1]; exact hj) (by simp)
  obtain ⟨B, hB⟩ : ∃ B, B = w.heap.size := ⟨_, rfl⟩
  have hbB : b < B := by omega
  rw [← hB] at hrz o1
  obtain ⟨_, hA1, _, _, _, hcell1⟩ := o1.cells_ (by rw [Array.length_toList, hrl]; omega)
  cases hA1
  have hcpA : ∀ ty dc, (Builtin.copy_ #[22, 22] ty #[.slice (some ⟨B, i * 51, none⟩) (n + m - i) dc, .slice (some ⟨vb, 0, none⟩) m vc]).run Try.prog W1 = .ok (goInt m) (W1.setCells B (i * 51) zs) := fun ty dc =>
    run_copy_many W1 _ _ ty 32 51 B (i * 51) _ dc ⟨vb, 0, none⟩ m vc zs Try.underlying22 infoS m (by simp only [Nat.min_def]; split <;> omega) hz
      (fun j v hj => by rw [Addr.add_lit, Nat.zero_add]; exact hvW j v hj)
      (fun j hj => by rw [hcell1 _ (by rw [Array.length_toList, hrl]; omega), List.getElem?_eq_getElem (by rw [Array.length_toList, hrl]; omega)]; rfl)
      (fun j hj => o1.frozen_ (by rw [Array.length_toList, hrl]; omega) rfl _) h2
  obtain ⟨W2, hW2⟩ : ∃ W2, W2 = W1.setCells B (i * 51) zs := ⟨_, rfl⟩
  have o2 : Own W2 B 32 51 (some ⟨B, 0, none⟩) G G (layL rs.toList (i * 51) zs) := by rw [hW2]; exact o1.setCells zs _ _ _
  have g2 : W1.grownBy W2 (some B) := by rw [hW2]; exact grownBy_setCells _ _ _
  have hb2 : ∀ j v, xs[j]? = some v → W2.cell? ⟨b, j, none⟩ = some v := fun j v hj => g2.cell (hbW j v hj) (fun e => by have h : b = B := Option.some.inj e; omega)
  rw [← hW2] at hcpA
  have o2d := o2.grown0 (grown_drew (World.grownBy.refl W2 none))
  obtain ⟨_, hA2, _, _, _, hcell2⟩ := o2d.cells_ (by rw [layL_len, Array.length_toList, hrl]; omega)
  cases hA2
  obtain ⟨ds, hds⟩ : ∃ ds, ds = xs.drop (i * 51) := ⟨_, rfl⟩
  have hdl : ds.length = (n - i) * 51 := by rw [hds, List.length_drop, hx]; omega
  have hd1 : ∀ u ∈ ds, u.oneCell' = true := fun u hu => h1 u (List.mem_of_mem_drop (hds ▸ hu))
  have hcpB : ∀ ty dc sc, (Builtin.copy_ #[22, 22] ty #[.slice (some ⟨B, (i + m) * 51, none⟩) (n + m - (i + m)) dc, .slice (some ⟨b, i * 51, none⟩) (n - i) sc]).run Try.prog W2.drew = .ok (goInt (n - i : Nat)) (W2.drew.setCells B ((i + m) * 51) ds) := fun ty dc sc =>
    run_copy_many W2.drew _ _ ty 32 51 B ((i + m) * 51) _ dc ⟨b, i * 51, none⟩ (n - i) sc ds Try.underlying22 infoS (n - i) (by simp only [Nat.min_def]; split <;> omega) hdl
      (fun j v hj => by
        rw [hds, List.getElem?_drop] at hj
        rw [Addr.add_lit]
        exact hb2 _ v hj)
      (fun j hj => by rw [hcell2 _ (by rw [layL_len, Array.length_toList, hrl]; omega), List.getElem?_eq_getElem (by rw [layL_len, Array.length_toList, hrl]; omega)]; rfl)
      (fun j hj => o2d.frozen_ (by rw [layL_len, Array.length_toList, hrl]; omega) rfl _) hd1
  have hfin := Lib.hid (o2d.setCells ds ((i + m) * 51) _ _)
  have hgf := Lib.hid (show w.grownBy (W2.drew.setCells B ((i + m) * 51) ds) none from grown_new (grown_drew (grown_new g1 g2 (fun g e => by have := Option.some.inj e; omega))) (grownBy_setCells ds _ _) (fun g e => by have := Option.some.inj e; omega))
  have hlay := Lib.hid (show (layL (layL rs.toList (i * 51) zs) ((i + m) * 51) ds).take ((n + m) * 51) = xs.take (i * 51) ++ zs ++ xs.drop (i * 51) from hds ▸ grow_lay xs rs.toList zs i n m G (by rw [Array.length_toList, hrl]) hx (fun t ht => by
    rw [hrs, Array.toList_append, Array.toList_append, List.append_assoc, List.getElem?_append_left (by simp; omega)]
    show (xs.take (i * 51))[t]? = _
    rw [List.getElem?_take, if_pos ht]) hz (by omega) hGn)
  have hGb := Lib.hid (show base ≤ B by omega)
  have hGn' := Lib.hid hGn
  have hG63' : G ≤ 9223372036854775807 := by unfold maxLen at hG63; exact hG63
  have hz1 : ¬ ((m : Int) = 0) := by omega
  have hz2 : ¬ ((i : Int) = (n : Int)) := by omega
  have hz3 : (c : Int) < (n : Int) + (m : Int) := by omega
  have hw1 : IntKind.i64.wrap ((i : Int) + (m : Int)) = (i : Int) + (m : Int) := by rw [IntKind.wrap_i64]; omega
  have hb1 : (0 : Int) ≤ (i : Int) + (m : Int) := by omega
  have hin : i ≤ n := by omega
  have htn : ((i : Int) + (m : Int)).toNat = i + m := by omega
  have hb3 : (i : Int) ≤ (n : Int) := by omega
  have hGi : ¬ (G = i) := by omega
  have hGim : ¬ (G = i + m) := by omega
  have hci : ¬ (c = i) := by omega
  clear h hv hx hz hcell hvcell hkk hik hG hrs hW1 hGn hG63 hrl g1 o1 hbW hvW hB hcell1 hW2 o2 g2 hb2 o2d hcell2 hds hdl hd1 h1 h2 hbase
  go_enter Try.func39, Try.ntmps39
  go_wp2_with (first
    | (at_builtin; refine wpList_append_run_ rfl _ _ _ _ rfl _ _ rfl rfl (hrz _) ?_)
    | (at_builtin; refine wpList_copy_run rfl _ _ 22 22 rfl _ _ rfl rfl (hcpA _ _) ?_))
  go_region_law (refine step_copy_run rfl _ _ 22 22 rfl _ _ (by simp [Act.eval, Act.put]) (by simp [Act.eval, Act.put]) (hcpB _ _ _) ?_)
  go_wp2
  go_ret
  have hf := hfin.out.take_ (k := n + m) (cap' := G) hGn'.out hGn'.out (Nat.le_refl _)
  rw [hlay.out] at hf
  exact ⟨B, G, rfl, hf.base_ hGb.out, hgf.out⟩
set_option maxRecDepth 100000 in
set_option maxHeartbeats 4000000 in
theorem ins_end (w : World) (base n c m vc B : Nat) (A V : Option Addr) (xs zs : List Value) (hbase : base ≤ w.heap.size) (h : Own w base 32 51 A n c xs) (hz : zs.length = m * 51) (hv : Reads w B V zs) (h2 : ∀ u ∈ zs, u.oneCell' = true) (hm : 0 < m) (hbig : n + m ≤ 100000) :
    Calls Try.prog 39 #[.slice A n c, .int .i64 (n : Int), .slice V m vc] w fun e w' => ∃ A' c', e = .returned (.slice A' (n + m) c') ∧ Own w' base 32 51 A' (n + m) c' (xs ++ zs) ∧ w.grownBy w' (rowOf A c) := by
  obtain ⟨i0, hi0, hz0, hzs, hzb⟩ := info_parts infoN
  have hz1 : ¬ ((m : Int) = 0) := by omega
  have hnc := h.2.1
  have h' := Lib.hid h
  have hv' := Lib.hid hv
  have hz' := Lib.hid hz
  have h2' := Lib.hid h2
  have hbase' := Lib.hid hbase
  clear h hv hz h2 hbase
  by_cases hcn : c = n
  · subst hcn
    go_enter Try.func39, Try.ntmps39
    go_wp2_with (at_builtin; refine wpList_append_Own rfl (.tmp 23) (.tmp 24) _ rfl base 32 i0 _ 51 360 Try.underlying22 hi0 hz0 hzs hzb rfl (by omega) A c c xs rfl h'.out V m vc B zs rfl hz'.out hv'.out h2'.out (by simp only [maxLen]; omega) (by omega) hbase'.out ?_; intro A1 c1 w2 hown1 hg1 _)
    go_ret
    exact ⟨A1, c1, rfl, hown1, hg1⟩
  go_enter Try.func39, Try.ntmps39
  go_wp2_with (at_builtin; refine wpList_append_Own rfl (.tmp 23) (.tmp 24) _ rfl base 32 i0 _ 51 360 Try.underlying22 hi0 hz0 hzs hzb rfl (by omega) A n c xs rfl h'.out V m vc B zs rfl hz'.out hv'.out h2'.out (by simp only [maxLen]; omega) (by omega) hbase'.out ?_; intro A1 c1 w2 hown1 hg1 _)
  go_ret
  exact ⟨A1, c1, rfl, hown1, hg1⟩
/-- Whatever there is room for. -/
theorem ins_nodes (w : World) (base n c i m vc base' : Nat) (A V : Option Addr) (L M : List (List Value)) (hbase : base ≤ w.heap.size) (hL : ∀ y ∈ L, OkAll nodeLs y) (hM : ∀ y ∈ M, OkAll nodeLs y) (h : Own w base 32 51 A n c L.flatten) (hv : Own w base' 32 51 V m vc M.flatten) (hvb : rowOf V vc ≠ rowOf A c) (hi : i ≤ n) (hm : 0 < m) (hbig : n + m ≤ 100000) :
    Calls Try.prog 39 #[.slice A n c, .int .i64 (i : Int), .slice V m vc] w fun e w' => ∃ A' c', e = .returned (.slice A' (n + m) c') ∧ Own w' base 32 51 A' (n + m) c' (L.take i ++ M ++ L.drop i).flatten ∧ w.grownBy w' (rowOf A c) := by
  have hx := h.len
  have hz := hv.len
  rw [List.flatten_append, List.flatten_append, flatten_take51 hL, flatten_drop51 hL]
  by_cases hin : i = n
  · subst hin
    rw [List.take_of_length_le (by omega), List.drop_of_length_le (by omega), List.append_nil]
    exact ins_end w base i c m vc w.heap.size A V L.flatten M.flatten hbase h hz hv.reads (nodes_one hM) hm hbig
  · have hnc := h.2.1
    have hmc := hv.2.1
    obtain ⟨b, cur, hA, _, _, _, _⟩ := h.block_ (by omega)
    obtain ⟨vb, curv, hV, _, _, _, _⟩ := hv.block_ (by omega)
    subst hA
    subst hV
    have hrA : rowOf (some (⟨b, 0, none⟩ : Addr)) c = some b := by unfold rowOf; rw [if_neg (by omega)]; rfl
    have hrV : rowOf (some (⟨vb, 0, none⟩ : Addr)) vc = some vb := by unfold rowOf; rw [if_neg (by omega)]; rfl
    rw [hrA, hrV] at hvb
    rw [hrA]
    by_cases hroom : n + m ≤ c
    · refine (ins_shift w base n c i m vc vb base' b L.flatten M.flatten h hv (fun e => hvb (by rw [e])) (nodes_one hL) (nodes_one hM) (by omega) hm hroom).mono ?_
      rintro e w' ⟨h1, h2, h3⟩
      exact ⟨_, _, h1, h2, h3⟩
    · refine (ins_grow w base n c i m vc vb base' b L.flatten M.flatten hbase h hv (nodes_one hL) (nodes_one hM) (by omega) hm (by omega) hbig).mono ?_
      rintro e w' ⟨b', c', h1, h2, h3⟩
      exact ⟨_, _, h1, h2, grown_drop h3⟩
end Go.Proofs.Ytjnbfgogmhfbiaa
