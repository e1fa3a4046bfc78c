/- slices.Insert of nodes. -/
import Derived.Test.YtjnbfgogmhfbiaaVe
import Derived.Lib.Overlaps
import Derived.Lib.AppendZerosOnto
import Derived.Laws.NewBlocks
import Derived.Laws.IdiomCopy
import Derived.Deep.RegionLaw
namespace Go.Proofs.Ytjnbfgogmhfbiaa
open Go Go.RowKit
section
variable {P : Program}
/-- copy of elements of many cells: what is read lies apart, or is read first. -/
theorem run_copy_many (w : World) (dT sT ty elem : TypeId) (size b o dLen dCap : Nat) (a : Addr) (sLen sCap : Nat) (cs : List Value)
    (hu : P.underlying dT = some (.slice elem)) (hs : (P.info? elem).map (·.size) = some size) (k : Nat) (hk : Nat.min sLen dLen = k) (hn : cs.length = k * size)
    (hsrc : ∀ j v, cs[j]? = some v → w.cell? (a.add j) = some v) (hc : ∀ j, j < cs.length → (w.cell? ⟨b, o + j, none⟩).isSome = true) (hf : ∀ j, j < cs.length → w.frozen? ⟨b, o + j, none⟩ = false) (h1 : ∀ v ∈ cs, v.oneCell' = true) :
    (Builtin.copy_ #[dT, sT] ty #[.slice (some ⟨b, o, none⟩) dLen dCap, .slice (some a) sLen sCap]).run P w = .ok (goInt k) (w.setCells b o cs) := by
  subst hk
  have hl := run_firstCells_some (P := P) w size (Nat.min sLen dLen) a sLen sCap cs hn hsrc
  have hst := run_storeCells_cells (P := P) b o cs 0 w (by simpa using hc) (by simpa using hf) h1
  simp only [Nat.add_zero] at hst
  cases hq : P.info? elem with
  | none => simp [hq] at hs
  | some i =>
    have hi : i.size = size := by simpa [hq] using hs
    simp [Builtin.copy_, run_underlying hu, Builtin.lenOf, sizeOf, typeInfo, hq, hi, hl, hst]
theorem wp_copy_run {w : World} {o : Oper} {a : Act} {K : Act → World → Prop} {Q : Exit → Act → World → Prop} (d s : Operand) (t t' : TypeId)
    (ho : o.op = .call { callee := .builtin .copy, args := #[d, s], argTypes := #[t, t'] }) (v u : Value) (hd : a.eval d = v) (hs : a.eval s = u) {v' : Value} {w' : World}
    (hr : (Builtin.copy_ #[t, t'] o.type #[v, u]).run P w = .ok v' w') (h : K (a.put o.dst v') w') : o.wp P a w K Q := by
  unfold Oper.wp execOp
  simp only [ho, resolve, invoke, builtin, Sem.run_bind, Sem.run_pure, Result.andThen_ok, List.map_toArray, List.map_cons, List.map_nil, hd, hs, hr]
  exact h
theorem wpList_copy_run {w : World} {ops : Array Oper} {rest : List Oper} {o : Oper} {a : Act} {Q : Exit → Act → World → Prop} (hgd : o.guard = none) (d s : Operand) (t t' : TypeId)
    (ho : o.op = .call { callee := .builtin .copy, args := #[d, s], argTypes := #[t, t'] }) (v u : Value) (hd : a.eval d = v) (hs : a.eval s = u) {v' : Value} {w' : World}
    (hr : (Builtin.copy_ #[t, t'] o.type #[v, u]).run P w = .ok v' w') (h : wpList P ops Q rest (a.put o.dst v') w') : wpList P ops Q (o :: rest) a w :=
  wpList_plain hgd fun _ hK => wp_copy_run d s t t' ho v u hd hs hr (hK _ _ h)
theorem wpList_append_run_ {w : World} {ops : Array Oper} {rest : List Oper} {o : Oper} {a : Act} {Q : Exit → Act → World → Prop} (hgd : o.guard = none) (d s : Operand) (t t' : TypeId)
    (ho : o.op = .call { callee := .builtin .append, args := #[d, s], argTypes := #[t, t'] }) (v u : Value) (hd : a.eval d = v) (hs : a.eval s = u) {v' : Value} {w' : World}
    (hr : (Builtin.append_ #[t, t'] o.type #[v, u]).run P w = .ok v' w') (h : wpList P ops Q rest (a.put o.dst v') w') : wpList P ops Q (o :: rest) a w :=
  wpList_plain hgd fun _ hK => by
    unfold Oper.wp execOp
    simp only [ho, resolve, invoke, builtin, Sem.run_bind, Sem.run_pure, Result.andThen_ok, List.map_toArray, List.map_cons, List.map_nil, hd, hs, hr]
    exact hK _ _ h
theorem step_copy_run {ops : Array Oper} {o : Oper} {a : Act} {w : World} {K : Act → World → Prop} {Q : Exit → Act → World → Prop} {E : Prop}
    (hg : o.guard = none) (d x : Operand) (dT sT : TypeId) (hop : o.op = Op.call { callee := Callee.builtin Builtin.copy, args := #[d, x], argTypes := #[dT, sT] })
    (v u : Value) (hd : a.eval d = v) (hx : a.eval x = u) {v' : Value} {w' : World} (hr : (Builtin.copy_ #[dT, sT] o.type #[v, u]).run P w = .ok v' w') (hK : K (a.put o.dst v') w') :
    if Region.wanted o (yielded ops a.tmps) = true then Oper.wp P o a w K Q else E := by
  have hw : Region.wanted o (yielded ops a.tmps) = true := by simp [Region.wanted, hg]
  rw [if_pos hw]
  exact wp_copy_run d x dT sT hop v u hd hx hr hK
end
theorem World.shape_row {w : World} {g : Nat} {cur : Array Value} {e : TypeId} {fr : Nat × Nat} (h : w.heap[g]? = some (.cells cur e fr)) : w.shape? g = some (e, cur.size) := by
  unfold World.shape?
  rw [h]
theorem Own.block_ {w : World} {base e size n cap : Nat} {A : Option Addr} {xs : List Value} (h : Own w base e size A n cap xs) (hc : 0 < cap) : ∃ g cur, A = some ⟨g, 0, none⟩ ∧ base ≤ g ∧ w.heap[g]? = some (.cells cur e (0, 0)) ∧ cap * size ≤ cur.size ∧ cur.toList.take (n * size) = xs := by
  rcases h.2.2.2 with h4 | h4
  · omega
  · exact h4
theorem infoS : (Try.prog.info? 32).map (·.size) = some 51 := by
  obtain ⟨i0, hi0, hz0, hz1, hz2⟩ := info_parts infoN
  rw [hi0]
  simp [hz1]
theorem shift_lay (xs ys zs : List Value) (i n m c : Nat) (hy : ys.length = c * 51) (hx : xs.length = n * 51) (hxy : ys.take (n * 51) = xs) (hz : zs.length = m * 51) (hi : i ≤ n) (hc : n + m ≤ c) :
    (layL (layL ys ((i + m) * 51) (xs.drop (i * 51))) (i * 51) zs).take ((n + m) * 51) = xs.take (i * 51) ++ zs ++ xs.drop (i * 51) := by
  apply List.ext_getElem?
  intro t
  have l1 : (xs.take (i * 51)).length = i * 51 := by simp; omega
  have l2 : (xs.drop (i * 51)).length = n * 51 - i * 51 := by simp [hx]
  have l3 : (xs.take (i * 51) ++ zs).length = (i + m) * 51 := by rw [List.length_append, l1, hz]; omega
  have hg : ∀ t, t < n * 51 → ys[t]? = xs[t]? := fun t ht => by rw [← hxy, List.getElem?_take, if_pos ht]
  rw [List.getElem?_take]
  by_cases c0 : t < (n + m) * 51
  · rw [if_pos c0, layL_get _ _ _ _ (by rw [layL_len, hz, hy]; omega), layL_get _ _ _ _ (by rw [l2, hy]; omega), l2, hz]
    by_cases c1 : t < i * 51
    · rw [if_neg (by omega), if_neg (by omega), List.getElem?_append_left (by omega), List.getElem?_append_left (by omega), List.getElem?_take, if_pos c1, hg t (by omega)]
    · by_cases c2 : t < (i + m) * 51
      · rw [if_pos (by omega), List.getElem?_append_left (by omega), List.getElem?_append_right (by omega), l1]
      · rw [if_neg (by omega), if_pos (by omega), List.getElem?_append_right (by omega), l3]
  · rw [if_neg c0, List.getElem?_eq_none (by rw [List.length_append, l3, l2]; omega)]
set_option maxRecDepth 100000 in
set_option maxHeartbeats 4000000 in
theorem ins_shift (w : World) (base n c i m vc vb base' : Nat) (b : Nat) (xs zs : List Value) (h : Own w base 32 51 (some ⟨b, 0, none⟩) n c xs) (hv : Own w base' 32 51 (some ⟨vb, 0, none⟩) m vc zs) (hvb : vb ≠ b) (h1 : ∀ u ∈ xs, u.oneCell' = true) (h2 : ∀ u ∈ zs, u.oneCell' = true) (hi : i < n) (hm : 0 < m) (hroom : n + m ≤ c) :
    Calls Try.prog 39 #[.slice (some ⟨b, 0, none⟩) n c, .int .i64 (i : Int), .slice (some ⟨vb, 0, none⟩) m vc] w fun e w' => e = .returned (.slice (some ⟨b, 0, none⟩) (n + m) c) ∧ Own w' base 32 51 (some ⟨b, 0, none⟩) (n + m) c (xs.take (i * 51) ++ zs ++ xs.drop (i * 51)) ∧ w.grownBy w' (some b) := by
  have hx := h.len
  have hz := hv.len
  have hc63 := h.2.2.1
  unfold maxLen at hc63
  obtain ⟨ys, hfull, hxy⟩ := h.full
  have hy := hfull.len
  obtain ⟨g0, hA0, _, hbg, hgl, hcell⟩ := hfull.cells_ (by rw [hy]; omega)
  obtain rfl : b = g0 := by simpa using hA0
  clear hA0
  obtain ⟨g1, hA1, _, _, hvl, hvcell⟩ := hv.cells_ (by rw [hz]; omega)
  obtain rfl : vb = g1 := by simpa using hA1
  clear hA1
  have hvc := hv.2.1
  obtain ⟨g2, curv, hA2, _, hgv, hcv, _⟩ := hv.block_ (by omega)
  obtain rfl : vb = g2 := by simpa using hA2
  clear hA2
  obtain ⟨g3, curb, hA3, _, hgb, hcb, _⟩ := h.block_ (by omega)
  obtain rfl : b = g3 := by simpa using hA3
  clear hA3
  have hov : ∀ lb cb, (callFunc 55 #[.slice (some ⟨vb, 0, none⟩) m vc, .slice (some ⟨b, (i + m) * 51, none⟩) lb cb]).run Try.prog w = .ok (.value (.bool false)) w := fun lb cb => by
    rw [run_callFunc_extern Try.func55 (by kernel_rfl) (by kernel_rfl) (by kernel_rfl) (e := Extern.SlicesOverlaps.overlaps #[22, 22] #[4]) (by kernel_rfl),
      Lib.run_overlaps_apart w 22 4 32 Try.underlying22 51 (fun w => by
        obtain ⟨i0, hi0, hz0, hz1, hz2⟩ := info_parts infoN
        simp [sizeOf, typeInfo, hi0, hz1]) ⟨vb, 0, none⟩ ⟨b, (i + m) * 51, none⟩ m vc lb cb hvb _ _ _ _ (World.shape_row hgv) (World.shape_row hgb) (by omega) (frozen_of_row w vb 0 _ _ hgv) (frozen_of_row w vb _ _ _ hgv)]
    rfl
  have hd := hfull.grown0 (grown_drew (World.grownBy.refl w none))
  obtain ⟨ds, hds⟩ : ∃ ds, ds = xs.drop (i * 51) := ⟨_, rfl⟩
  have hdl : ds.length = (n - i) * 51 := by rw [hds, List.length_drop, hx]; omega
  have hd1 : ∀ u ∈ ds, u.oneCell' = true := fun u hu => h1 u (List.mem_of_mem_drop (hds ▸ hu))
  have hxy' : ∀ t, t < n * 51 → ys[t]? = xs[t]? := fun t ht => by rw [← hxy, List.getElem?_take, if_pos ht]
  have hcp1 : ∀ ty dc sc, (Builtin.copy_ #[22, 22] ty #[.slice (some ⟨b, (i + m) * 51, none⟩) (n + m - (i + m)) dc, .slice (some ⟨b, i * 51, none⟩) (n + m - i) sc]).run Try.prog w.drew = .ok (goInt (n - i : Nat)) (w.drew.setCells b ((i + m) * 51) ds) := fun ty dc sc =>
    run_copy_many w.drew _ _ ty 32 51 b ((i + m) * 51) _ dc ⟨b, i * 51, none⟩ _ sc ds Try.underlying22 infoS (n - i) (by simp only [Nat.min_def]; split <;> omega) hdl
      (fun j v hj => by
        have ht := (List.getElem?_eq_some_iff.1 hj).1
        rw [hds, List.getElem?_drop] at hj
        rw [Addr.add_lit]
        show w.cell? _ = _
        rw [hcell _ (by omega), hxy' _ (by omega)]
        exact hj)
      (fun j hj => by
        show (w.cell? _).isSome = true
        rw [hcell _ (by omega), List.getElem?_eq_getElem (by omega)]
        rfl)
      (fun j hj => hd.frozen_ (by omega) rfl _) hd1
  obtain ⟨W1, hW1⟩ : ∃ W1, W1 = w.drew.setCells b ((i + m) * 51) ds := ⟨_, rfl⟩
  have o1 : Own W1 base 32 51 (some ⟨b, 0, none⟩) c c (layL ys ((i + m) * 51) ds) := by rw [hW1]; exact hd.setCells ds _ _ _
  have gr1 : w.grownBy W1 (some b) := by rw [hW1]; exact grown_trans (grown_drew (World.grownBy.refl w _)) (grownBy_setCells _ _ _)
  have ov1 := hv.grownBy_ gr1 (.inr (by unfold rowOf; split <;> simp [hvb]))
  obtain ⟨g4, hA4, _, _, _, hvcell1⟩ := ov1.cells_ (by rw [hz]; omega)
  obtain rfl : vb = g4 := by simpa using hA4
  clear hA4
  obtain ⟨g5, hA5, _, _, _, hcell1⟩ := o1.cells_ (by rw [layL_len, hy]; omega)
  obtain rfl : b = g5 := by simpa using hA5
  clear hA5
  have hcp2 : ∀ ty dc, (Builtin.copy_ #[22, 22] ty #[.slice (some ⟨b, i * 51, none⟩) (n + m - i) dc, .slice (some ⟨vb, 0, none⟩) m vc]).run Try.prog W1 = .ok (goInt m) (W1.setCells b (i * 51) zs) := fun ty dc =>
    run_copy_many W1 _ _ ty 32 51 b (i * 51) _ dc ⟨vb, 0, none⟩ m vc zs Try.underlying22 infoS m (by simp only [Nat.min_def]; split <;> omega) hz
      (fun j v hj => by
        have ht := (List.getElem?_eq_some_iff.1 hj).1
        rw [Addr.add_lit, Nat.zero_add, hvcell1 j ht]
        exact hj)
      (fun j hj => by
        rw [hcell1 _ (by rw [layL_len]; omega), List.getElem?_eq_getElem (by rw [layL_len]; omega)]
        rfl)
      (fun j hj => o1.frozen_ (by rw [layL_len]; omega) rfl _) h2
  have hfin := Lib.hid (o1.setCells zs (i * 51) _ _)
  have hgf := Lib.hid (grown_trans gr1 (grownBy_setCells zs (i * 51) _))
  have hlay := Lib.hid (shift_lay xs ys zs i n m c hy hx hxy hz (by omega) hroom)
  have hds' := Lib.hid hds
  have hz1 : ¬ ((m : Int) = 0) := by omega
  have hz2 : ¬ ((i : Int) = (n : Int)) := by omega
  have hw1 : IntKind.i64.wrap ((i : Int) + (m : Int)) = (i : Int) + (m : Int) := by rw [IntKind.wrap_i64]; omega
  have hb1 : (0 : Int) ≤ (i : Int) + (m : Int) := by omega
  have hin : i ≤ n := by omega
  have htn : ((i : Int) + (m : Int)).toNat = i + m := by omega
  have hb2 : ¬ (c = i + m) := by omega
  have hb3 : (i : Int) ≤ (n : Int) + (m : Int) := by omega
  have hb4 : ¬ (c = i) := by omega
  rw [← hW1] at hcp1
  have hW : Hid (W1 = w.drew.setCells b ((i + m) * 51) ds) := Lib.hid hW1
  have hroom' := Lib.hid hroom
  clear h hv hx hz hfull hxy hy hcell hvcell hgv hgb hcv hcb hd hds hdl hd1 hxy' hW1 o1 gr1 ov1 hvcell1 hcell1 h1 h2
  go_enter Try.func39, Try.ntmps39
  go_wp2_with (simp only [hov])
  go_region_law (refine step_copy_run rfl _ _ 22 22 rfl _ _ (by simp [Act.eval, Act.put]) (by simp [Act.eval, Act.put]) (hcp1 _ _ _) ?_)
  go_wp2_with (at_builtin; refine wpList_copy_run rfl _ _ 22 22 rfl _ _ rfl rfl (hcp2 _ _) ?_)
  go_ret
  have hf := hfin.out.take_ (k := n + m) (cap' := c) hroom'.out hroom'.out (Nat.le_refl _)
  rw [hds'.out, hlay.out] at hf
  exact ⟨rfl, hf, hgf.out⟩
end Go.Proofs.Ytjnbfgogmhfbiaa
