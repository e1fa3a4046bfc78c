/- Texts of the claim MutateOthers, joined (part 1). -/
import Derived.Test.YtjnbfgogmhfbiaaVd
import Derived.Deep.RegionLaw
import Derived.Lib.SlicesDelete
import Derived.Lib.Overlaps
import Derived.Lib.AppendZerosOnto
import Derived.Laws.NewBlocks
import Derived.Laws.IdiomCopy
import Derived.StillTailTactics
import Derived.Test.YtjnbfgogmhfbiaaRowg
import Derived.Deep.RegionHeld3
import Derived.Deep.DrawnRows
import Derived.Great.BuildSlice
import Derived.Deep.CutBlock
import Derived.Recover
import Derived.Laws.Pointers
import Derived.Deep.RegionWith
import Derived.BigQuiet
import Derived.Deep.QuietTactic
/- slices.Delete of nodes. -/
namespace Go.Proofs.Ytjnbfgogmhfbiaa
open Go Go.RowKit
/-- A row with some cells laid anew. -/
def layL : List Value → Nat → List Value → List Value
  | xs, _, [] => xs
  | xs, o, v :: r => layL (xs.set o v) (o + 1) r
theorem Own.setCells {base e size n cap g : Nat} : ∀ (vs : List Value) (o : Nat) (w : World) (xs : List Value), Own w base e size (some ⟨g, 0, none⟩) n cap xs →
    Own (w.setCells g o vs) base e size (some ⟨g, 0, none⟩) n cap (layL xs o vs)
  | [], _, _, _, h => h
  | v :: r, o, w, xs, h => Own.setCells r (o + 1) _ _ (h.set_ o v)
theorem grownBy_setCells {g : Nat} : ∀ (vs : List Value) (o : Nat) (w : World), w.grownBy (w.setCells g o vs) (some g)
  | [], _, _ => World.grownBy.refl _ _
  | v :: r, o, w => grown_trans (grownBy_setCell w g o v) (grownBy_setCells r (o + 1) _)
theorem layL_get : ∀ (vs : List Value) (o : Nat) (xs : List Value) (t : Nat), o + vs.length ≤ xs.length → (layL xs o vs)[t]? = if o ≤ t ∧ t < o + vs.length then vs[t - o]? else xs[t]?
  | [], o, xs, t, _ => by
    rw [if_neg (fun h => by simp only [List.length_nil] at h; omega)]
    rfl
  | v :: r, o, xs, t, h => by
    simp only [List.length_cons] at h
    rw [layL, layL_get r (o + 1) _ t (by simp; omega)]
    by_cases h1 : o + 1 ≤ t ∧ t < o + 1 + r.length
    · rw [if_pos h1, if_pos (by simp; omega), show t - o = (t - (o + 1)) + 1 by omega, List.getElem?_cons_succ]
    · rw [if_neg h1, List.getElem?_set]
      by_cases h2 : o = t
      · subst h2
        rw [if_pos rfl, if_pos (by omega), if_pos (by simp)]
        simp
      · rw [if_neg h2, if_neg (by simp; omega)]
theorem layL_len : ∀ (vs : List Value) (o : Nat) (xs : List Value), (layL xs o vs).length = xs.length
  | [], _, _ => rfl
  | v :: r, o, xs => by rw [layL, layL_len r]; simp
/-- What is left of a row. -/
theorem Own.shrink {w : World} {base e size n cap m : Nat} {A : Option Addr} {xs : List Value} (h : Own w base e size A n cap xs) (hm : m ≤ n) : Own w base e size A m cap (xs.take (m * size)) := by
  obtain ⟨h1, h2, h3, h4⟩ := h
  have hle : m * size ≤ n * size := Nat.mul_le_mul_right _ hm
  refine ⟨by rw [List.length_take, h1]; omega, by omega, h3, ?_⟩
  rcases h4 with h4 | ⟨g, cur, rfl, hb, hgg, hcs, htake⟩
  · exact .inl h4
  · refine .inr ⟨g, cur, rfl, hb, hgg, hcs, ?_⟩
    rw [← htake, List.take_take, Nat.min_eq_left hle]
theorem cut_lay (xs : List Value) (i j n : Nat) (z : List Value) (hz : z.length = (j - i) * 51) (hn : xs.length = n * 51) (hi : i < j) (hj : j ≤ n) :
    (layL (layL xs (i * 51) (xs.drop (j * 51))) ((i + (n - j)) * 51) z).take ((i + (n - j)) * 51) = xs.take (i * 51) ++ xs.drop (j * 51) := by
  apply List.ext_getElem?
  intro t
  have l1 : (xs.take (i * 51)).length = i * 51 := by simp; omega
  have l2 : (xs.drop (j * 51)).length = n * 51 - j * 51 := by simp [hn]
  rw [List.getElem?_take]
  by_cases c : t < (i + (n - j)) * 51
  · rw [if_pos c, layL_get _ _ _ _ (by rw [layL_len, hz, hn]; omega), if_neg (by omega), layL_get _ _ _ _ (by rw [l2, hn]; omega), l2]
    by_cases c1 : t < i * 51
    · rw [if_neg (by omega), List.getElem?_append_left (by omega), List.getElem?_take, if_pos c1]
    · rw [if_pos (by omega), List.getElem?_append_right (by omega), l1]
  · rw [if_neg c, List.getElem?_eq_none (by rw [List.length_append, l1, l2]; omega)]
theorem run_clear_many {P : Program} (w : World) (t e ty : TypeId) (z : Value) (zs : List Value) (m : Nat) (hm : 0 < m) (ht : P.underlying t = some (.slice e)) (hv : ∀ w, (zeroValue e).run P w = .ok z w) (hz : (Builtin.zeroCells z.cells m).toList = zs) (h0 : ∀ v ∈ zs, v.oneCell' = true) (b o c : Nat)
    (hc : ∀ j, j < zs.length → (w.cell? ⟨b, o + j, none⟩).isSome = true) (hf : ∀ j, j < zs.length → w.frozen? ⟨b, o + j, none⟩ = false) :
    (Builtin.clear_ #[t] ty #[.slice (some ⟨b, o, none⟩) m c]).run P w = .ok (.tuple #[]) (w.setCells b o zs) := by
  obtain ⟨k, rfl⟩ : ∃ k, m = k + 1 := ⟨m - 1, by omega⟩
  have hst := run_storeCells_cells (P := P) b o zs 0 w (by simpa using hc) (by simpa using hf) h0
  simp only [Nat.add_zero] at hst
  simp [Builtin.clear_, run_underlying ht, hv, hz, hst]
def zeroRow (m : Nat) : List Value := (Builtin.zeroCells (Value.agg zeroNode.toArray).cells m).toList
theorem zeroRow_len (m : Nat) : (zeroRow m).length = m * 51 := by
  unfold zeroRow
  rw [Array.length_toList, size_zeroCells]
  rfl
theorem zeroNode_one : ∀ v ∈ zeroNode, v.oneCell' = true := okAll_one (okB_ok nodeLs zeroNode (by decide +kernel))
theorem zeroRow_one (m : Nat) : ∀ v ∈ zeroRow m, v.oneCell' = true := fun v hv => by
  unfold zeroRow Builtin.zeroCells at hv
  rw [Array.toList_map, List.mem_map] at hv
  obtain ⟨k, _, rfl⟩ := hv
  have hc : (Value.agg zeroNode.toArray).cells = zeroNode.toArray := rfl
  have h51 : (Value.agg zeroNode.toArray).cells.size = 51 := rfl
  rw [h51, hc, getElem!_pos _ _ (by show k % 51 < 51; exact Nat.mod_lt _ (by omega))]
  exact zeroNode_one _ (by simp)
set_option maxRecDepth 100000 in
set_option maxHeartbeats 2000000 in
theorem del_cells (w : World) (base n c i j : Nat) (A : Option Addr) (xs : List Value) (h : Own w base 32 51 A n c xs) (h1 : ∀ u ∈ xs, u.oneCell' = true) (hi : i < j) (hjn : j ≤ n) (hn : n ≤ 1000) :
    Calls Try.prog 57 #[.slice A n c, .int .i64 (i : Int), .int .i64 (j : Int)] w fun e w' => e = .returned (.slice A (i + (n - j)) c) ∧ Own w' base 32 51 A (i + (n - j)) c (xs.take (i * 51) ++ xs.drop (j * 51)) ∧ w.grownBy w' (rowOf A c) := by
  have hlx := h.1
  have hnc := h.2.1
  have hcm := h.2.2.1
  unfold maxLen at hcm
  obtain ⟨g, hA, hrow, hbg, hgl, hcell⟩ := h.cells_ (by omega)
  subst hA
  have hd := h.grown0 (grown_drew (World.grownBy.refl w none))
  obtain ⟨news, hnews⟩ : ∃ news, news = xs.drop (j * 51) := ⟨_, rfl⟩
  have hlen : news.length = (n - j) * 51 := by rw [hnews]; simp [hlx]; omega
  obtain ⟨S, hS, hsrc⟩ : ∃ S : Addr, (if c = j then some (⟨g, 0, none⟩ : Addr) else some ⟨g, j * 51, none⟩) = some S ∧ Hid (∀ t u, news[t]? = some u → w.drew.cell? (S.add t) = some u) := by
    by_cases hc : c = j
    · refine ⟨⟨g, 0, none⟩, by simp [hc], Lib.hid fun t u hu => ?_⟩
      have h0 : news.length = 0 := by rw [hlen]; omega
      exfalso
      have ht := (List.getElem?_eq_some_iff.1 hu).1
      omega
    · refine ⟨⟨g, j * 51, none⟩, by simp [hc], Lib.hid fun t u hu => ?_⟩
      have ht := (List.getElem?_eq_some_iff.1 hu).1
      rw [hnews, List.getElem?_drop] at hu
      rw [Addr.add_lit]
      show w.cell? _ = _
      rw [hcell _ (by rw [hlen] at ht; omega)]
      exact hu
  have s2 := Lib.hid (fun u (hu : u ∈ news) => h1 u (List.mem_of_mem_drop (hnews ▸ hu)))
  have s3 : Hid (∀ t, t < news.length → (w.drew.cell? ⟨g, 0 + i * 51 + t, none⟩).isSome = true ∧ w.drew.frozen? ⟨g, 0 + i * 51 + t, none⟩ = false) := Lib.hid fun t ht => by
    rw [hlen] at ht
    refine ⟨?_, hd.frozen_ (by omega) rfl _⟩
    show (w.cell? _).isSome = true
    rw [hcell _ (by omega), List.getElem?_eq_getElem (by omega)]
    rfl
  obtain ⟨W1, hW1⟩ : ∃ W1, W1 = w.drew.setCells g (0 + i * 51) news := ⟨_, rfl⟩
  have o1 : Own W1 base 32 51 (some ⟨g, 0, none⟩) n c (layL xs (i * 51) news) := by rw [hW1, Nat.zero_add]; exact hd.setCells news _ _ _
  have g1 : w.grownBy W1 (some g) := by rw [hW1]; exact grown_trans (grown_drew (World.grownBy.refl w _)) (grownBy_setCells _ _ _)
  obtain ⟨g2, hg2, _, _, _, hcell1⟩ := o1.cells_ (by rw [layL_len]; omega)
  obtain rfl : g = g2 := by simpa using hg2
  clear hg2
  have hm1 : n - (i + (n - j)) = j - i := by omega
  have hcl : ∀ ty, (Builtin.clear_ #[22] ty #[.slice (some ⟨g, (i + (n - j)) * 51, none⟩) (n - (i + (n - j))) (c - (i + (n - j)))]).run Try.prog W1 = .ok (.tuple #[]) (W1.setCells g ((i + (n - j)) * 51) (zeroRow (j - i))) := fun ty => by
    rw [hm1]
    exact run_clear_many W1 _ 32 ty (.agg zeroNode.toArray) (zeroRow (j - i)) (j - i) (by omega) Try.underlying22 Try.zeroValue32 rfl (zeroRow_one _) g _ _ (fun t ht => by rw [zeroRow_len] at ht; rw [hcell1 _ (by rw [layL_len]; omega), List.getElem?_eq_getElem (by rw [layL_len]; omega)]; rfl) (fun t ht => o1.frozen_ (by rw [layL_len]; omega) rfl _)
  have hW : Hid (W1 = w.drew.setCells g (0 + i * 51) news) := Lib.hid hW1
  obtain ⟨i0, hi0, hz0, hz1, hz2⟩ := info_parts infoN
  have hic : i ≤ c := by omega
  have hjc : j ≤ c := by omega
  have hlt : i < j := by omega
  have hne : ¬ c = i + (n - j) := by omega
  have hij : (i : Int) ≤ (j : Int) := by omega
  have o1' := Lib.hid o1
  have g1' := Lib.hid g1
  have hfin := Lib.hid (o1.setCells (zeroRow (j - i)) ((i + (n - j)) * 51) _ _)
  have hcut := Lib.hid (cut_lay xs i j n (zeroRow (j - i)) (zeroRow_len _) hlx hi hjn)
  have hrow' := Lib.hid hrow
  have hnews' := Lib.hid hnews
  clear hW1 o1 g1 hcell1 hrow hcell hd h hnews h1 hlx hm1
  go_enter Try.func57, Try.ntmps57
  go_wp2_with fail
  go_region_law (refine step_append_room rfl (.tmp 22) (.tmp 25) 22 rfl 32 i0 51 Try.underlying22 hi0 hz1 g 0 i c (by simp [Act.eval, Act.put]) S (n - j) (c - j) news (by simp [Act.eval, Act.put]) hlen hsrc.out s2.out (by omega) s3.out ?_; rw [← hW.out])
  go_wp2
  go_ret
  have hf := hfin.out.shrink (m := i + (n - j)) (by omega)
  rw [hnews'.out, hcut.out] at hf
  refine ⟨rfl, hf, ?_⟩
  rw [hrow'.out]
  exact grown_trans g1'.out (grownBy_setCells _ _ _)
theorem flatten_take51 {L : List (List Value)} (h : ∀ y ∈ L, OkAll nodeLs y) : ∀ k, (L.take k).flatten = L.flatten.take (k * 51) := by
  induction L with
  | nil => intro k; simp
  | cons a r ih =>
    intro k
    cases k with
    | zero => simp
    | succ k =>
      have ha : a.length = 51 := (h a (by simp)).len
      rw [List.take_succ_cons, List.flatten_cons, List.flatten_cons, ih (fun y hy => h y (List.mem_cons_of_mem _ hy)) k, List.take_append, ha]
      rw [List.take_of_length_le (l := a) (by omega), show (k + 1) * 51 - 51 = k * 51 by omega]
theorem flatten_drop51 {L : List (List Value)} (h : ∀ y ∈ L, OkAll nodeLs y) (k : Nat) : (L.drop k).flatten = L.flatten.drop (k * 51) := by
  have h1 := flatten_take51 h k
  have h2 : (L.take k).flatten ++ (L.drop k).flatten = L.flatten := by rw [← List.flatten_append, List.take_append_drop]
  have h3 : (L.take k).flatten.length = min (k * 51) L.flatten.length := by rw [h1, List.length_take]
  by_cases hk : k * 51 ≤ L.flatten.length
  · rw [← h2, List.drop_append, h3, Nat.min_eq_left hk, Nat.sub_self, List.drop_zero, List.drop_of_length_le (l := (L.take k).flatten) (by rw [h3]; omega), List.nil_append]
  · have hl := nodes_len h
    rw [List.drop_of_length_le (l := L.flatten) (by omega), List.drop_of_length_le (l := L) (by omega), List.flatten_nil]
theorem del_nodes (w : World) (base n c i j : Nat) (A : Option Addr) (L : List (List Value)) (hL : ∀ y ∈ L, OkAll nodeLs y) (h : Own w base 32 51 A n c L.flatten) (hi : i < j) (hjn : j ≤ n) (hn : n ≤ 1000) :
    Calls Try.prog 57 #[.slice A n c, .int .i64 (i : Int), .int .i64 (j : Int)] w fun e w' => e = .returned (.slice A (i + (n - j)) c) ∧ Own w' base 32 51 A (i + (n - j)) c (L.take i ++ L.drop j).flatten ∧ w.grownBy w' (rowOf A c) := by
  rw [List.flatten_append, flatten_take51 hL, flatten_drop51 hL]
  exact del_cells w base n c i j A L.flatten h (nodes_one hL) hi hjn hn
end Go.Proofs.Ytjnbfgogmhfbiaa
/- slices.Insert of nodes. -/
namespace Go.Proofs.Ytjnbfgogmhfbiaa
open Go Go.RowKit
section
variable {P : Program}
/-- copy of elements of many cells: what is read lies apart, or is read first. -/
theorem run_copy_many (w : World) (dT sT ty elem : TypeId) (size b o dLen dCap : Nat) (a : Addr) (sLen sCap : Nat) (cs : List Value)
    (hu : P.underlying dT = some (.slice elem)) (hs : (P.info? elem).map (·.size) = some size) (k : Nat) (hk : Nat.min sLen dLen = k) (hn : cs.length = k * size)
    (hsrc : ∀ j v, cs[j]? = some v → w.cell? (a.add j) = some v) (hc : ∀ j, j < cs.length → (w.cell? ⟨b, o + j, none⟩).isSome = true) (hf : ∀ j, j < cs.length → w.frozen? ⟨b, o + j, none⟩ = false) (h1 : ∀ v ∈ cs, v.oneCell' = true) :
    (Builtin.copy_ #[dT, sT] ty #[.slice (some ⟨b, o, none⟩) dLen dCap, .slice (some a) sLen sCap]).run P w = .ok (goInt k) (w.setCells b o cs) := by
  subst hk
  have hl := run_firstCells_some (P := P) w size (Nat.min sLen dLen) a sLen sCap cs hn hsrc
  have hst := run_storeCells_cells (P := P) b o cs 0 w (by simpa using hc) (by simpa using hf) h1
  simp only [Nat.add_zero] at hst
  cases hq : P.info? elem with
  | none => simp [hq] at hs
  | some i =>
    have hi : i.size = size := by simpa [hq] using hs
    simp [Builtin.copy_, run_underlying hu, Builtin.lenOf, sizeOf, typeInfo, hq, hi, hl, hst]
theorem wp_copy_run {w : World} {o : Oper} {a : Act} {K : Act → World → Prop} {Q : Exit → Act → World → Prop} (d s : Operand) (t t' : TypeId)
    (ho : o.op = .call { callee := .builtin .copy, args := #[d, s], argTypes := #[t, t'] }) (v u : Value) (hd : a.eval d = v) (hs : a.eval s = u) {v' : Value} {w' : World}
    (hr : (Builtin.copy_ #[t, t'] o.type #[v, u]).run P w = .ok v' w') (h : K (a.put o.dst v') w') : o.wp P a w K Q := by
  unfold Oper.wp execOp
  simp only [ho, resolve, invoke, builtin, Sem.run_bind, Sem.run_pure, Result.andThen_ok, List.map_toArray, List.map_cons, List.map_nil, hd, hs, hr]
  exact h
theorem wpList_copy_run {w : World} {ops : Array Oper} {rest : List Oper} {o : Oper} {a : Act} {Q : Exit → Act → World → Prop} (hgd : o.guard = none) (d s : Operand) (t t' : TypeId)
    (ho : o.op = .call { callee := .builtin .copy, args := #[d, s], argTypes := #[t, t'] }) (v u : Value) (hd : a.eval d = v) (hs : a.eval s = u) {v' : Value} {w' : World}
    (hr : (Builtin.copy_ #[t, t'] o.type #[v, u]).run P w = .ok v' w') (h : wpList P ops Q rest (a.put o.dst v') w') : wpList P ops Q (o :: rest) a w :=
  wpList_plain hgd fun _ hK => wp_copy_run d s t t' ho v u hd hs hr (hK _ _ h)
theorem wpList_append_run_ {w : World} {ops : Array Oper} {rest : List Oper} {o : Oper} {a : Act} {Q : Exit → Act → World → Prop} (hgd : o.guard = none) (d s : Operand) (t t' : TypeId)
    (ho : o.op = .call { callee := .builtin .append, args := #[d, s], argTypes := #[t, t'] }) (v u : Value) (hd : a.eval d = v) (hs : a.eval s = u) {v' : Value} {w' : World}
    (hr : (Builtin.append_ #[t, t'] o.type #[v, u]).run P w = .ok v' w') (h : wpList P ops Q rest (a.put o.dst v') w') : wpList P ops Q (o :: rest) a w :=
  wpList_plain hgd fun _ hK => by
    unfold Oper.wp execOp
    simp only [ho, resolve, invoke, builtin, Sem.run_bind, Sem.run_pure, Result.andThen_ok, List.map_toArray, List.map_cons, List.map_nil, hd, hs, hr]
    exact hK _ _ h
theorem step_copy_run {ops : Array Oper} {o : Oper} {a : Act} {w : World} {K : Act → World → Prop} {Q : Exit → Act → World → Prop} {E : Prop}
    (hg : o.guard = none) (d x : Operand) (dT sT : TypeId) (hop : o.op = Op.call { callee := Callee.builtin Builtin.copy, args := #[d, x], argTypes := #[dT, sT] })
    (v u : Value) (hd : a.eval d = v) (hx : a.eval x = u) {v' : Value} {w' : World} (hr : (Builtin.copy_ #[dT, sT] o.type #[v, u]).run P w = .ok v' w') (hK : K (a.put o.dst v') w') :
    if Region.wanted o (yielded ops a.tmps) = true then Oper.wp P o a w K Q else E := by
  have hw : Region.wanted o (yielded ops a.tmps) = true := by simp [Region.wanted, hg]
  rw [if_pos hw]
  exact wp_copy_run d x dT sT hop v u hd hx hr hK
end
theorem World.shape_row {w : World} {g : Nat} {cur : Array Value} {e : TypeId} {fr : Nat × Nat} (h : w.heap[g]? = some (.cells cur e fr)) : w.shape? g = some (e, cur.size) := by
  unfold World.shape?
  rw [h]
theorem Own.block_ {w : World} {base e size n cap : Nat} {A : Option Addr} {xs : List Value} (h : Own w base e size A n cap xs) (hc : 0 < cap) : ∃ g cur, A = some ⟨g, 0, none⟩ ∧ base ≤ g ∧ w.heap[g]? = some (.cells cur e (0, 0)) ∧ cap * size ≤ cur.size ∧ cur.toList.take (n * size) = xs := by
  rcases h.2.2.2 with h4 | h4
  · omega
  · exact h4
theorem infoS : (Try.prog.info? 32).map (·.size) = some 51 := by
  obtain ⟨i0, hi0, hz0, hz1, hz2⟩ := info_parts infoN
  rw [hi0]
  simp [hz1]
theorem shift_lay (xs ys zs : List Value) (i n m c : Nat) (hy : ys.length = c * 51) (hx : xs.length = n * 51) (hxy : ys.take (n * 51) = xs) (hz : zs.length = m * 51) (hi : i ≤ n) (hc : n + m ≤ c) :
    (layL (layL ys ((i + m) * 51) (xs.drop (i * 51))) (i * 51) zs).take ((n + m) * 51) = xs.take (i * 51) ++ zs ++ xs.drop (i * 51) := by
  apply List.ext_getElem?
  intro t
  have l1 : (xs.take (i * 51)).length = i * 51 := by simp; omega
  have l2 : (xs.drop (i * 51)).length = n * 51 - i * 51 := by simp [hx]
  have l3 : (xs.take (i * 51) ++ zs).length = (i + m) * 51 := by rw [List.length_append, l1, hz]; omega
  have hg : ∀ t, t < n * 51 → ys[t]? = xs[t]? := fun t ht => by rw [← hxy, List.getElem?_take, if_pos ht]
  rw [List.getElem?_take]
  by_cases c0 : t < (n + m) * 51
  · rw [if_pos c0, layL_get _ _ _ _ (by rw [layL_len, hz, hy]; omega), layL_get _ _ _ _ (by rw [l2, hy]; omega), l2, hz]
    by_cases c1 : t < i * 51
    · rw [if_neg (by omega), if_neg (by omega), List.getElem?_append_left (by omega), List.getElem?_append_left (by omega), List.getElem?_take, if_pos c1, hg t (by omega)]
    · by_cases c2 : t < (i + m) * 51
      · rw [if_pos (by omega), List.getElem?_append_left (by omega), List.getElem?_append_right (by omega), l1]
      · rw [if_neg (by omega), if_pos (by omega), List.getElem?_append_right (by omega), l3]
  · rw [if_neg c0, List.getElem?_eq_none (by rw [List.length_append, l3, l2]; omega)]
set_option maxRecDepth 100000 in
set_option maxHeartbeats 4000000 in
theorem ins_shift (w : World) (base n c i m vc vb base' : Nat) (b : Nat) (xs zs : List Value) (h : Own w base 32 51 (some ⟨b, 0, none⟩) n c xs) (hv : Own w base' 32 51 (some ⟨vb, 0, none⟩) m vc zs) (hvb : vb ≠ b) (h1 : ∀ u ∈ xs, u.oneCell' = true) (h2 : ∀ u ∈ zs, u.oneCell' = true) (hi : i < n) (hm : 0 < m) (hroom : n + m ≤ c) :
    Calls Try.prog 39 #[.slice (some ⟨b, 0, none⟩) n c, .int .i64 (i : Int), .slice (some ⟨vb, 0, none⟩) m vc] w fun e w' => e = .returned (.slice (some ⟨b, 0, none⟩) (n + m) c) ∧ Own w' base 32 51 (some ⟨b, 0, none⟩) (n + m) c (xs.take (i * 51) ++ zs ++ xs.drop (i * 51)) ∧ w.grownBy w' (some b) := by
  have hx := h.len
  have hz := hv.len
  have hc63 := h.2.2.1
  unfold maxLen at hc63
  obtain ⟨ys, hfull, hxy⟩ := h.full
  have hy := hfull.len
  obtain ⟨g0, hA0, _, hbg, hgl, hcell⟩ := hfull.cells_ (by rw [hy]; omega)
  obtain rfl : b = g0 := by simpa using hA0
  clear hA0
  obtain ⟨g1, hA1, _, _, hvl, hvcell⟩ := hv.cells_ (by rw [hz]; omega)
  obtain rfl : vb = g1 := by simpa using hA1
  clear hA1
  have hvc := hv.2.1
  obtain ⟨g2, curv, hA2, _, hgv, hcv, _⟩ := hv.block_ (by omega)
  obtain rfl : vb = g2 := by simpa using hA2
  clear hA2
  obtain ⟨g3, curb, hA3, _, hgb, hcb, _⟩ := h.block_ (by omega)
  obtain rfl : b = g3 := by simpa using hA3
  clear hA3
  have hov : ∀ lb cb, (callFunc 55 #[.slice (some ⟨vb, 0, none⟩) m vc, .slice (some ⟨b, (i + m) * 51, none⟩) lb cb]).run Try.prog w = .ok (.value (.bool false)) w := fun lb cb => by
    rw [run_callFunc_extern Try.func55 (by kernel_rfl) (by kernel_rfl) (by kernel_rfl) (e := Extern.SlicesOverlaps.overlaps #[22, 22] #[4]) (by kernel_rfl),
      Lib.run_overlaps_apart w 22 4 32 Try.underlying22 51 (fun w => by
        obtain ⟨i0, hi0, hz0, hz1, hz2⟩ := info_parts infoN
        simp [sizeOf, typeInfo, hi0, hz1]) ⟨vb, 0, none⟩ ⟨b, (i + m) * 51, none⟩ m vc lb cb hvb _ _ _ _ (World.shape_row hgv) (World.shape_row hgb) (by omega) (frozen_of_row w vb 0 _ _ hgv) (frozen_of_row w vb _ _ _ hgv)]
    rfl
  have hd := hfull.grown0 (grown_drew (World.grownBy.refl w none))
  obtain ⟨ds, hds⟩ : ∃ ds, ds = xs.drop (i * 51) := ⟨_, rfl⟩
  have hdl : ds.length = (n - i) * 51 := by rw [hds, List.length_drop, hx]; omega
  have hd1 : ∀ u ∈ ds, u.oneCell' = true := fun u hu => h1 u (List.mem_of_mem_drop (hds ▸ hu))
  have hxy' : ∀ t, t < n * 51 → ys[t]? = xs[t]? := fun t ht => by rw [← hxy, List.getElem?_take, if_pos ht]
  have hcp1 : ∀ ty dc sc, (Builtin.copy_ #[22, 22] ty #[.slice (some ⟨b, (i + m) * 51, none⟩) (n + m - (i + m)) dc, .slice (some ⟨b, i * 51, none⟩) (n + m - i) sc]).run Try.prog w.drew = .ok (goInt (n - i : Nat)) (w.drew.setCells b ((i + m) * 51) ds) := fun ty dc sc =>
    run_copy_many w.drew _ _ ty 32 51 b ((i + m) * 51) _ dc ⟨b, i * 51, none⟩ _ sc ds Try.underlying22 infoS (n - i) (by simp only [Nat.min_def]; split <;> omega) hdl
      (fun j v hj => by
        have ht := (List.getElem?_eq_some_iff.1 hj).1
        rw [hds, List.getElem?_drop] at hj
        rw [Addr.add_lit]
        show w.cell? _ = _
        rw [hcell _ (by omega), hxy' _ (by omega)]
        exact hj)
      (fun j hj => by
        show (w.cell? _).isSome = true
        rw [hcell _ (by omega), List.getElem?_eq_getElem (by omega)]
        rfl)
      (fun j hj => hd.frozen_ (by omega) rfl _) hd1
  obtain ⟨W1, hW1⟩ : ∃ W1, W1 = w.drew.setCells b ((i + m) * 51) ds := ⟨_, rfl⟩
  have o1 : Own W1 base 32 51 (some ⟨b, 0, none⟩) c c (layL ys ((i + m) * 51) ds) := by rw [hW1]; exact hd.setCells ds _ _ _
  have gr1 : w.grownBy W1 (some b) := by rw [hW1]; exact grown_trans (grown_drew (World.grownBy.refl w _)) (grownBy_setCells _ _ _)
  have ov1 := hv.grownBy_ gr1 (.inr (by unfold rowOf; split <;> simp [hvb]))
  obtain ⟨g4, hA4, _, _, _, hvcell1⟩ := ov1.cells_ (by rw [hz]; omega)
  obtain rfl : vb = g4 := by simpa using hA4
  clear hA4
  obtain ⟨g5, hA5, _, _, _, hcell1⟩ := o1.cells_ (by rw [layL_len, hy]; omega)
  obtain rfl : b = g5 := by simpa using hA5
  clear hA5
  have hcp2 : ∀ ty dc, (Builtin.copy_ #[22, 22] ty #[.slice (some ⟨b, i * 51, none⟩) (n + m - i) dc, .slice (some ⟨vb, 0, none⟩) m vc]).run Try.prog W1 = .ok (goInt m) (W1.setCells b (i * 51) zs) := fun ty dc =>
    run_copy_many W1 _ _ ty 32 51 b (i * 51) _ dc ⟨vb, 0, none⟩ m vc zs Try.underlying22 infoS m (by simp only [Nat.min_def]; split <;> omega) hz
      (fun j v hj => by
        have ht := (List.getElem?_eq_some_iff.1 hj).1
        rw [Addr.add_lit, Nat.zero_add, hvcell1 j ht]
        exact hj)
      (fun j hj => by
        rw [hcell1 _ (by rw [layL_len]; omega), List.getElem?_eq_getElem (by rw [layL_len]; omega)]
        rfl)
      (fun j hj => o1.frozen_ (by rw [layL_len]; omega) rfl _) h2
  have hfin := Lib.hid (o1.setCells zs (i * 51) _ _)
  have hgf := Lib.hid (grown_trans gr1 (grownBy_setCells zs (i * 51) _))
  have hlay := Lib.hid (shift_lay xs ys zs i n m c hy hx hxy hz (by omega) hroom)
  have hds' := Lib.hid hds
  have hz1 : ¬ ((m : Int) = 0) := by omega
  have hz2 : ¬ ((i : Int) = (n : Int)) := by omega
  have hw1 : IntKind.i64.wrap ((i : Int) + (m : Int)) = (i : Int) + (m : Int) := by rw [IntKind.wrap_i64]; omega
  have hb1 : (0 : Int) ≤ (i : Int) + (m : Int) := by omega
  have hin : i ≤ n := by omega
  have htn : ((i : Int) + (m : Int)).toNat = i + m := by omega
  have hb2 : ¬ (c = i + m) := by omega
  have hb3 : (i : Int) ≤ (n : Int) + (m : Int) := by omega
  have hb4 : ¬ (c = i) := by omega
  rw [← hW1] at hcp1
  have hW : Hid (W1 = w.drew.setCells b ((i + m) * 51) ds) := Lib.hid hW1
  have hroom' := Lib.hid hroom
  clear h hv hx hz hfull hxy hy hcell hvcell hgv hgb hcv hcb hd hds hdl hd1 hxy' hW1 o1 gr1 ov1 hvcell1 hcell1 h1 h2
  go_enter Try.func39, Try.ntmps39
  go_wp2_with (simp only [hov])
  go_region_law (refine step_copy_run rfl _ _ 22 22 rfl _ _ (by simp [Act.eval, Act.put]) (by simp [Act.eval, Act.put]) (hcp1 _ _ _) ?_)
  go_wp2_with (at_builtin; refine wpList_copy_run rfl _ _ 22 22 rfl _ _ rfl rfl (hcp2 _ _) ?_)
  go_ret
  have hf := hfin.out.take_ (k := n + m) (cap' := c) hroom'.out hroom'.out (Nat.le_refl _)
  rw [hds'.out, hlay.out] at hf
  exact ⟨rfl, hf, hgf.out⟩
end Go.Proofs.Ytjnbfgogmhfbiaa
/- slices.Insert of nodes: at the end; where there is no room; whatever. -/
namespace Go.Proofs.Ytjnbfgogmhfbiaa
open Go Go.RowKit
theorem grow_lay (xs rs zs : List Value) (i n m G : Nat) (hr : rs.length = G * 51) (hx : xs.length = n * 51) (hrx : ∀ t, t < i * 51 → rs[t]? = xs[t]?) (hz : zs.length = m * 51) (hi : i ≤ n) (hc : n + m ≤ G) :
    (layL (layL rs (i * 51) zs) ((i + m) * 51) (xs.drop (i * 51))).take ((n + m) * 51) = xs.take (i * 51) ++ zs ++ xs.drop (i * 51) := by
  apply List.ext_getElem?
  intro t
  have l1 : (xs.take (i * 51)).length = i * 51 := by simp; omega
  have l2 : (xs.drop (i * 51)).length = n * 51 - i * 51 := by simp [hx]
  have l3 : (xs.take (i * 51) ++ zs).length = (i + m) * 51 := by rw [List.length_append, l1, hz]; omega
  rw [List.getElem?_take]
  by_cases c0 : t < (n + m) * 51
  · rw [if_pos c0, layL_get _ _ _ _ (by rw [layL_len, l2, hr]; omega), layL_get _ _ _ _ (by rw [hz, hr]; omega), l2, hz]
    by_cases c1 : t < i * 51
    · rw [if_neg (by omega), if_neg (by omega), List.getElem?_append_left (by omega), List.getElem?_append_left (by omega), List.getElem?_take, if_pos c1, hrx t c1]
    · by_cases c2 : t < (i + m) * 51
      · rw [if_neg (by omega), if_pos (by omega), List.getElem?_append_left (by omega), List.getElem?_append_right (by omega), l1]
      · rw [if_pos (by omega), List.getElem?_append_right (by omega), l3]
  · rw [if_neg c0, List.getElem?_eq_none (by rw [List.length_append, l3, l2]; omega)]
set_option maxRecDepth 100000 in
set_option maxHeartbeats 4000000 in
theorem ins_grow (w : World) (base n c i m vc vb base' : Nat) (b : Nat) (xs zs : List Value) (hbase : base ≤ w.heap.size) (h : Own w base 32 51 (some ⟨b, 0, none⟩) n c xs) (hv : Own w base' 32 51 (some ⟨vb, 0, none⟩) m vc zs) (h1 : ∀ u ∈ xs, u.oneCell' = true) (h2 : ∀ u ∈ zs, u.oneCell' = true) (hi : i < n) (hm : 0 < m) (hroom : c < n + m) (hbig : n + m ≤ 100000) :
    Calls Try.prog 39 #[.slice (some ⟨b, 0, none⟩) n c, .int .i64 (i : Int), .slice (some ⟨vb, 0, none⟩) m vc] w fun e w' => ∃ b' c', e = .returned (.slice (some ⟨b', 0, none⟩) (n + m) c') ∧ Own w' base 32 51 (some ⟨b', 0, none⟩) (n + m) c' (xs.take (i * 51) ++ zs ++ xs.drop (i * 51)) ∧ w.grownBy w' none := by
  have hx := h.len
  have hz := hv.len
  have hnc := h.2.1
  obtain ⟨g0, hA0, _, hbg, hgl, hcell⟩ := h.cells_ (by rw [hx]; omega)
  obtain rfl : b = g0 := by simpa using hA0
  clear hA0
  obtain ⟨g1, hA1, _, _, hvl, hvcell⟩ := hv.cells_ (by rw [hz]; omega)
  obtain rfl : vb = g1 := by simpa using hA1
  clear hA1
  obtain ⟨i0, hi0, hz0, hzs, hzb⟩ := info_parts infoN
  have hkk : (n : Int) + (m : Int) - (i : Int) = ((n + m - i : Nat) : Int) := by omega
  have hik : i + (n + m - i) = n + m := by omega
  obtain ⟨G, hG⟩ : ∃ G, G = grownCap w (n + m) c 32 := ⟨_, rfl⟩
  obtain ⟨rs, hrs⟩ : ∃ rs : Array Value, rs = (xs.take (i * 51)).toArray ++ Builtin.zeroCells (Value.agg zeroNode.toArray).cells (n + m - i) ++ Builtin.zeroCells (Value.agg zeroNode.toArray).cells (G - (n + m)) := ⟨_, rfl⟩
  obtain ⟨W1, hW1⟩ : ∃ W1, W1 = w.drew.alloc (.cells rs 32) := ⟨_, rfl⟩
  have hGn : n + m ≤ G := by rw [hG]; exact grownCap_ge w _ _ _
  have hG63 : G ≤ maxLen := by
    rw [hG]
    exact grownCap_le_maxLen w (n + m) c 32 (by unfold maxLen; omega)
  have hrl : rs.size = G * 51 := by
    have h51 : (Value.agg zeroNode.toArray).cells.size = 51 := rfl
    rw [hrs, Array.size_append, Array.size_append, size_zeroCells, size_zeroCells, h51, List.size_toArray, List.length_take, hx]
    omega
  have hrz : ∀ ty, (Builtin.append_ #[22, 3] ty #[.slice (some ⟨b, 0, none⟩) i c, .int .i64 ((n : Int) + (m : Int) - (i : Int))]).run Try.prog w = .ok (.slice (some ⟨w.heap.size, 0, none⟩) (n + m) G) W1 := fun ty => by
    have hold : (Builtin.firstCells i0.size i (.slice (some ⟨b, 0, none⟩) i c)).run Try.prog w.drew = .ok (xs.take (i * 51)).toArray w.drew := by
      rw [hzs]
      exact run_firstCells_some w.drew 51 i ⟨b, 0, none⟩ i c (xs.take (i * 51)) (by rw [List.length_take]; omega) (fun j v hj => by
        rw [List.getElem?_take] at hj
        split at hj
        · have ht := (List.getElem?_eq_some_iff.1 hj).1
          rw [Addr.add_lit, Nat.zero_add]
          show w.cell? _ = _
          rw [hcell j ht]
          exact hj
        · cases hj)
    have h := Lib.run_append_grow_zeros w 22 3 ty 32 i0 _ .i64 .i64 Try.underlying22 Try.underlying3 hi0 hz0 (some ⟨b, 0, none⟩) i c (xs.take (i * 51)) hold (n + m - i) (by omega) (by omega) (by omega) (by omega) (by rw [hzb]; omega) (by rw [hzb, hik]; exact growslice_fits hroom (by omega))
    rw [hik] at h
    rw [hkk, h, hW1, hrs, hG]
  have g1 : w.grownBy W1 none := by rw [hW1]; exact grown_trans (grown_drew (World.grownBy.refl w _)) (World.grownBy_alloc _ _ _)
  have o1 : Own W1 w.heap.size 32 51 (some ⟨w.heap.size, 0, none⟩) G G rs.toList :=
    ⟨by rw [Array.length_toList, hrl], Nat.le_refl _, hG63, .inr ⟨_, rs, rfl, Nat.le_refl _, by rw [hW1]; exact heap_alloc_new w.drew _, by rw [hrl]; exact Nat.le_refl _, by rw [List.take_of_length_le (by rw [Array.length_toList, hrl]; exact Nat.le_refl _)]⟩⟩
  have hbW : ∀ j v, xs[j]? = some v → W1.cell? ⟨b, j, none⟩ = some v := fun j v hj => g1.cell (by rw [hcell j (List.getElem?_eq_some_iff.1 hj).1]; exact hj) (by simp)
  have hvW : ∀ j v, zs[j]? = some v → W1.cell? ⟨vb, j, none⟩ = some v := fun j v hj => g1.cell (by rw [hvcell j (List.getElem?_eq_some_iff.1 hj).1]; exact hj) (by simp)
  obtain ⟨B, hB⟩ : ∃ B, B = w.heap.size := ⟨_, rfl⟩
  have hbB : b < B := by omega
  rw [← hB] at hrz o1
  obtain ⟨_, hA1, _, _, _, hcell1⟩ := o1.cells_ (by rw [Array.length_toList, hrl]; omega)
  cases hA1
  have hcpA : ∀ ty dc, (Builtin.copy_ #[22, 22] ty #[.slice (some ⟨B, i * 51, none⟩) (n + m - i) dc, .slice (some ⟨vb, 0, none⟩) m vc]).run Try.prog W1 = .ok (goInt m) (W1.setCells B (i * 51) zs) := fun ty dc =>
    run_copy_many W1 _ _ ty 32 51 B (i * 51) _ dc ⟨vb, 0, none⟩ m vc zs Try.underlying22 infoS m (by simp only [Nat.min_def]; split <;> omega) hz
      (fun j v hj => by rw [Addr.add_lit, Nat.zero_add]; exact hvW j v hj)
      (fun j hj => by rw [hcell1 _ (by rw [Array.length_toList, hrl]; omega), List.getElem?_eq_getElem (by rw [Array.length_toList, hrl]; omega)]; rfl)
      (fun j hj => o1.frozen_ (by rw [Array.length_toList, hrl]; omega) rfl _) h2
  obtain ⟨W2, hW2⟩ : ∃ W2, W2 = W1.setCells B (i * 51) zs := ⟨_, rfl⟩
  have o2 : Own W2 B 32 51 (some ⟨B, 0, none⟩) G G (layL rs.toList (i * 51) zs) := by rw [hW2]; exact o1.setCells zs _ _ _
  have g2 : W1.grownBy W2 (some B) := by rw [hW2]; exact grownBy_setCells _ _ _
  have hb2 : ∀ j v, xs[j]? = some v → W2.cell? ⟨b, j, none⟩ = some v := fun j v hj => g2.cell (hbW j v hj) (fun e => by have h : b = B := Option.some.inj e; omega)
  rw [← hW2] at hcpA
  have o2d := o2.grown0 (grown_drew (World.grownBy.refl W2 none))
  obtain ⟨_, hA2, _, _, _, hcell2⟩ := o2d.cells_ (by rw [layL_len, Array.length_toList, hrl]; omega)
  cases hA2
  obtain ⟨ds, hds⟩ : ∃ ds, ds = xs.drop (i * 51) := ⟨_, rfl⟩
  have hdl : ds.length = (n - i) * 51 := by rw [hds, List.length_drop, hx]; omega
  have hd1 : ∀ u ∈ ds, u.oneCell' = true := fun u hu => h1 u (List.mem_of_mem_drop (hds ▸ hu))
  have hcpB : ∀ ty dc sc, (Builtin.copy_ #[22, 22] ty #[.slice (some ⟨B, (i + m) * 51, none⟩) (n + m - (i + m)) dc, .slice (some ⟨b, i * 51, none⟩) (n - i) sc]).run Try.prog W2.drew = .ok (goInt (n - i : Nat)) (W2.drew.setCells B ((i + m) * 51) ds) := fun ty dc sc =>
    run_copy_many W2.drew _ _ ty 32 51 B ((i + m) * 51) _ dc ⟨b, i * 51, none⟩ (n - i) sc ds Try.underlying22 infoS (n - i) (by simp only [Nat.min_def]; split <;> omega) hdl
      (fun j v hj => by
        rw [hds, List.getElem?_drop] at hj
        rw [Addr.add_lit]
        exact hb2 _ v hj)
      (fun j hj => by rw [hcell2 _ (by rw [layL_len, Array.length_toList, hrl]; omega), List.getElem?_eq_getElem (by rw [layL_len, Array.length_toList, hrl]; omega)]; rfl)
      (fun j hj => o2d.frozen_ (by rw [layL_len, Array.length_toList, hrl]; omega) rfl _) hd1
  have hfin := Lib.hid (o2d.setCells ds ((i + m) * 51) _ _)
  have hgf := Lib.hid (show w.grownBy (W2.drew.setCells B ((i + m) * 51) ds) none from grown_new (grown_drew (grown_new g1 g2 (fun g e => by have := Option.some.inj e; omega))) (grownBy_setCells ds _ _) (fun g e => by have := Option.some.inj e; omega))
  have hlay := Lib.hid (show (layL (layL rs.toList (i * 51) zs) ((i + m) * 51) ds).take ((n + m) * 51) = xs.take (i * 51) ++ zs ++ xs.drop (i * 51) from hds ▸ grow_lay xs rs.toList zs i n m G (by rw [Array.length_toList, hrl]) hx (fun t ht => by
    rw [hrs, Array.toList_append, Array.toList_append, List.append_assoc, List.getElem?_append_left (by simp; omega)]
    show (xs.take (i * 51))[t]? = _
    rw [List.getElem?_take, if_pos ht]) hz (by omega) hGn)
  have hGb := Lib.hid (show base ≤ B by omega)
  have hGn' := Lib.hid hGn
  have hG63' : G ≤ 9223372036854775807 := by unfold maxLen at hG63; exact hG63
  have hz1 : ¬ ((m : Int) = 0) := by omega
  have hz2 : ¬ ((i : Int) = (n : Int)) := by omega
  have hz3 : (c : Int) < (n : Int) + (m : Int) := by omega
  have hw1 : IntKind.i64.wrap ((i : Int) + (m : Int)) = (i : Int) + (m : Int) := by rw [IntKind.wrap_i64]; omega
  have hb1 : (0 : Int) ≤ (i : Int) + (m : Int) := by omega
  have hin : i ≤ n := by omega
  have htn : ((i : Int) + (m : Int)).toNat = i + m := by omega
  have hb3 : (i : Int) ≤ (n : Int) := by omega
  have hGi : ¬ (G = i) := by omega
  have hGim : ¬ (G = i + m) := by omega
  have hci : ¬ (c = i) := by omega
  clear h hv hx hz hcell hvcell hkk hik hG hrs hW1 hGn hG63 hrl g1 o1 hbW hvW hB hcell1 hW2 o2 g2 hb2 o2d hcell2 hds hdl hd1 h1 h2 hbase
  go_enter Try.func39, Try.ntmps39
  go_wp2_with (first
    | (at_builtin; refine wpList_append_run_ rfl _ _ _ _ rfl _ _ rfl rfl (hrz _) ?_)
    | (at_builtin; refine wpList_copy_run rfl _ _ 22 22 rfl _ _ rfl rfl (hcpA _ _) ?_))
  go_region_law (refine step_copy_run rfl _ _ 22 22 rfl _ _ (by simp [Act.eval, Act.put]) (by simp [Act.eval, Act.put]) (hcpB _ _ _) ?_)
  go_wp2
  go_ret
  have hf := hfin.out.take_ (k := n + m) (cap' := G) hGn'.out hGn'.out (Nat.le_refl _)
  rw [hlay.out] at hf
  exact ⟨B, G, rfl, hf.base_ hGb.out, hgf.out⟩
set_option maxRecDepth 100000 in
set_option maxHeartbeats 4000000 in
theorem ins_end (w : World) (base n c m vc B : Nat) (A V : Option Addr) (xs zs : List Value) (hbase : base ≤ w.heap.size) (h : Own w base 32 51 A n c xs) (hz : zs.length = m * 51) (hv : Reads w B V zs) (h2 : ∀ u ∈ zs, u.oneCell' = true) (hm : 0 < m) (hbig : n + m ≤ 100000) :
    Calls Try.prog 39 #[.slice A n c, .int .i64 (n : Int), .slice V m vc] w fun e w' => ∃ A' c', e = .returned (.slice A' (n + m) c') ∧ Own w' base 32 51 A' (n + m) c' (xs ++ zs) ∧ w.grownBy w' (rowOf A c) := by
  obtain ⟨i0, hi0, hz0, hzs, hzb⟩ := info_parts infoN
  have hz1 : ¬ ((m : Int) = 0) := by omega
  have hnc := h.2.1
  have h' := Lib.hid h
  have hv' := Lib.hid hv
  have hz' := Lib.hid hz
  have h2' := Lib.hid h2
  have hbase' := Lib.hid hbase
  clear h hv hz h2 hbase
  by_cases hcn : c = n
  · subst hcn
    go_enter Try.func39, Try.ntmps39
    go_wp2_with (at_builtin; refine wpList_append_Own rfl (.tmp 23) (.tmp 24) _ rfl base 32 i0 _ 51 360 Try.underlying22 hi0 hz0 hzs hzb rfl (by omega) A c c xs rfl h'.out V m vc B zs rfl hz'.out hv'.out h2'.out (by simp only [maxLen]; omega) (by omega) hbase'.out ?_; intro A1 c1 w2 hown1 hg1 _)
    go_ret
    exact ⟨A1, c1, rfl, hown1, hg1⟩
  go_enter Try.func39, Try.ntmps39
  go_wp2_with (at_builtin; refine wpList_append_Own rfl (.tmp 23) (.tmp 24) _ rfl base 32 i0 _ 51 360 Try.underlying22 hi0 hz0 hzs hzb rfl (by omega) A n c xs rfl h'.out V m vc B zs rfl hz'.out hv'.out h2'.out (by simp only [maxLen]; omega) (by omega) hbase'.out ?_; intro A1 c1 w2 hown1 hg1 _)
  go_ret
  exact ⟨A1, c1, rfl, hown1, hg1⟩
/-- Whatever there is room for. -/
theorem ins_nodes (w : World) (base n c i m vc base' : Nat) (A V : Option Addr) (L M : List (List Value)) (hbase : base ≤ w.heap.size) (hL : ∀ y ∈ L, OkAll nodeLs y) (hM : ∀ y ∈ M, OkAll nodeLs y) (h : Own w base 32 51 A n c L.flatten) (hv : Own w base' 32 51 V m vc M.flatten) (hvb : rowOf V vc ≠ rowOf A c) (hi : i ≤ n) (hm : 0 < m) (hbig : n + m ≤ 100000) :
    Calls Try.prog 39 #[.slice A n c, .int .i64 (i : Int), .slice V m vc] w fun e w' => ∃ A' c', e = .returned (.slice A' (n + m) c') ∧ Own w' base 32 51 A' (n + m) c' (L.take i ++ M ++ L.drop i).flatten ∧ w.grownBy w' (rowOf A c) := by
  have hx := h.len
  have hz := hv.len
  rw [List.flatten_append, List.flatten_append, flatten_take51 hL, flatten_drop51 hL]
  by_cases hin : i = n
  · subst hin
    rw [List.take_of_length_le (by omega), List.drop_of_length_le (by omega), List.append_nil]
    exact ins_end w base i c m vc w.heap.size A V L.flatten M.flatten hbase h hz hv.reads (nodes_one hM) hm hbig
  · have hnc := h.2.1
    have hmc := hv.2.1
    obtain ⟨b, cur, hA, _, _, _, _⟩ := h.block_ (by omega)
    obtain ⟨vb, curv, hV, _, _, _, _⟩ := hv.block_ (by omega)
    subst hA
    subst hV
    have hrA : rowOf (some (⟨b, 0, none⟩ : Addr)) c = some b := by unfold rowOf; rw [if_neg (by omega)]; rfl
    have hrV : rowOf (some (⟨vb, 0, none⟩ : Addr)) vc = some vb := by unfold rowOf; rw [if_neg (by omega)]; rfl
    rw [hrA, hrV] at hvb
    rw [hrA]
    by_cases hroom : n + m ≤ c
    · refine (ins_shift w base n c i m vc vb base' b L.flatten M.flatten h hv (fun e => hvb (by rw [e])) (nodes_one hL) (nodes_one hM) (by omega) hm hroom).mono ?_
      rintro e w' ⟨h1, h2, h3⟩
      exact ⟨_, _, h1, h2, h3⟩
    · refine (ins_grow w base n c i m vc vb base' b L.flatten M.flatten hbase h hv (nodes_one hL) (nodes_one hM) (by omega) hm (by omega) hbig).mono ?_
      rintro e w' ⟨b', c', h1, h2, h3⟩
      exact ⟨_, _, h1, h2, grown_drop h3⟩
end Go.Proofs.Ytjnbfgogmhfbiaa
/- The mutations: a document behind a pointer; cut, remove. -/
namespace Go.Proofs.Ytjnbfgogmhfbiaa
open Go Go.RowKit
/-- But for a document's box and its nodes' row all stays. -/
structure Mut (w w' : World) (p : Nat) (q : Option Nat) : Prop where
  os : w'.os = w.os
  tape : w'.tape = w.tape
  output : w'.output = w.output
  size : w.heap.size ≤ w'.heap.size
  block : ∀ i, i < w.heap.size → i ≠ p → some i ≠ q → w'.heap[i]? = w.heap[i]?
theorem Mut.refl (w : World) (p : Nat) (q : Option Nat) : Mut w w p q := ⟨rfl, rfl, rfl, Nat.le_refl _, fun _ _ _ _ => rfl⟩
theorem Mut.ofGrown {w w' : World} {p : Nat} {q row : Option Nat} (h : w.grownBy w' row) (hr : row = none ∨ row = some p ∨ row = q) : Mut w w' p q :=
  ⟨h.os, h.tape, h.output, h.size, fun i hi hp hq => h.block i hi (fun e => by
    rcases hr with rfl | rfl | rfl
    · cases e
    · exact hp (Option.some.inj e)
    · exact hq e)⟩
theorem Mut.trans {a b c : World} {p : Nat} {q q' : Option Nat} (h : Mut a b p q) (k : Mut b c p q') (hq : q' = q ∨ ∀ g, q' = some g → a.heap.size ≤ g) : Mut a c p q :=
  ⟨k.os.trans h.os, k.tape.trans h.tape, k.output.trans h.output, Nat.le_trans h.size k.size, fun i hi hp hne => (k.block i (Nat.lt_of_lt_of_le hi h.size) hp (fun e => by
    rcases hq with rfl | hq
    · exact hne e
    · have := hq i e.symm
      omega)).trans (h.block i hi hp hne)⟩
theorem Mut.toGrown {w a b : World} {p : Nat} {q : Option Nat} (h : Mut a b p q) (hg : w.grownBy a none) (hp : w.heap.size ≤ p) (hq : ∀ g, q = some g → w.heap.size ≤ g) : w.grownBy b none :=
  ⟨h.os.trans hg.os, h.tape.trans hg.tape, h.output.trans hg.output, Nat.le_trans hg.size h.size, fun i hi _ => (h.block i (Nat.lt_of_lt_of_le hi hg.size) (by omega) (fun e => by have := hq i e.symm; omega)).trans (hg.block i hi (by simp))⟩
theorem Mut.row {w w' : World} {p g : Nat} {q : Option Nat} {T : TypeId} {cs : Array Value} (h : Mut w w' p q) (hr : Row w g T cs) (hp : g ≠ p) (hq : some g ≠ q) : Row w' g T cs := (h.block g hr.lt hp hq).trans hr
/-- A document behind a pointer, its nodes a row of the call's own. -/
structure DocAt (w : World) (B p : Nat) (A : Option Addr) (n c : Nat) (L : List (List Value)) (x : Int) : Prop where
  two : Two w p 24 (.slice A n c) (.int .i64 x)
  own : Own w B 32 51 A n c L.flatten
  ok : ∀ y ∈ L, OkAll nodeLs y
  few : n ≤ 700
theorem DocAt.len {w : World} {B p n c : Nat} {A : Option Addr} {L : List (List Value)} {x : Int} (h : DocAt w B p A n c L x) : L.length = n := by
  have h1 := h.own.len
  have h2 := nodes_len h.ok
  omega
theorem DocAt.nodes {w : World} {B p n c : Nat} {A : Option Addr} {L : List (List Value)} {x : Int} (h : DocAt w B p A n c L x) : NodesAt w w.heap.size A n L := ⟨h.ok, h.len, h.own.reads, by have := h.few; omega⟩
theorem DocAt.grown {w w' : World} {B p n c : Nat} {A : Option Addr} {L : List (List Value)} {x : Int} (h : DocAt w B p A n c L x) (hg : w.grownBy w' none) : DocAt w' B p A n c L x := ⟨h.two.kept hg (by simp), h.own.grown0 hg, h.ok, h.few⟩
theorem DocAt.row_ne {w : World} {B p n c : Nat} {A : Option Addr} {L : List (List Value)} {x : Int} (h : DocAt w B p A n c L x) : rowOf A c ≠ some p := fun e => by
  obtain ⟨cur, hcur⟩ := h.own.row_of e
  have h2 := h.two
  unfold Two at h2
  rw [hcur] at h2
  cases h2
theorem DocAt.cells {w : World} {B p n c : Nat} {A : Option Addr} {L : List (List Value)} {x : Int} (h : DocAt w B p A n c L x) : w.cell? ⟨p, 0, none⟩ = some (.slice A n c) ∧ w.cell? ⟨p, 1, none⟩ = some (.int .i64 x) := ⟨h.two.c0, h.two.c1⟩
/-- The row may have been written, or laid anew: the box's first cell is stored. -/
theorem DocAt.put {w w' : World} {B p n c n' c' : Nat} {A A' : Option Addr} {L L' : List (List Value)} {x : Int} (h : DocAt w B p A n c L x) (hg : w.grownBy w' (rowOf A c)) (ho : Own w' B 32 51 A' n' c' L'.flatten) (hok : ∀ y ∈ L', OkAll nodeLs y) (hf : n' ≤ 700) :
    DocAt (w'.setCell ⟨p, 0, none⟩ (.slice A' n' c')) B p A' n' c' L' x ∧ Mut w (w'.setCell ⟨p, 0, none⟩ (.slice A' n' c')) p (rowOf A c) := by
  have h2 := h.two.kept hg (Ne.symm h.row_ne)
  exact ⟨⟨h2.s0 _, ho.kept_ (grownBy_setCell _ _ _ _) h2 (by decide), hok, hf⟩, (Mut.ofGrown hg (.inr (.inr rfl))).trans (Mut.ofGrown (grownBy_setCell _ _ _ _) (.inr (.inl rfl))) (.inl rfl)⟩
theorem Own.apart_ {w : World} {base e size n c c' : Nat} {A A' : Option Addr} {xs : List Value} (h : Own w base e size A n c xs) (h' : ∀ g, rowOf A' c' = some g → w.heap.size ≤ g) (hc : 0 < c) : rowOf A' c' ≠ rowOf A c := fun e' => by
  obtain ⟨g, cur, rfl, _, hg, _⟩ := h.block_ hc
  have hr : rowOf (some (⟨g, 0, none⟩ : Addr)) c = some g := by unfold rowOf; rw [if_neg (by omega)]; rfl
  rw [hr] at e'
  have := h' g e'
  have := (Array.getElem?_eq_some_iff.1 hg).1
  omega
theorem sub_ok {L : List (List Value)} (h : ∀ y ∈ L, OkAll nodeLs y) (a k : Nat) : ∀ y ∈ (L.drop a).take k, OkAll nodeLs y := fun y hy => h y (List.mem_of_mem_drop (List.mem_of_mem_take hy))
theorem less_ok {L : List (List Value)} (h : ∀ y ∈ L, OkAll nodeLs y) (a e : Nat) : ∀ y ∈ L.take a ++ L.drop e, OkAll nodeLs y := fun y hy => by
  rcases List.mem_append.1 hy with hy | hy
  · exact h y (List.mem_of_mem_take hy)
  · exact h y (List.mem_of_mem_drop hy)
def CutPost (L : List (List Value)) (x key : Int) (B p : Nat) (A : Option Addr) (n c : Nat) (w : World) (r : Ending) (w' : World) : Prop :=
  (∃ u e : Nat, findI L key = u ∧ 0 < u ∧ u < n ∧ e = endN (dp L) n u ∧ (∃ A1 c1, r = .returned (.slice A1 (e - u) c1) ∧ Own w' w.heap.size 32 51 A1 (e - u) c1 ((L.drop u).take (e - u)).flatten) ∧ DocAt w' B p A (u + (n - e)) c (L.take u ++ L.drop e) x ∧ Mut w w' p (rowOf A c)) ∨
  (findI L key ≤ 0 ∧ r = .panicked [{ v := wrongV 70, recovered := false }] ∧ DocAt w' B p A n c L x ∧ Mut w w' p (rowOf A c))
set_option maxRecDepth 100000 in
set_option maxHeartbeats 2000000 in
theorem cut_any (B p : Nat) (A : Option Addr) (n c : Nat) (L : List (List Value)) (x key : Int) (w : World) (hD : DocAt w B p A n c L x) (hB : B ≤ w.heap.size) :
    Calls Try.prog 40 #[.pointer (some ⟨p, 0, none⟩), .int .i64 key] w (CutPost L x key B p A n c w) := by
  have hD' := Lib.hid hD
  have hB' := Lib.hid hB
  have hf := hD.few
  have hnc := hD.own.2.1
  have hcm : c ≤ 9223372036854775807 := by have := hD.own.2.2.1; unfold maxLen at this; exact this
  have CP := Lib.hid (fun W (hg : w.grownBy W none) => place_any A n c L x key W (hD.grown hg).nodes)
  have HB := Lib.hid (fun W (hg : w.grownBy W none) => (hD.grown hg).cells)
  clear hD hB
  have hr := World.grownBy.refl w none
  obtain ⟨c0, c1⟩ := HB.out _ hr
  go_enter Try.func40, Try.ntmps40
  go_wp2_with fail
  refine (CP.out _ hr).mono ?_; rintro r w1 ⟨hres, hg1⟩
  clear c0 c1 hr
  rcases hres with ⟨hf1, rfl⟩ | ⟨hf1, rfl⟩
  · obtain ⟨u, hu, hul, _⟩ := findI_spec hf1
    rw [hu]
    have hu' := Lib.hid hu
    have hun : u < n := by have := hD'.out.len; omega
    clear hu hf1 hul
    by_cases h0 : 0 < u
    · have d0 : decide ((0 : Int) < (u : Int)) = true := decide_eq_true (by omega)
      have d1 : decide ((u : Int) > (0 : Int)) = true := decide_eq_true (by omega)
      go_wp2_with fail
      refine (must_yes 70 w1).mono ?_; rintro r w2 ⟨rfl, rfl⟩
      obtain ⟨c0, c1⟩ := HB.out _ hg1
      have CE := end_in A n c x u L w2 (hD'.out.grown hg1).nodes hun
      obtain ⟨e, he⟩ : ∃ e, e = endN (dp L) n u := ⟨_, rfl⟩
      rw [← he] at CE
      have he1 : u < e := by rw [he]; exact endN_gt hun
      have he2 : e ≤ n := by rw [he]; exact endN_le hun
      have he' := Lib.hid he
      clear he d0 d1
      have CE' := Lib.hid CE
      clear CE
      go_wp2_with fail
      refine CE'.out.mono ?_; rintro r w3 ⟨rfl, hg2⟩
      have hg3 := grown_trans hg1 hg2
      clear c0 c1 CE' hg1 hg2
      obtain ⟨c0, c1⟩ := HB.out _ hg3
      have hD3 := hD'.out.grown hg3
      obtain ⟨g, hA, _, _, _, _⟩ := hD3.own.cells_ (by rw [hD3.own.len]; omega)
      subst hA
      have hrd : Reads w3 w3.heap.size (some ⟨g, u * 51, none⟩) ((L.drop u).take (e - u)).flatten := by
        have h1 := (hD3.own.reads.drop (k := u * 51) rfl).take ((e - u) * 51)
        rw [Addr.add_lit, Nat.zero_add] at h1
        rw [flatten_take51 (fun y hy => hD3.ok y (List.mem_of_mem_drop hy)), flatten_drop51 hD3.ok]
        exact h1
      have CC := Lib.hid (clone_nodes (some ⟨g, u * 51, none⟩) (e - u) (c - u) ((L.drop u).take (e - u)) w3 w3.heap.size (sub_ok hD3.ok _ _) (by rw [List.length_take, List.length_drop, hD3.len]; omega) hrd (by omega))
      clear hD3 hrd
      have hcu : ¬ c = u := by omega
      have i1 : (0 : Int) ≤ (u : Int) := by omega
      have i2 : (u : Int) ≤ (e : Int) := by omega
      have i3 : (e : Int) ≤ (c : Int) := by omega
      have hue : u ≤ e := by omega
      have hec : e ≤ c := by omega
      go_wp2_with fail
      refine CC.out.mono ?_; rintro r w4 ⟨A1, k1, rfl, hown1, hg4⟩
      clear c0 c1 CC
      have hg5 := grown_trans hg3 hg4
      obtain ⟨c0, c1⟩ := HB.out _ hg5
      have hD4 := hD'.out.grown hg5
      have CDl := Lib.hid (del_nodes w4 B n c u e (some ⟨g, 0, none⟩) L hD4.ok hD4.own he1 he2 (by omega))
      have hne := Own.apart_ hD'.out.own (A' := A1) (c' := k1) (fun g h => Nat.le_trans hg3.size (hown1.row_ge g h).1) (by omega)
      have hown1' := Lib.hid hown1
      have hg5' := Lib.hid hg5
      have hne' := Lib.hid hne
      clear hD4 hown1 hne hg4
      go_wp2_with fail
      refine CDl.out.mono ?_; rintro r w5 ⟨rfl, hown5, hg6⟩
      have hD4 := hD'.out.grown hg5'.out
      have hp6 := hD4.put hg6 hown5 (less_ok hD4.ok u e) (by omega)
      have hb5 := hD4.two.kept hg6 (Ne.symm hD4.row_ne)
      have f0 := hb5.f 0
      have c5 := hb5.c0
      have ho1 := (hown1'.out.grownBy_ hg6 (.inr hne'.out)).kept_ (grownBy_setCell _ p 0 (.slice (some ⟨g, 0, none⟩) (u + (n - e)) c)) hb5 (by decide)
      have hp6' := Lib.hid hp6
      have ho1' := Lib.hid ho1
      clear hD4 hp6 hb5 ho1 hown5 hg6
      go_wp2_with fail
      go_ret
      have hg3s := hg3.size
      exact .inl ⟨u, e, hu'.out, h0, hun, he'.out, ⟨A1, k1, rfl, ho1'.out.base_ hg3s⟩, hp6'.out.1, (Mut.ofGrown hg5'.out (.inl rfl)).trans hp6'.out.2 (.inl rfl)⟩
    · have d0 : decide ((0 : Int) < (u : Int)) = false := decide_eq_false (by omega)
      have d1 : decide ((u : Int) > (0 : Int)) = false := decide_eq_false (by omega)
      go_wp2_with fail
      refine (must_no 70 w1).mono ?_; rintro r w2 ⟨rfl, rfl⟩
      go_wp2_with fail
      exact ⟨rfl, .inr ⟨by rw [hu'.out]; omega, rfl, hD'.out.grown hg1, Mut.ofGrown hg1 (.inl rfl)⟩⟩
  · go_wp2_with fail
    exact ⟨rfl, .inr ⟨by omega, rfl, hD'.out.grown hg1, Mut.ofGrown hg1 (.inl rfl)⟩⟩
end Go.Proofs.Ytjnbfgogmhfbiaa
/- The mutations, in plain words: what may be, what comes of a change. -/
namespace Go.Proofs.Ytjnbfgogmhfbiaa
open Go Go.RowKit
/-- May a node's style be? -/
def styB (y : List Value) : Bool := mayB ⟨fun i => intAt (styN y) i, fun _ => false⟩
theorem mayB_cells (s : Sty) : mayB ⟨fun i => intAt s.cells.toList i, fun _ => false⟩ = mayB s := rfl
theorem styB_of {y : List Value} {s : Sty} (h : s.cells = (styN y).toArray) : styB y = mayB s := by
  rw [← mayB_cells s, h]
  rfl
def disp (y : List Value) : Int := intAt y 3
/-- Is a node a flexible box? -/
def isFlex (y : List Value) : Bool := decide (kindN y = 0) && decide (disp y = 2)
def absI (u : Int) : Int := max u (-u)
def flexBad (F : Nat → Int) (y : List Value) : Bool :=
  (decide (kindN y = 0) && !styB y) || ((decide (kindN y = 1) && decide (F (depN y).toNat < 0)) || (isFlex y && decide (6 ≤ absI (F (depN y).toNat))))
def flexVal (F : Nat → Int) (y : List Value) : Int :=
  if isFlex y then -(absI (F (depN y).toNat) + 1) else absI (F (depN y).toNat)
def flexNext (F : Nat → Int) (y : List Value) : Nat → Int := fun k => if k = (depN y).toNat + 1 then flexVal F y else F k
def flexGo (F : Nat → Int) : List (List Value) → Bool
  | [] => true
  | y :: r => !flexBad F y && flexGo (flexNext F y) r
/-- May a document be? -/
def MayL (L : List (List Value)) (x : Int) : Prop := Shape L x ∧ flexGo (fun _ => 0) L = true
/-- Where a kid of a number will stand, and how deep. -/
def gapE (L : List (List Value)) (parent number : Int) : Except Int (Nat × Int) :=
  if 0 ≤ findI L parent then
    let u := (findI L parent).toNat
    if kindN (nd L u) = 0 ∧ 0 ≤ number ∧ number ≤ (kidsN (dp L) L.length u).length then .ok (gapAt L u number.toNat, dp L u + 1) else .error 70
  else .error 70
def cutL (L : List (List Value)) (key : Int) : Except Int (List (List Value) × List (List Value)) :=
  if 0 < findI L key then
    let u := (findI L key).toNat
    let e := endN (dp L) L.length u
    .ok ((L.drop u).take (e - u), L.take u ++ L.drop e)
  else .error 70
def boxOf (x deep : Int) (y : List Value) : List Value := .int .i64 x :: .int .i64 deep :: .int .u8 0 :: (styN y ++ [.string ByteArray.empty])
def textOf (x deep : Int) (y : List Value) : List Value := .int .i64 x :: .int .i64 deep :: .int .u8 1 :: (zeroSty ++ [(y[50]?).getD (.string ByteArray.empty)])
def putAt (L : List (List Value)) (g : Nat) (T : List (List Value)) : List (List Value) := L.take g ++ T ++ L.drop g
def insertL (L : List (List Value)) (x par num : Int) (y : List Value) : Except Int (List (List Value) × Int) :=
  match gapE L par num with
  | .error e => .error e
  | .ok (g, deep) =>
    if kindN y = 0 then (if styB y then .ok (putAt L g [boxOf x deep y], x + 1) else .error 60)
    else if kindN y = 1 then .ok (putAt L g [textOf x deep y], x + 1) else .error 70
def removeL (L : List (List Value)) (x key : Int) : Except Int (List (List Value) × Int) :=
  match cutL L key with
  | .error e => .error e
  | .ok (_, R) => .ok (R, x)
def deepen (d : Int) (y : List Value) : List Value := y.set 1 (.int .i64 (depN y + d))
def moveL (L : List (List Value)) (x key par num : Int) : Except Int (List (List Value) × Int) :=
  match cutL L key with
  | .error e => .error e
  | .ok (T, R) => match gapE R par num with
    | .error e => .error e
    | .ok (g, deep) => .ok (putAt R g (T.map (deepen (deep - dp T 0))), x)
def withSty (z y : List Value) : List Value := z.take 3 ++ styN y ++ z.drop 50
def withText (z y : List Value) : List Value := z.set 50 ((y[50]?).getD (.string ByteArray.empty))
def styleL (L : List (List Value)) (x key : Int) (y : List Value) : Except Int (List (List Value) × Int) :=
  if 0 ≤ findI L key then
    let u := (findI L key).toNat
    if kindN (nd L u) = 0 then (if styB y then .ok (L.set u (withSty (nd L u) y), x) else .error 60) else .error 70
  else .error 70
def textL (L : List (List Value)) (x key : Int) (y : List Value) : Except Int (List (List Value) × Int) :=
  if 0 ≤ findI L key then
    let u := (findI L key).toNat
    if kindN (nd L u) = 1 then .ok (L.set u (withText (nd L u) y), x) else .error 70
  else .error 70
/-- A change. -/
structure Chg where
  kd : Int
  key : Int
  par : Int
  num : Int
  y : List Value
def Chg.cells (c : Chg) : Array Value := (.int .u8 c.kd :: .int .i64 c.key :: .int .i64 c.par :: .int .i64 c.num :: c.y : List Value).toArray
structure Chg.ok (c : Chg) : Prop where
  kd : 0 ≤ c.kd ∧ c.kd ≤ 255
  key : -9223372036854775808 ≤ c.key ∧ c.key ≤ 9223372036854775807
  par : -9223372036854775808 ≤ c.par ∧ c.par ≤ 9223372036854775807
  num : -9223372036854775808 ≤ c.num ∧ c.num ≤ 9223372036854775807
  y : OkAll nodeLs c.y
def opL (L : List (List Value)) (x : Int) (c : Chg) : Except Int (List (List Value) × Int) :=
  if c.kd = 1 then insertL L x c.par c.num c.y
  else if c.kd = 2 then removeL L x c.key
  else if c.kd = 3 then moveL L x c.key c.par c.num
  else if c.kd = 4 then styleL L x c.key c.y
  else textL L x c.key c.y
/-- What comes of a change. -/
def Applies (L : List (List Value)) (x : Int) (c : Chg) : Except Int (List (List Value) × Int) → Prop
  | .error e => (¬ MayL L x ∧ e = 50) ∨ (MayL L x ∧ ¬ (1 ≤ c.kd ∧ c.kd ≤ 5) ∧ e = 70) ∨ (MayL L x ∧ (1 ≤ c.kd ∧ c.kd ≤ 5) ∧ opL L x c = .error e) ∨
      (MayL L x ∧ (1 ≤ c.kd ∧ c.kd ≤ 5) ∧ (∃ L' x', opL L x c = .ok (L', x') ∧ ¬ MayL L' x') ∧ e = 4)
  | .ok (L', x') => MayL L x ∧ (1 ≤ c.kd ∧ c.kd ≤ 5) ∧ opL L x c = .ok (L', x') ∧ MayL L' x'
/-- What a change's function leaves. -/
def OpPost (w : World) (B p : Nat) (q : Option Nat) (res : Except Int (List (List Value) × Int)) (r : Ending) (w' : World) : Prop :=
  match res with
  | .ok (L', x') => r = .returned (.tuple #[]) ∧ (∃ A' n' c', DocAt w' B p A' n' c' L' x') ∧ Mut w w' p q
  | .error e => r = .panicked [{ v := wrongV e, recovered := false }] ∧ (∃ u v, Two w' p 24 u v) ∧ Mut w w' p q
theorem OpPost.err {w : World} {B p : Nat} {q : Option Nat} {e : Int} {r : Ending} {w' : World} (hr : r = .panicked [{ v := wrongV e, recovered := false }]) {B' n c : Nat} {A : Option Addr} {L : List (List Value)} {x : Int} (hd : DocAt w' B' p A n c L x) (hm : Mut w w' p q) : OpPost w B p q (.error e) r w' := ⟨hr, ⟨_, _, hd.two⟩, hm⟩
theorem OpPost.fine {w : World} {B p : Nat} {q : Option Nat} {L' : List (List Value)} {x' : Int} {r : Ending} {w' : World} (hr : r = .returned (.tuple #[])) {n c : Nat} {A : Option Addr} (hd : DocAt w' B p A n c L' x') (hm : Mut w w' p q) : OpPost w B p q (.ok (L', x')) r w' := ⟨hr, ⟨_, _, _, hd⟩, hm⟩
theorem cutL_yes {L : List (List Value)} {key : Int} {u e : Nat} (h : findI L key = u) (h0 : 0 < u) (he : e = endN (dp L) L.length u) : cutL L key = .ok ((L.drop u).take (e - u), L.take u ++ L.drop e) := by
  unfold cutL
  rw [if_pos (by omega), h, he]
  rfl
theorem cutL_no {L : List (List Value)} {key : Int} (h : findI L key ≤ 0) : cutL L key = .error 70 := by
  unfold cutL
  rw [if_neg (by omega)]
theorem gapE_yes {L : List (List Value)} {parent number : Int} {u k : Nat} (h : GapYes L parent number u k) : gapE L parent number = .ok (gapAt L u k, dp L u + 1) := by
  obtain ⟨h1, h2, h3, h4, h5⟩ := h
  unfold gapE
  rw [if_pos (by omega), h1, h4]
  show (if kindN (nd L u) = 0 ∧ (0 : Int) ≤ (k : Int) ∧ (k : Int) ≤ ((kidsN (dp L) L.length u).length : Int) then _ else _) = _
  rw [if_pos ⟨h3, by omega, by omega⟩]
  rfl
theorem gapE_no {L : List (List Value)} {parent number : Int} (h : ¬ ∃ u k : Nat, GapYes L parent number u k) : gapE L parent number = .error 70 := by
  unfold gapE
  split
  · rename_i h0
    obtain ⟨u, hu, hul, _⟩ := findI_spec h0
    dsimp only
    rw [if_neg]
    rintro ⟨h1, h2, h3⟩
    rw [hu] at h1 h3
    exact h ⟨u, number.toNat, hu, hul, h1, by omega, by simp only [Int.toNat_natCast] at h3; omega⟩
  · rfl
/-! A change's cells. -/
section
variable {c : Chg} (h : c.ok)
theorem Chg.c0 : c.cells[0]? = some (.int .u8 c.kd) := by simp [Chg.cells]
theorem Chg.c1 : c.cells[1]? = some (.int .i64 c.key) := by simp [Chg.cells]
theorem Chg.c2 : c.cells[2]? = some (.int .i64 c.par) := by simp [Chg.cells]
theorem Chg.c3 : c.cells[3]? = some (.int .i64 c.num) := by simp [Chg.cells]
theorem Chg.cy (k : Nat) : c.cells[4 + k]? = c.y[k]? := by
  rw [show 4 + k = k + 1 + 1 + 1 + 1 by omega]
  simp [Chg.cells]
include h
theorem Chg.size : c.cells.size = 55 := by
  have := h.y.len
  simp [Chg.cells, this, nodeLs_len]
end
theorem chg_style {w : World} {g : Nat} {c : Chg} (hr : Row w g 34 c.cells) (h : c.ok) : (Instr.loadAt 30 (.pointer (some ⟨g, 7, none⟩))).run Try.prog w = .ok (.agg (styN c.y).toArray) w := by
  refine run_loadStyle w _ _ (styN_len h.y) fun k hk => ?_
  rw [Addr.add_lit, hr.at, show 7 + k = 4 + (3 + k) by omega, Chg.cy]
  unfold styN
  rw [List.getElem?_take, if_pos hk, List.getElem?_drop]
end Go.Proofs.Ytjnbfgogmhfbiaa
/- The mutations: stores of many cells, loads of many cells in regions that draw; remove; a style, a text. -/
namespace Go.Proofs.Ytjnbfgogmhfbiaa
open Go Go.RowKit
section
variable {P : Program} {ops : Array Oper} {rest : List Oper} {o : Oper} {a : Act} {w w1 : World} {Q : Exit → Act → World → Prop}
/-- A head operation whose run is known. -/
theorem wpStill_value {Q : Act → Prop} {v : Value} (hw : Region.wanted o (yielded ops a.tmps) = true) (hr : (execOp a.eval o).run P w = .ok (.value v) w) (h : wpStill P ops w Q rest (a.put o.dst v)) : wpStill P ops w Q (o :: rest) a := by
  refine wpStill_step fun K hK => ?_
  rw [if_pos hw]
  unfold Oper.still
  rw [hr, Oper.stillUpon_value]
  exact hK _ h
theorem storeAt_many {T : TypeId} {g off : Nat} {ds : List Value} (hz : (P.info? T).map (·.size) = some ds.length) (h1 : ∀ v ∈ ds, v.oneCell' = true) (hc : ∀ j, j < ds.length → (w.cell? ⟨g, off + j, none⟩).isSome = true) (hf : ∀ j, j < ds.length → w.frozen? ⟨g, off + j, none⟩ = false) :
    (Instr.storeAt T (.pointer (some ⟨g, off, none⟩)) (.agg ds.toArray)).run P w = .ok () (w.setCells g off ds) := by
  have hs := run_storeCells_cells (P := P) g off ds 0 w (by simpa using hc) (by simpa using hf) h1
  simp only [Nat.add_zero] at hs
  obtain ⟨i, hi, hz⟩ := Option.map_eq_some_iff.1 hz
  simp [Instr.storeAt, Instr.sureAddr, Sem.run_bind, storeVar, sizeOf, typeInfo, hi, hz, Value.cells, hs]
theorem exec_store_many {ρ : Operand → Value} {T : TypeId} {x y : Operand} {g off : Nat} {ds : List Value} (ho : o.op = .store T x y) (hx : ρ x = .pointer (some ⟨g, off, none⟩)) (hy : ρ y = .agg ds.toArray) (hz : (P.info? T).map (·.size) = some ds.length) (h1 : ∀ v ∈ ds, v.oneCell' = true)
    (hc : ∀ j, j < ds.length → (w.cell? ⟨g, off + j, none⟩).isSome = true) (hf : ∀ j, j < ds.length → w.frozen? ⟨g, off + j, none⟩ = false) :
    (execOp ρ o).run P w = .ok .skip (w.setCells g off ds) := by
  unfold execOp
  simp only [ho, hx, hy, Sem.run_bind, storeAt_many hz h1 hc hf, Result.andThen_ok, Sem.run_pure]
end
/-- A value that is known, or a new block. -/
def TG (val : Nat → Nat → Value) (row : Nat → Option (TypeId × Array Value)) : Nat → Value → Nat → Nat → World → Prop := fun j v lo hi V =>
  v = val j lo ∧ ∀ T cs, row j = some (T, cs) → Row V lo T cs ∧ hi = lo + 1
theorem TG.mono (val : Nat → Nat → Value) (row : Nat → Option (TypeId × Array Value)) (i : Nat) (v : Value) (lo hi : Nat) (w w' : World) (h : TG val row i v lo hi w) (hg : w.grownBy w' none) : TG val row i v lo hi w' :=
  ⟨h.1, fun T cs e => ⟨(h.2 T cs e).1.kept0 hg, (h.2 T cs e).2⟩⟩
theorem TG.plain {val : Nat → Nat → Value} {row : Nat → Option (TypeId × Array Value)} {j : Nat} {v : Value} {lo hi : Nat} {V : World} (h : v = val j lo) (hr : row j = none) : TG val row j v lo hi V := ⟨h, fun T cs e => by rw [hr] at e; cases e⟩
theorem Row.setCells {T : TypeId} {g : Nat} : ∀ (vs : List Value) (o : Nat) (w : World) (cs : List Value), Row w g T cs.toArray → Row (w.setCells g o vs) g T (layL cs o vs).toArray
  | [], _, _, _, h => h
  | v :: r, o, w, cs, h => Row.setCells r (o + 1) _ _ (by have := h.set o v; rwa [List.setIfInBounds_toArray] at this)
theorem layL_mid (a b c vs : List Value) (h : b.length = vs.length) : layL (a ++ b ++ c) a.length vs = a ++ vs ++ c := by
  apply List.ext_getElem?
  intro t
  rw [layL_get _ _ _ _ (by simp; omega)]
  by_cases h1 : t < a.length
  · rw [if_neg (by omega), List.append_assoc, List.append_assoc, List.getElem?_append_left h1, List.getElem?_append_left h1]
  · by_cases h2 : t < a.length + vs.length
    · rw [if_pos (by omega), List.append_assoc, List.getElem?_append_right (by omega), List.getElem?_append_left (by omega)]
    · rw [if_neg (by omega), List.append_assoc, List.append_assoc, List.getElem?_append_right (by omega), List.getElem?_append_right (by omega), List.getElem?_append_right (by omega), List.getElem?_append_right (by omega), h]
theorem layL_sty (z y : List Value) (hz : z.length = 51) (hy : (styN y).length = 47) : layL z 3 (styN y) = withSty z y := by
  have h0 : z = z.take 3 ++ (z.drop 3).take 47 ++ z.drop 50 := by
    rw [List.append_assoc, show z.drop 50 = (z.drop 3).drop 47 by rw [List.drop_drop], List.take_append_drop, List.take_append_drop]
  have h1 : (z.take 3).length = 3 := by simp; omega
  unfold withSty
  conv => lhs; rw [h0]
  have := layL_mid (z.take 3) ((z.drop 3).take 47) (z.drop 50) (styN y) (by rw [hy]; simp; omega)
  rw [h1] at this
  exact this
theorem infoSty : (Try.prog.info? 30).map (·.size) = some 47 := by kernel_rfl
theorem stymay_node {y : List Value} (hy : OkAll nodeLs y) (w : World) : Calls Try.prog 27 #[.agg (styN y).toArray] w fun e w' => e = .returned (.bool (styB y)) ∧ w.grownBy w' none := by
  obtain ⟨s, h1, h2⟩ := sty_of hy
  rw [styB_of h2, ← h2]
  exact stymay_tells s w h1
theorem sty_one {y : List Value} (hy : OkAll nodeLs y) : ∀ v ∈ styN y, v.oneCell' = true := okAll_one (styN_ok hy)
theorem Chg.one {c : Chg} (h : c.ok) : ∀ v ∈ c.cells.toList, v.oneCell' = true := fun v hv => by
  unfold Chg.cells at hv
  simp only [List.mem_cons] at hv
  rcases hv with rfl | rfl | rfl | rfl | hv
  · rfl
  · rfl
  · rfl
  · rfl
  · exact okAll_one h.y v hv
/-- What is known of a change's box: its cells, as long as memory only grows. -/
theorem chg_box (w : World) (c : Chg) : Hid (∀ W, (w.alloc (.cells c.cells 34)).grownBy W none → Row W w.heap.size 34 c.cells) :=
  Lib.hid fun W hg => (Row.new w 34 c.cells).kept0 hg
theorem OpPost.widen {w w0 w' : World} {B p : Nat} {q : Option Nat} {res : Except Int (List (List Value) × Int)} {r : Ending} (h : OpPost w0 B p q res r w') (hg : w.grownBy w0 none) : OpPost w B p q res r w' := by
  have hm := fun (hh : Mut w0 w' p q) => (Mut.ofGrown (p := p) (q := q) hg (.inl rfl)).trans hh (.inl rfl)
  cases res with
  | ok v => exact ⟨h.1, h.2.1, hm h.2.2⟩
  | error e => exact ⟨h.1, h.2.1, hm h.2.2⟩
theorem remove_any (B p : Nat) (A : Option Addr) (n k : Nat) (L : List (List Value)) (x : Int) (c : Chg) (w : World) (hD : DocAt w B p A n k L x) (hB : B ≤ w.heap.size) :
    Calls Try.prog 31 #[.pointer (some ⟨p, 0, none⟩), .agg c.cells] w (OpPost w B p (rowOf A k) (removeL L x c.key)) := by
  have hg0 := World.grownBy_alloc w (.cells c.cells 34) none
  have CC := Lib.hid (cut_any B p A n k L x c.key _ (hD.grown hg0) (Nat.le_trans hB hg0.size))
  have hl := Lib.hid hD.len
  have e1 := ((chg_box w c).out _ (World.grownBy.refl _ _)).at 1
  rw [Chg.c1] at e1
  clear hD hB
  generalize hcs : c.cells = cs at *
  have hg0' := Lib.hid hg0
  clear hg0 hcs
  go_enter Try.func31, Try.ntmps31
  go_wp2_with fail
  refine CC.out.mono ?_; rintro r w1 hres
  rcases hres with ⟨u, e, hu, h0, _, he, ⟨A1, c1, rfl, _⟩, hD1, hM⟩ | ⟨hu, rfl, hD1, hM⟩
  · have hfin : OpPost w B p (rowOf A k) (removeL L x c.key) (.returned (.tuple #[])) w1 := by
      have he2 : e = endN (dp L) L.length u := by rw [hl.out]; exact he
      unfold removeL
      rw [cutL_yes hu h0 he2]
      exact (OpPost.fine rfl hD1 hM).widen hg0'.out
    have hfin' := Lib.hid hfin
    clear hfin hD1 hM he hu
    go_wp2_with fail
    go_end0
    exact hfin'.out
  · have hfin : OpPost w B p (rowOf A k) (removeL L x c.key) (.panicked [{ v := wrongV 70, recovered := false }]) w1 := by
      unfold removeL
      rw [cutL_no hu]
      exact (OpPost.err rfl hD1 hM).widen hg0'.out
    have hfin' := Lib.hid hfin
    clear hfin hD1 hM hu
    go_wp2_with fail
    exact ⟨rfl, hfin'.out⟩
end Go.Proofs.Ytjnbfgogmhfbiaa
/- The mutations: a style set, a text set. -/
namespace Go.Proofs.Ytjnbfgogmhfbiaa
open Go Go.RowKit
theorem flatten_set {L : List (List Value)} (h : ∀ y ∈ L, y.length = 51) : ∀ (i k : Nat) (v : Value), i < L.length → k < 51 → L.flatten.set (i * 51 + k) v = (L.set i ((nd L i).set k v)).flatten := by
  induction L with
  | nil => intro i k v hi _; simp at hi
  | cons y r ih =>
    intro i k v hi hk
    have hy := h y (by simp)
    cases i with
    | zero =>
      simp only [List.flatten_cons, List.set_cons_zero, Nat.zero_mul, Nat.zero_add]
      rw [List.set_append_left _ _ (by omega)]
      rfl
    | succ i =>
      simp only [List.flatten_cons, List.set_cons_succ]
      rw [List.set_append_right _ _ (by omega), show (i + 1) * 51 + k - y.length = i * 51 + k by omega, ih (fun z hz => h z (by simp [hz])) i k v (by simpa using hi) hk]
      rfl
theorem okAll_set : ∀ (ls : List Lf) (cs : List Value) (k : Nat) (l : Lf) (v : Value), OkAll ls cs → ls[k]? = some l → l.ok v → OkAll ls (cs.set k v)
  | [], _, _, _, _, _, h, _ => by simp at h
  | a :: r, _, 0, l, v, ⟨c, cs, e, h1, h2⟩, hl, hv => by
    subst e
    simp only [List.getElem?_cons_zero, Option.some.injEq] at hl
    subst hl
    exact ⟨v, cs, rfl, hv, h2⟩
  | a :: r, _, k + 1, l, v, ⟨c, cs, e, h1, h2⟩, hl, hv => by
    subst e
    exact ⟨c, _, rfl, h1, okAll_set r cs k l v h2 (by simpa using hl) hv⟩
theorem okAll_append : ∀ {l1 l2 : List Lf} {x y : List Value}, OkAll l1 x → OkAll l2 y → OkAll (l1 ++ l2) (x ++ y)
  | [], _, _, _, h, h2 => by cases h; exact h2
  | a :: r, _, _, _, ⟨c, cs, e, h1, h2⟩, h3 => by subst e; exact ⟨c, _, rfl, h1, okAll_append h2 h3⟩
theorem withSty_ok {z y : List Value} (hz : OkAll nodeLs z) (hy : OkAll nodeLs y) : OkAll nodeLs (withSty z y) := by
  have h := okAll_append (okAll_append (okAll_take 3 _ _ hz) (styN_ok hy)) (okAll_drop 50 _ _ hz)
  exact h
theorem okAll_text {y : List Value} (hy : OkAll nodeLs y) : ∃ s : ByteArray, y[50]? = some (.string s) ∧ s.size = lenN y ∧ s.size ≤ maxLen := by
  obtain ⟨s, h1, h2, h3⟩ := n_text hy
  exact ⟨s, h1, h2, by unfold maxLen; omega⟩
theorem withText_ok {z y : List Value} (hz : OkAll nodeLs z) (hy : OkAll nodeLs y) : OkAll nodeLs (withText z y) := by
  obtain ⟨s, h1, _, h2⟩ := okAll_text hy
  unfold withText
  rw [h1]
  exact okAll_set nodeLs z 50 .str _ hz rfl ⟨s, rfl, h2⟩
theorem set_ok {L : List (List Value)} (h : ∀ y ∈ L, OkAll nodeLs y) {i : Nat} {z : List Value} (hz : OkAll nodeLs z) : ∀ y ∈ L.set i z, OkAll nodeLs y := fun y hy => by
  rcases List.mem_or_eq_of_mem_set hy with h1 | h1
  · exact h y h1
  · rw [h1]; exact hz
theorem nd_ok_ {L : List (List Value)} (h : ∀ y ∈ L, OkAll nodeLs y) {i : Nat} (hi : i < L.length) : OkAll nodeLs (nd L i) := h _ (List.mem_of_getElem? (nd_get hi))
theorem layL_flatten {i : Nat} : ∀ (vs : List Value) (o : Nat) (L : List (List Value)), (∀ y ∈ L, y.length = 51) → i < L.length → o + vs.length ≤ 51 → layL L.flatten (i * 51 + o) vs = (L.set i (layL (nd L i) o vs)).flatten
  | [], o, L, h, hi, _ => by
    have : L.set i (nd L i) = L := by
      unfold nd
      rw [List.getElem?_eq_getElem hi]
      simp
    show L.flatten = (L.set i (nd L i)).flatten
    rw [this]
  | v :: r, o, L, h, hi, ho => by
    simp only [List.length_cons] at ho
    have hl : (nd L i).length = 51 := h _ (List.mem_of_getElem? (nd_get hi))
    have h' : ∀ y ∈ L.set i ((nd L i).set o v), y.length = 51 := fun y hy => by
      rcases List.mem_or_eq_of_mem_set hy with h1 | h1
      · exact h y h1
      · rw [h1, List.length_set]; exact hl
    rw [layL, flatten_set h i o v hi (by omega), Nat.add_assoc, layL_flatten r (o + 1) _ h' (by simpa using hi) (by omega), List.set_set, nd_set_same hi]
    rfl
theorem DocAt.some_ {w : World} {B p n c i : Nat} {A : Option Addr} {L : List (List Value)} {x : Int} (h : DocAt w B p A n c L x) (hi : i < n) : ∃ g, A = some ⟨g, 0, none⟩ ∧ rowOf A c = some g ∧ B ≤ g := by
  obtain ⟨g, h1, h2, h3, _⟩ := h.own.cells_ (by rw [h.own.len]; omega)
  exact ⟨g, h1, h2, h3⟩
theorem DocAt.at_ {w : World} {B p n c i g : Nat} {L : List (List Value)} {x : Int} (h : DocAt w B p (some ⟨g, 0, none⟩) n c L x) (hi : i < n) (k : Nat) (hk : k < 51) : w.cell? ⟨g, i * 51 + k, none⟩ = (nd L i)[k]? ∧ w.frozen? ⟨g, i * 51 + k, none⟩ = false := by
  obtain ⟨g', h1, _, _, _, hc⟩ := h.own.cells_ (by rw [h.own.len]; omega)
  cases h1
  refine ⟨?_, h.own.frozen_ (by rw [h.own.len]; omega) rfl _⟩
  rw [hc _ (by rw [h.own.len]; omega), flatten_get 51 (by omega) L (fun y hy => (h.ok y hy).len), show (i * 51 + k) / 51 = i by omega, show (i * 51 + k) % 51 = k by omega]
  unfold nd
  cases hh : L[i]? with
  | none =>
    have := h.len
    rw [List.getElem?_eq_none_iff] at hh
    omega
  | some y => rfl
theorem len51 {L : List (List Value)} (h : ∀ y ∈ L, OkAll nodeLs y) : ∀ y ∈ L, y.length = 51 := fun y hy => (h y hy).len
set_option maxRecDepth 100000 in
set_option maxHeartbeats 2000000 in
theorem style_any (B p : Nat) (A : Option Addr) (n k : Nat) (L : List (List Value)) (x : Int) (c : Chg) (w : World) (hD : DocAt w B p A n k L x) (hc : c.ok) :
    Calls Try.prog 33 #[.pointer (some ⟨p, 0, none⟩), .agg c.cells] w (OpPost w B p (rowOf A k) (styleL L x c.key c.y)) := by
  have hD' := Lib.hid hD
  have hc' := Lib.hid hc
  have hf := hD.few
  have hnc := hD.own.2.1
  have hcm : k ≤ 9223372036854775807 := by have := hD.own.2.2.1; unfold maxLen at this; exact this
  have hg0 := World.grownBy_alloc w (.cells c.cells 34) none
  have HR := chg_box w c
  have HD := Lib.hid (fun W (hg : (w.alloc (.cells c.cells 34)).grownBy W none) => hD.grown (grown_trans hg0 hg))
  have CP := Lib.hid (fun W (hg : (w.alloc (.cells c.cells 34)).grownBy W none) => place_any A n k L x c.key W (HD.out W hg).nodes)
  have hr := World.grownBy.refl (w.alloc (.cells c.cells 34)) none
  have e1 := (HR.out _ hr).at 1
  rw [Chg.c1] at e1
  obtain ⟨c0, c1⟩ := (HD.out _ hr).cells
  have hg0' := Lib.hid hg0
  clear hD hg0 hc
  go_enter Try.func33, Try.ntmps33
  go_wp2_with fail
  generalize hW0 : w.alloc (.cells c.cells 34) = W0 at *
  go_still_tail 5, (by kernel_rfl)
  change wpList _ _ _ _ _ W0.drew
  have hr2 := grown_drew (World.grownBy.refl W0 none)
  go_wp2_with fail
  refine (CP.out _ hr2).mono ?_; rintro r w1 ⟨hres, hg1⟩
  replace hg1 := grown_trans hr2 hg1
  clear c0 c1 e1 hr hr2 CP
  rcases hres with ⟨hf1, rfl⟩ | ⟨hf1, rfl⟩
  · obtain ⟨u, hu, hul, _⟩ := findI_spec hf1
    rw [hu]
    have hun : u < n := by have := hD'.out.len; omega
    obtain ⟨g, rfl, hrow, _⟩ := hD'.out.some_ hun
    have hspec := Lib.hid (show styleL L x c.key c.y = if kindN (nd L u) = 0 then (if styB c.y then .ok (L.set u (withSty (nd L u) c.y), x) else .error 60) else .error 70 by
      unfold styleL
      rw [if_pos (by omega), hu]
      rfl)
    have D1 := HD.out _ hg1
    obtain ⟨c0, c1⟩ := D1.cells
    have zk := (D1.at_ hun 2 (by omega)).1
    rw [(n_kind (nd_ok_ D1.ok (by rw [D1.len]; exact hun))).1] at zk
    clear hu hf1 D1 hul
    by_cases hk : kindN (nd L u) = 0
    · have hk' := Lib.hid hk
      have d1 : (kindN (nd L u) == 0) = true := by simp [hk]
      rw [hk] at zk
      clear hk d1
      go_wp2_with fail
      refine (must_yes 70 w1).mono ?_; rintro r w2 ⟨rfl, rfl⟩
      have R1 := HR.out _ hg1
      go_wp2_with (refine wpList_value rfl (exec_load (T := 30) (x := .tmp 22) (a := ⟨w.heap.size, 7, none⟩) rfl (by kernel_rfl) (chg_style R1 hc'.out)) ?_; simp only [Act.put, List.setIfInBounds_toArray, List.set_cons_zero, List.set_cons_succ])
      refine (stymay_node hc'.out.y w2).mono ?_; rintro r w3 ⟨rfl, hg3⟩
      replace hg1 := grown_trans hg1 hg3
      clear hg3 R1
      cases hs : styB c.y with
      | false =>
        have hs' := Lib.hid hs
        clear hs
        go_wp2_with fail
        refine (must_no 60 w3).mono ?_; rintro r w4 ⟨rfl, rfl⟩
        go_wp2_with fail
        refine ⟨rfl, ?_⟩
        rw [hspec.out, if_pos hk'.out, if_neg (by rw [hs'.out]; simp)]
        exact (OpPost.err rfl (HD.out _ hg1) (Mut.ofGrown hg1 (.inl rfl))).widen hg0'.out
      | true =>
        have hs' := Lib.hid hs
        clear hs
        go_wp2_with fail
        refine (must_yes 60 w3).mono ?_; rintro r w4 ⟨rfl, rfl⟩
        clear c0 c1 zk
        have R1 := (HR.out _ hg1).kept0 (grown_drew (World.grownBy.refl _ none))
        have D1 := HD.out _ (grown_drew hg1)
        obtain ⟨c0, c1⟩ := (HD.out _ hg1).cells
        have i1 : (0 : Int) ≤ (u : Int) := by omega
        have i2 : (u : Int) < (n : Int) := by omega
        go_wp2_with fail
        refine wp_region_still_tail 10 (by kernel_rfl) (by kernel_rfl) ?_
        simp only [List.take_succ_cons, List.take_zero, List.drop_succ_cons, List.drop_zero]
        change wpStill _ _ w4.drew _ _ _
        have c0' : w4.drew.cell? ⟨p, 0, none⟩ = some (.slice (some ⟨g, 0, none⟩) n k) := c0
        iterate 7 still_step
        refine wpStill_value (by kernel_rfl) (exec_load (T := 30) (x := .tmp 32) (a := ⟨w.heap.size, 7, none⟩) rfl (by kernel_rfl) (chg_style R1 hc'.out)) ?_
        simp only [Act.put, List.setIfInBounds_toArray, List.set_cons_zero, List.set_cons_succ]
        repeat still_step
        refine wpStill_nil ?_
        refine wpList_skip (by rfl) (exec_store_many (T := 30) (x := .tmp 35) (y := .tmp 33) (g := g) (off := u * 51 + 3) (ds := styN c.y) (by rfl) (by kernel_rfl) (by kernel_rfl) (by rw [styN_len hc'.out.y]; exact infoSty) (sty_one hc'.out.y)
          (fun j hj => by
            rw [styN_len hc'.out.y] at hj
            rw [Nat.add_assoc]
            show (w4.drew.cell? _).isSome = true
            rw [(D1.at_ hun (3 + j) (by omega)).1, List.getElem?_eq_getElem (by rw [(nd_ok_ D1.ok (by rw [D1.len]; exact hun)).len, nodeLs_len]; omega)]
            rfl)
          (fun j hj => by
            rw [styN_len hc'.out.y] at hj
            rw [Nat.add_assoc]
            exact (D1.at_ hun (3 + j) (by omega)).2)) ?_
        simp only [Act.put, List.setIfInBounds_toArray, List.set_cons_zero, List.set_cons_succ]
        have hul : u < L.length := by rw [D1.len]; exact hun
        have hfin : OpPost w B p (rowOf (some ⟨g, 0, none⟩) k) (styleL L x c.key c.y) (.returned (.tuple #[])) (w4.drew.setCells g (u * 51 + 3) (styN c.y)) := by
          rw [hspec.out, if_pos hk'.out, if_pos hs'.out]
          have hnd := nd_ok_ D1.ok hul
          have ho := D1.own.setCells (styN c.y) (u * 51 + 3) _ _
          rw [layL_flatten (styN c.y) 3 L (len51 D1.ok) hul (by rw [styN_len hc'.out.y]; omega), layL_sty _ _ hnd.len (styN_len hc'.out.y)] at ho
          refine (OpPost.fine rfl ⟨D1.two.kept (grownBy_setCells _ _ _) (fun e => D1.row_ne (by rw [hrow, e])), ho, set_ok D1.ok (withSty_ok hnd hc'.out.y), D1.few⟩ ((Mut.ofGrown (grown_drew hg1) (.inl rfl)).trans (Mut.ofGrown (grownBy_setCells _ _ _) (.inr (.inr hrow.symm))) (.inl rfl))).widen hg0'.out
        have hfin' := Lib.hid hfin
        clear hfin D1 R1 hul
        go_wp2_with fail
        go_end0
        exact hfin'.out
    · have hk' := Lib.hid hk
      have d1 : (kindN (nd L u) == 0) = false := by simpa using hk
      clear hk
      go_wp2_with fail
      refine (must_no 70 w1).mono ?_; rintro r w2 ⟨rfl, rfl⟩
      go_wp2_with fail
      refine ⟨rfl, ?_⟩
      rw [hspec.out, if_neg hk'.out]
      exact (OpPost.err rfl (HD.out _ hg1) (Mut.ofGrown hg1 (.inl rfl))).widen hg0'.out
  · go_wp2_with fail
    refine ⟨rfl, ?_⟩
    unfold styleL
    rw [if_neg (by omega)]
    exact (OpPost.err rfl (HD.out _ hg1) (Mut.ofGrown hg1 (.inl rfl))).widen hg0'.out
set_option maxRecDepth 100000 in
set_option maxHeartbeats 2000000 in
theorem text_any (B p : Nat) (A : Option Addr) (n k : Nat) (L : List (List Value)) (x : Int) (c : Chg) (w : World) (hD : DocAt w B p A n k L x) (hc : c.ok) :
    Calls Try.prog 35 #[.pointer (some ⟨p, 0, none⟩), .agg c.cells] w (OpPost w B p (rowOf A k) (textL L x c.key c.y)) := by
  have hD' := Lib.hid hD
  have hc' := Lib.hid hc
  have hf := hD.few
  have hnc := hD.own.2.1
  have hcm : k ≤ 9223372036854775807 := by have := hD.own.2.2.1; unfold maxLen at this; exact this
  have hg0 := World.grownBy_alloc w (.cells c.cells 34) none
  have HR := chg_box w c
  have HD := Lib.hid (fun W (hg : (w.alloc (.cells c.cells 34)).grownBy W none) => hD.grown (grown_trans hg0 hg))
  have CP := Lib.hid (fun W (hg : (w.alloc (.cells c.cells 34)).grownBy W none) => place_any A n k L x c.key W (HD.out W hg).nodes)
  have hr := World.grownBy.refl (w.alloc (.cells c.cells 34)) none
  have e1 := (HR.out _ hr).at 1
  rw [Chg.c1] at e1
  obtain ⟨c0, c1⟩ := (HD.out _ hr).cells
  have hg0' := Lib.hid hg0
  clear hD hg0 hc
  go_enter Try.func35, Try.ntmps35
  go_wp2_with fail
  generalize hW0 : w.alloc (.cells c.cells 34) = W0 at *
  go_still_tail 5, (by kernel_rfl)
  change wpList _ _ _ _ _ W0.drew
  have hr2 := grown_drew (World.grownBy.refl W0 none)
  go_wp2_with fail
  refine (CP.out _ hr2).mono ?_; rintro r w1 ⟨hres, hg1⟩
  replace hg1 := grown_trans hr2 hg1
  clear c0 c1 e1 hr hr2 CP
  rcases hres with ⟨hf1, rfl⟩ | ⟨hf1, rfl⟩
  · obtain ⟨u, hu, hul, _⟩ := findI_spec hf1
    rw [hu]
    have hun : u < n := by have := hD'.out.len; omega
    obtain ⟨g, rfl, hrow, _⟩ := hD'.out.some_ hun
    have hspec := Lib.hid (show textL L x c.key c.y = if kindN (nd L u) = 1 then .ok (L.set u (withText (nd L u) c.y), x) else .error 70 by
      unfold textL
      rw [if_pos (by omega), hu]
      rfl)
    have D1 := HD.out _ hg1
    obtain ⟨c0, c1⟩ := D1.cells
    have zk := (D1.at_ hun 2 (by omega)).1
    rw [(n_kind (nd_ok_ D1.ok (by rw [D1.len]; exact hun))).1] at zk
    clear hu hf1 D1 hul
    by_cases hk : kindN (nd L u) = 1
    · have hk' := Lib.hid hk
      rw [hk] at zk
      clear hk
      go_wp2_with fail
      refine (must_yes 70 w1).mono ?_; rintro r w2 ⟨rfl, rfl⟩
      obtain ⟨s, hs1, hs2, hs3⟩ := okAll_text hc'.out.y
      have R1 := (HR.out _ hg1).at 54
      rw [show 54 = 4 + 50 by rfl, Chg.cy, hs1] at R1
      have D1 := HD.out _ hg1
      have i1 : (0 : Int) ≤ (u : Int) := by omega
      have i2 : (u : Int) < (n : Int) := by omega
      have hul : u < L.length := by rw [D1.len]; exact hun
      have hnd := nd_ok_ D1.ok hul
      have z1 := (D1.at_ hun 50 (by omega)).1
      obtain ⟨vv, hvv⟩ : ∃ vv, (nd L u)[50]? = some vv := ⟨_, List.getElem?_eq_getElem (by rw [hnd.len, nodeLs_len]; omega)⟩
      rw [hvv] at z1
      have z2 := (D1.at_ hun 50 (by omega)).2
      have hfin : OpPost w B p (rowOf (some ⟨g, 0, none⟩) k) (textL L x c.key c.y) (.returned (.tuple #[])) (w2.drew.setCell ⟨g, u * 51 + 50, none⟩ (.string s)) := by
        rw [hspec.out, if_pos hk'.out]
        have D2 := HD.out _ (grown_drew hg1)
        have ho := D2.own.set_ (u * 51 + 50) (.string s)
        rw [flatten_set (len51 D2.ok) u 50 (.string s) hul (by omega)] at ho
        have hw : withText (nd L u) c.y = (nd L u).set 50 (.string s) := by unfold withText; rw [hs1]; rfl
        rw [hw]
        refine (OpPost.fine rfl ⟨D2.two.kept (grownBy_setCell _ _ _ _) (fun e => D2.row_ne (by rw [hrow, e])), ho, set_ok D2.ok (hw ▸ withText_ok hnd hc'.out.y), D2.few⟩ ((Mut.ofGrown (grown_drew hg1) (.inl rfl)).trans (Mut.ofGrown (grownBy_setCell _ _ _ _) (.inr (.inr hrow.symm))) (.inl rfl))).widen hg0'.out
      have hfin' := Lib.hid hfin
      clear hfin D1 hul hnd hs1 hs2 hs3 zk hvv
      go_wp2_with fail
      go_still_tail 10, (by kernel_rfl)
      change wpList _ _ _ _ _ w2.drew
      go_wp2_with fail
      go_end0
      exact hfin'.out
    · have hk' := Lib.hid hk
      have d1 : (kindN (nd L u) == 1) = false := by simpa using hk
      clear hk
      go_wp2_with fail
      refine (must_no 70 w1).mono ?_; rintro r w2 ⟨rfl, rfl⟩
      go_wp2_with fail
      refine ⟨rfl, ?_⟩
      rw [hspec.out, if_neg hk'.out]
      exact (OpPost.err rfl (HD.out _ hg1) (Mut.ofGrown hg1 (.inl rfl))).widen hg0'.out
  · go_wp2_with fail
    refine ⟨rfl, ?_⟩
    unfold textL
    rw [if_neg (by omega)]
    exact (OpPost.err rfl (HD.out _ hg1) (Mut.ofGrown hg1 (.inl rfl))).widen hg0'.out
end Go.Proofs.Ytjnbfgogmhfbiaa
/- The mutations: move. -/
namespace Go.Proofs.Ytjnbfgogmhfbiaa
open Go Go.RowKit
theorem gapYes_one {L : List (List Value)} {par num : Int} {u k u' k' : Nat} (h : GapYes L par num u k) (h' : GapYes L par num u' k') : u = u' ∧ k = k' := by
  obtain ⟨h1, _, _, h2, _⟩ := h
  obtain ⟨g1, _, _, g2, _⟩ := h'
  omega
theorem gap_yes {A : Option Addr} {n c : Nat} {L : List (List Value)} {x parent number : Int} {w : World} (hN : NodesAt w w.heap.size A n L) (hdp : ∀ i, i < n → -1 ≤ dp L i ∧ dp L i ≤ 1000) {u k : Nat} (hy : GapYes L parent number u k) :
    Calls Try.prog 38 #[.agg #[.slice A n c, .int .i64 x], .int .i64 parent, .int .i64 number] w fun r w' => r = .returned (.tuple #[.int .i64 (gapAt L u k : Int), .int .i64 (dp L u + 1)]) ∧ w.grownBy w' none :=
  (gap_any A n c L x parent number w hN hdp).mono fun r w' h => by
    rcases h with ⟨⟨u', k', h1, h2⟩ | ⟨h1, _⟩, hg⟩
    · obtain ⟨rfl, rfl⟩ := gapYes_one hy h1
      exact ⟨h2, hg⟩
    · exact absurd ⟨u, k, hy⟩ h1
theorem gap_no {A : Option Addr} {n c : Nat} {L : List (List Value)} {x parent number : Int} {w : World} (hN : NodesAt w w.heap.size A n L) (hdp : ∀ i, i < n → -1 ≤ dp L i ∧ dp L i ≤ 1000) (hno : ¬ ∃ u k : Nat, GapYes L parent number u k) :
    Calls Try.prog 38 #[.agg #[.slice A n c, .int .i64 x], .int .i64 parent, .int .i64 number] w fun r w' => r = .panicked [{ v := wrongV 70, recovered := false }] ∧ w.grownBy w' none :=
  (gap_any A n c L x parent number w hN hdp).mono fun r w' h => by
    rcases h with ⟨⟨u', k', h1, h2⟩ | ⟨_, h2⟩, hg⟩
    · exact absurd ⟨u', k', h1⟩ hno
    · exact ⟨h2, hg⟩
/-- Where the gap is. -/
theorem kids_lt {L : List (List Value)} {n u j : Nat} (hu : u < n) (hj : j ∈ kidsN (dp L) n u) : u < j ∧ j < endN (dp L) n u := by
  have := (mem_kids hu).1 hj
  omega
theorem gapAt_bounds {L : List (List Value)} {u k : Nat} (hu : u < L.length) : u < gapAt L u k ∧ gapAt L u k ≤ endN (dp L) L.length u ∧ gapAt L u k ≤ L.length := by
  have e1 := endN_gt (d := dp L) hu
  have e2 := endN_le (d := dp L) hu
  unfold gapAt
  cases h : (kidsN (dp L) L.length u)[k]? with
  | none => simp only [Option.getD_none]; omega
  | some j =>
    have := kids_lt hu (List.mem_of_getElem? h)
    simp only [Option.getD_some]
    omega
/-- The first nodes lie deeper by as much. -/
def someDeeper (T : List (List Value)) (d : Int) (k : Nat) : List (List Value) := (T.take k).map (deepen d) ++ T.drop k
theorem someDeeper_zero (T : List (List Value)) (d : Int) : someDeeper T d 0 = T := by simp [someDeeper]
theorem someDeeper_all (T : List (List Value)) (d : Int) : someDeeper T d T.length = T.map (deepen d) := by simp [someDeeper]
theorem someDeeper_len (T : List (List Value)) (d : Int) (k : Nat) : (someDeeper T d k).length = T.length := by simp [someDeeper]; omega
theorem someDeeper_nd (T : List (List Value)) (d : Int) (k : Nat) (hk : k < T.length) : nd (someDeeper T d k) k = nd T k := by
  unfold nd someDeeper
  rw [List.getElem?_append_right (by simp; omega)]
  simp only [List.length_map, List.length_take, List.getElem?_drop]
  rw [show k + (k - min k T.length) = k by omega]
theorem someDeeper_succ (T : List (List Value)) (d : Int) (k : Nat) (hk : k < T.length) : (someDeeper T d k).set k ((nd T k).set 1 (.int .i64 (depN (nd T k) + d))) = someDeeper T d (k + 1) := by
  apply List.ext_getElem?
  intro t
  have hl1 : ((T.take k).map (deepen d)).length = k := by simp; omega
  have hl2 : ((T.take (k + 1)).map (deepen d)).length = k + 1 := by simp; omega
  by_cases ht : t = k
  · subst ht
    rw [List.getElem?_set_self (by rw [someDeeper_len]; exact hk)]
    unfold someDeeper
    rw [List.getElem?_append_left (by omega), List.getElem?_map, List.getElem?_take, if_pos (by omega), nd_get hk]
    rfl
  · rw [List.getElem?_set_ne (Ne.symm ht)]
    unfold someDeeper
    by_cases h : t < k
    · rw [List.getElem?_append_left (by omega), List.getElem?_append_left (by omega), List.getElem?_map, List.getElem?_map, List.getElem?_take, List.getElem?_take, if_pos h, if_pos (by omega)]
    · rw [List.getElem?_append_right (by omega), List.getElem?_append_right (by omega), List.getElem?_drop, List.getElem?_drop, hl1, hl2, show k + (t - k) = t by omega, show k + 1 + (t - (k + 1)) = t by omega]
theorem deepen_ok {y : List Value} (hy : OkAll nodeLs y) {d : Int} (h1 : -9223372036854775808 ≤ depN y + d) (h2 : depN y + d ≤ 9223372036854775807) : OkAll nodeLs (deepen d y) :=
  okAll_set nodeLs y 1 (.int .i64) _ hy rfl ⟨_, rfl, wf_of h1 h2⟩
theorem deeper_ok {T : List (List Value)} (h : ∀ y ∈ T, OkAll nodeLs y) {d : Int} (hd : ∀ y ∈ T, -9223372036854775808 ≤ depN y + d ∧ depN y + d ≤ 9223372036854775807) : ∀ y ∈ T.map (deepen d), OkAll nodeLs y := fun y hy => by
  obtain ⟨z, hz, rfl⟩ := List.mem_map.1 hy
  exact deepen_ok (h z hz) (hd z hz).1 (hd z hz).2
theorem dep_mem {L : List (List Value)} {lo hi : Int} (h : ∀ i, i < L.length → lo ≤ dp L i ∧ dp L i ≤ hi) : ∀ y ∈ L, lo ≤ depN y ∧ depN y ≤ hi := fun y hy => by
  obtain ⟨i, hi, rfl⟩ := List.mem_iff_getElem.1 hy
  have := h i hi
  unfold dp at this
  rwa [nd_some (List.getElem?_eq_getElem hi)] at this
theorem mem_dep {L : List (List Value)} {lo hi : Int} (h : ∀ y ∈ L, lo ≤ depN y ∧ depN y ≤ hi) : ∀ i, i < L.length → lo ≤ dp L i ∧ dp L i ≤ hi := fun i hi => h _ (List.mem_of_getElem? (nd_get hi))
set_option maxRecDepth 100000 in
set_option maxHeartbeats 4000000 in
theorem move_any (B p : Nat) (A : Option Addr) (n k : Nat) (L : List (List Value)) (x : Int) (c : Chg) (w : World) (hD : DocAt w B p A n k L x) (hB : B ≤ w.heap.size) (hc : c.ok) (hdp : ∀ i, i < n → -1 ≤ dp L i ∧ dp L i ≤ 1000) :
    Calls Try.prog 32 #[.pointer (some ⟨p, 0, none⟩), .agg c.cells] w (OpPost w B p (rowOf A k) (moveL L x c.key c.par c.num)) := by
  have hg0 := World.grownBy_alloc w (.cells c.cells 34) none
  have CC := Lib.hid (cut_any B p A n k L x c.key _ (hD.grown hg0) (Nat.le_trans hB hg0.size))
  have hl := hD.len
  have hl' := Lib.hid hl
  have hDlt := hD.two.lt
  have hDrow := hD.own.row_ge
  have hr0 := (chg_box w c).out _ (World.grownBy.refl _ _)
  have hr0' := Lib.hid hr0
  have e1 := hr0.at 1
  rw [Chg.c1] at e1
  have hfew := hD.few
  have hDm := Lib.hid (dep_mem (hl ▸ hdp))
  have hszW := World.size_alloc w (.cells c.cells 34)
  have hg0' := Lib.hid hg0
  have hok := Lib.hid hD.ok
  have hkm : k ≤ 9223372036854775807 := by have := hD.own.2.2.1; unfold maxLen at this; exact this
  have hB' := Lib.hid hB
  clear hD hB hg0 hr0 hdp hl
  go_enter Try.func32, Try.ntmps32
  go_wp2_with fail
  generalize hW0 : w.alloc (.cells c.cells 34) = W0 at *
  refine CC.out.mono ?_; rintro r w1 hres
  clear e1 CC
  rcases hres with ⟨u, e, hu, h0, hun, he, ⟨A1, c1, rfl, hown1⟩, hD1, hM⟩ | ⟨hu, rfl, hD1, hM⟩
  · have he1 : u < e := by rw [he]; exact endN_gt hun
    have he2 : e ≤ n := by rw [he]; exact endN_le hun
    have hR1 : Row w1 w.heap.size 34 c.cells := hM.row hr0'.out (by omega) (fun e' => by have := (hDrow _ e'.symm).2; omega)
    obtain ⟨T, hT⟩ : ∃ T, T = (L.drop u).take (e - u) := ⟨_, rfl⟩
    obtain ⟨R, hR⟩ : ∃ R, R = L.take u ++ L.drop e := ⟨_, rfl⟩
    have hcut : cutL L c.key = .ok (T, R) := by
      rw [hT, hR]
      exact cutL_yes hu h0 (by rw [hl'.out]; exact he)
    rw [← hT] at hown1
    rw [← hR] at hD1
    obtain ⟨m, hm⟩ : ∃ m, m = e - u := ⟨_, rfl⟩
    obtain ⟨n1, hn1⟩ : ∃ n1, n1 = u + (n - e) := ⟨_, rfl⟩
    rw [← hm] at hown1 ⊢
    rw [← hn1] at hD1
    have hm0 : 0 < m := by omega
    have hmn : m + n1 ≤ 700 := by omega
    clear hm hn1
    have hTm : ∀ y ∈ T, -1 ≤ depN y ∧ depN y ≤ 1000 := fun y hy => hDm.out y (by rw [hT] at hy; exact List.mem_of_mem_drop (List.mem_of_mem_take hy))
    have hRm : ∀ y ∈ R, -1 ≤ depN y ∧ depN y ≤ 1000 := fun y hy => hDm.out y (by
      rw [hR] at hy
      rcases List.mem_append.1 hy with hy | hy
      · exact List.mem_of_mem_take hy
      · exact List.mem_of_mem_drop hy)
    have hTok : ∀ y ∈ T, OkAll nodeLs y := fun y hy => by
      rw [hT] at hy
      exact sub_ok hok.out _ _ y hy
    have hTl : T.length = m := by
      have h1 := hown1.len
      have h2 := nodes_len hTok
      omega
    have hRl := hD1.len
    have hRdp : ∀ i, i < n1 → -1 ≤ dp R i ∧ dp R i ≤ 1000 := hRl ▸ mem_dep hRm
    have hTdp : ∀ i, i < m → -1 ≤ dp T i ∧ dp T i ≤ 1000 := hTl ▸ mem_dep hTm
    have HB := Lib.hid (fun W (hg : w1.grownBy W none) => show (W.cell? ⟨p, 0, none⟩ = some (.slice A n1 k) ∧ W.cell? ⟨p, 1, none⟩ = some (.int .i64 x)) ∧ W.cell? ⟨w.heap.size, 2, none⟩ = some (.int .i64 c.par) ∧ W.cell? ⟨w.heap.size, 3, none⟩ = some (.int .i64 c.num) from
      ⟨(hD1.grown hg).cells, ((hR1.kept0 hg).at 2).trans Chg.c2, ((hR1.kept0 hg).at 3).trans Chg.c3⟩)
    have hM' := Lib.hid hM
    have hD1' := Lib.hid hD1
    have hfar := Lib.hid (fun (g : Nat) (hg : W0.heap.size ≤ g) => show g ≠ p ∧ rowOf A k ≠ some g from ⟨by omega, fun e => by have := (hDrow g e).2; omega⟩)
    have hB1 := Lib.hid (show B ≤ w1.heap.size by have := hM.size; have := hB'.out; omega)
    have hcut' := Lib.hid hcut
    have hgd := grown_drew (World.grownBy.refl w1 none)
    by_cases hy : ∃ v q : Nat, GapYes R c.par c.num v q
    · obtain ⟨v, q, hy⟩ := hy
      have CG := Lib.hid (fun W (hg : w1.grownBy W none) => gap_yes (c := k) (x := x) (hD1.grown hg).nodes hRdp hy)
      have hvl : v < R.length := hy.2.1
      obtain ⟨gb1, gb2, gb3⟩ := gapAt_bounds (k := q) hvl
      have hgE := Lib.hid (gapE_yes hy)
      obtain ⟨g, hgq⟩ : ∃ g, g = gapAt R v q := ⟨_, rfl⟩
      obtain ⟨dv, hdv⟩ : ∃ dv, dv = dp R v + 1 := ⟨_, rfl⟩
      rw [← hgq, ← hdv] at CG hgE
      have hdvb : 0 ≤ dv ∧ dv ≤ 1001 := by have := hRdp v (by omega); omega
      have hgn : g ≤ n1 := by omega
      obtain ⟨⟨c0, c1'⟩, e2, e3⟩ := HB.out _ hgd
      clear hM hD1 hcut hR1 hT hR he hu hRm hRdp hdv hgq gb1 gb2 gb3 hy hr0' hDrow hszW hvl hRl
      go_wp2_with fail
      go_region_held3 (fun W => (W.cell? ⟨p, 0, none⟩ = some (.slice A n1 k) ∧ W.cell? ⟨p, 1, none⟩ = some (.int .i64 x)) ∧ W.cell? ⟨w.heap.size, 2, none⟩ = some (.int .i64 c.par) ∧ W.cell? ⟨w.heap.size, 3, none⟩ = some (.int .i64 c.num)) (first | exact ⟨⟨c0, c1'⟩, e2, e3⟩ | go_keep) (first
        | (go_at_call 38; ((with_reducible refine (CG.out _ hgd).mono ?_); rintro r w2 ⟨rfl, hg2⟩); clear c0 c1' e2 e3; replace hgd := grown_trans hgd hg2; obtain ⟨⟨c0, c1'⟩, e2, e3⟩ := HB.out _ hgd; clear hg2))
      obtain ⟨g1, hA1, hrw1, hg1b, hg1l, hcl1⟩ := hown1.cells_ (by rw [hown1.len]; omega)
      subst hA1
      have hown2 := hown1.grown0 hgd
      have t1 := hown2.cells_ (by rw [hown1.len]; omega)
      have hndT := nd_ok_ hTok (i := 0) (by omega)
      have hz : w2.cell? ⟨g1, 1, none⟩ = some (.int .i64 (dp T 0)) := by
        obtain ⟨g', e', _, _, _, hc2⟩ := t1
        cases e'
        rw [hc2 1 (by rw [hown1.len]; omega), flatten_get 51 (by omega) T (len51 hTok), nd_get (by omega : 1 / 51 < T.length)]
        exact (n_dep hndT).1
      have hd0 := hTdp 0 hm0
      obtain ⟨d0, hd0e⟩ : ∃ d0, d0 = dp T 0 := ⟨_, rfl⟩
      rw [← hd0e] at hz hd0
      obtain ⟨δ, hδ⟩ : ∃ δ, δ = dv - d0 := ⟨_, rfl⟩
      have hδb : -1001 ≤ δ ∧ δ ≤ 1002 := by omega
      have hwr : IntKind.i64.wrap (dv - d0) = δ := by rw [IntKind.wrap_i64]; omega
      have hδ' := Lib.hid hδ
      have hd0' := Lib.hid hd0e
      have hgd' := Lib.hid hgd
      have hcm : c1 ≤ 9223372036854775807 := by have := hown2.2.2.1; unfold maxLen at this; exact this
      have hmc : m ≤ c1 := hown2.2.1
      have hl0 := Lib.hid (show Own w2 W0.heap.size 32 51 (some ⟨g1, 0, none⟩) m c1 (someDeeper T δ 0).flatten by rw [someDeeper_zero]; exact hown2)
      have hTl' := Lib.hid hTl
      have hTd' := Lib.hid hTdp
      have hTok' := Lib.hid hTok
      have hTm' := Lib.hid hTm
      clear hown1 hown2 t1 hcl1 hndT hd0e hδ hgd CG c0 c1' e2 e3 hTl hTdp hTok hTm hrw1
      go_wp2_with fail
      go_loopw [8, 32] (fun _ i wi => ∃ j : Nat, j ≤ m ∧ i = .int .i64 (j : Int) ∧ Own wi W0.heap.size 32 51 (some ⟨g1, 0, none⟩) m c1 (someDeeper T δ j).flatten ∧ w2.grownBy wi (some g1)) (fun _ i _ => m - (intOf i).toNat)
      case atStart => exact ⟨0, by omega, rfl, hl0.out, World.grownBy.refl _ _⟩
      case round =>
        obtain ⟨j, hj, rfl, hox, hgi⟩ := hrel
        clear hl0
        obtain ⟨wo, rfl⟩ : ∃ wo : World, wo = wr := ⟨_, rfl⟩
        by_cases hlt : j < m
        · have hjT : j < T.length := by rw [hTl'.out]; exact hlt
          have hokj := nd_ok_ hTok'.out hjT
          have hle := hox.len
          obtain ⟨g', e', _, _, _, hcx⟩ := hox.cells_ (by rw [hle]; omega)
          cases e'
          have hlen : ∀ y ∈ someDeeper T δ j, y.length = 51 := fun y hy => by
            unfold someDeeper at hy
            rcases List.mem_append.1 hy with hy | hy
            · obtain ⟨z, hz, rfl⟩ := List.mem_map.1 hy
              unfold deepen
              rw [List.length_set]
              exact (hTok'.out z (List.mem_of_mem_take hz)).len
            · exact (hTok'.out y (List.mem_of_mem_drop hy)).len
          have z1 : wo.cell? ⟨g1, j * 51 + 1, none⟩ = some (.int .i64 (depN (nd T j))) := by
            rw [hcx _ (by rw [hle]; omega), flatten_get 51 (by omega) _ hlen, show (j * 51 + 1) / 51 = j by omega, show (j * 51 + 1) % 51 = 1 by omega, nd_get (by rw [someDeeper_len]; exact hjT), someDeeper_nd T δ j hjT]
            exact (n_dep hokj).1
          have z2 := hox.frozen_ (by rw [hle]; omega) rfl (j * 51 + 1)
          have hb := hTd'.out j hlt
          obtain ⟨dj, hdj⟩ : ∃ dj, dj = depN (nd T j) := ⟨_, rfl⟩
          have hbj : -1 ≤ dj ∧ dj ≤ 1000 := by rw [hdj]; exact hb
          have hNew := hox.set_ (j * 51 + 1) (.int .i64 (dj + δ))
          rw [flatten_set hlen j 1 _ (by rw [someDeeper_len]; exact hjT) (by omega), someDeeper_nd T δ j hjT, hdj, someDeeper_succ T δ j hjT, ← hdj] at hNew
          rw [← hdj] at z1
          have hNew' := Lib.hid hNew
          have hgN := Lib.hid (grown_trans hgi (grownBy_setCell _ g1 (j * 51 + 1) (.int .i64 (dj + δ))))
          have hws : IntKind.i64.wrap (dj + δ) = dj + δ := by rw [IntKind.wrap_i64]; omega
          clear hNew hox hgi hcx hlen hokj hle hjT hb hdj
          go_wp2_with fail
          go_roundw
          case rel => exact ⟨j + 1, by omega, by go_num, hNew'.out, hgN.out⟩
          case measure => simp [intOf]; omega
        · obtain rfl : j = m := by omega
          rw [← hTl'.out, someDeeper_all, hTl'.out] at hox
          have D2 := hD1'.out.grown hgd'.out
          obtain ⟨nep, nrow⟩ := hfar.out g1 hg1b
          have D3 : DocAt wo B p A n1 k R x := ⟨D2.two.kept hgi (fun e => nep (Option.some.inj e).symm), D2.own.grownBy_ hgi (.inr nrow), D2.ok, D2.few⟩
          have hTd'' : ∀ y ∈ T.map (deepen δ), OkAll nodeLs y := deeper_ok hTok'.out (fun y hy => by have := hTm'.out y hy; omega)
          have CI := Lib.hid (ins_nodes wo B n1 k g j c1 W0.heap.size A (some ⟨g1, 0, none⟩) R (T.map (deepen δ)) (by have := hB1.out; have := hgd'.out.size; have := hgi.size; omega) D3.ok hTd'' D3.own hox (fun e => nrow (by rw [← e]; unfold rowOf; rw [if_neg (by omega)]; rfl)) hgn hm0 (by omega))
          obtain ⟨c0, c1'⟩ := D3.cells
          have D3' := Lib.hid D3
          have hgi' := Lib.hid hgi
          clear D2 D3 hox hgi
          go_wp2_with fail
          refine CI.out.mono ?_; rintro r w5 ⟨A5, c5, rfl, hown5, hg5⟩
          have hokp : ∀ y ∈ R.take g ++ T.map (deepen δ) ++ R.drop g, OkAll nodeLs y := fun y hy => by
            rcases List.mem_append.1 hy with hy | hy
            · rcases List.mem_append.1 hy with hy | hy
              · exact D3'.out.ok y (List.mem_of_mem_take hy)
              · exact hTd'' y hy
            · exact D3'.out.ok y (List.mem_of_mem_drop hy)
          have hp6 := D3'.out.put hg5 hown5 hokp (by omega)
          have hb5 := D3'.out.two.kept hg5 (Ne.symm D3'.out.row_ne)
          have f0 := hb5.f 0
          have c0'' := hb5.c0
          have hfin : OpPost w B p (rowOf A k) (moveL L x c.key c.par c.num) (.returned (.tuple #[])) (w5.setCell ⟨p, 0, none⟩ (.slice A5 (n1 + j) c5)) := by
            unfold moveL
            rw [hcut'.out]
            dsimp only
            rw [hgE.out]
            dsimp only
            rw [← hd0'.out, ← hδ'.out]
            exact (OpPost.fine rfl hp6.1 (((hM'.out.trans (Mut.ofGrown hgd'.out (.inl rfl)) (.inl rfl)).trans (Mut.ofGrown (q := some g1) hgi'.out (.inr (.inr rfl))) (.inr fun g e => by cases e; exact hg1b)).trans hp6.2 (.inl rfl))).widen hg0'.out
          have hfin' := Lib.hid hfin
          clear hfin hp6 hb5 hown5 hg5 hokp c0 c1'
          go_wp2_with fail
          go_end0
          exact hfin'.out
    · have CG := Lib.hid (fun W (hg : w1.grownBy W none) => gap_no (c := k) (x := x) (hD1.grown hg).nodes hRdp hy)
      have hgE := Lib.hid (gapE_no hy)
      obtain ⟨⟨c0, c1'⟩, e2, e3⟩ := HB.out _ hgd
      clear hM hD1 hcut hR1 hT hR he hu hRm hRdp hy hr0' hDrow hszW hRl
      have hfin : ∀ w2, w1.grownBy w2 none → OpPost w B p (rowOf A k) (moveL L x c.key c.par c.num) (.panicked [{ v := wrongV 70, recovered := false }]) w2 := fun w2 hg => by
        unfold moveL
        rw [hcut'.out]
        dsimp only
        rw [hgE.out]
        exact (OpPost.err rfl (hD1'.out.grown hg) (hM'.out.trans (Mut.ofGrown hg (.inl rfl)) (.inl rfl))).widen hg0'.out
      have hfin' := Lib.hid hfin
      clear hfin
      go_wp2_with fail
      refine wp_region_held (S := (fun W => (W.cell? ⟨p, 0, none⟩ = some (.slice A n1 k) ∧ W.cell? ⟨p, 1, none⟩ = some (.int .i64 x)) ∧ W.cell? ⟨w.heap.size, 2, none⟩ = some (.int .i64 c.par) ∧ W.cell? ⟨w.heap.size, 3, none⟩ = some (.int .i64 c.num))) (by kernel_rfl) ?_
      refine wpAnyH_take (i := 0) (v := .pointer (some ⟨p, 0, none⟩)) rfl (by kernel_rfl) (by kernel_rfl) (by kernel_rfl) (fun _ _ _ h => h) (Or.inl ⟨by kernel_rfl, fun V _ => by kernel_rfl⟩) ⟨⟨c0, c1'⟩, e2, e3⟩ ?_
      simp only [Act.put, List.getElem_toArray, List.getElem_cons_succ, List.getElem_cons_zero, List.setIfInBounds_toArray, List.set_cons_zero, List.set_cons_succ]
      refine wpAnyH_take (i := 1) (v := .pointer (some ⟨p, 0, none⟩)) rfl (by kernel_rfl) (by kernel_rfl) (by kernel_rfl) (fun _ _ _ h => h) (Or.inl ⟨by kernel_rfl, fun V _ => by kernel_rfl⟩) ⟨⟨c0, c1'⟩, e2, e3⟩ ?_
      simp only [Act.put, List.getElem_toArray, List.getElem_cons_succ, List.getElem_cons_zero, List.setIfInBounds_toArray, List.set_cons_zero, List.set_cons_succ]
      refine wpAnyH_take (i := 2) (v := .agg #[.slice A n1 k, .int .i64 x]) rfl (by kernel_rfl) (by kernel_rfl) (by kernel_rfl) (fun _ _ _ h => h) (Or.inl ⟨by kernel_rfl, fun V hV => by obtain ⟨⟨a0, a1⟩, a2, a3⟩ := hV; go_simp⟩) ⟨⟨c0, c1'⟩, e2, e3⟩ ?_
      simp only [Act.put, List.getElem_toArray, List.getElem_cons_succ, List.getElem_cons_zero, List.setIfInBounds_toArray, List.set_cons_zero, List.set_cons_succ]
      refine wpAnyH_take (i := 3) (v := .pointer (some ⟨w.heap.size, 2, none⟩)) rfl (by kernel_rfl) (by kernel_rfl) (by kernel_rfl) (fun _ _ _ h => h) (Or.inl ⟨by kernel_rfl, fun V _ => by kernel_rfl⟩) ⟨⟨c0, c1'⟩, e2, e3⟩ ?_
      simp only [Act.put, List.getElem_toArray, List.getElem_cons_succ, List.getElem_cons_zero, List.setIfInBounds_toArray, List.set_cons_zero, List.set_cons_succ]
      refine wpAnyH_take (i := 4) (v := .int .i64 c.par) rfl (by kernel_rfl) (by kernel_rfl) (by kernel_rfl) (fun _ _ _ h => h) (Or.inl ⟨by kernel_rfl, fun V hV => by obtain ⟨⟨a0, a1⟩, a2, a3⟩ := hV; go_simp⟩) ⟨⟨c0, c1'⟩, e2, e3⟩ ?_
      simp only [Act.put, List.getElem_toArray, List.getElem_cons_succ, List.getElem_cons_zero, List.setIfInBounds_toArray, List.set_cons_zero, List.set_cons_succ]
      refine wpAnyH_take (i := 5) (v := .pointer (some ⟨w.heap.size, 3, none⟩)) rfl (by kernel_rfl) (by kernel_rfl) (by kernel_rfl) (fun _ _ _ h => h) (Or.inl ⟨by kernel_rfl, fun V _ => by kernel_rfl⟩) ⟨⟨c0, c1'⟩, e2, e3⟩ ?_
      simp only [Act.put, List.getElem_toArray, List.getElem_cons_succ, List.getElem_cons_zero, List.setIfInBounds_toArray, List.set_cons_zero, List.set_cons_succ]
      refine wpAnyH_take (i := 6) (v := .int .i64 c.num) rfl (by kernel_rfl) (by kernel_rfl) (by kernel_rfl) (fun _ _ _ h => h) (Or.inl ⟨by kernel_rfl, fun V hV => by obtain ⟨⟨a0, a1⟩, a2, a3⟩ := hV; go_simp⟩) ⟨⟨c0, c1'⟩, e2, e3⟩ ?_
      simp only [Act.put, List.getElem_toArray, List.getElem_cons_succ, List.getElem_cons_zero, List.setIfInBounds_toArray, List.set_cons_zero, List.set_cons_succ]
      refine wpAnyH_ready (rs := [7]) (by kernel_rfl) (by simp) ?_
      refine AllReadyH.cons rfl (fun K hK => ?_) AllReadyH.nil
      go_simp
      refine (CG.out _ hgd).mono ?_; rintro r w2 ⟨rfl, hg2⟩
      exact ⟨rfl, hfin'.out _ (grown_trans hgd hg2)⟩
  · have hfin : OpPost w B p (rowOf A k) (moveL L x c.key c.par c.num) (.panicked [{ v := wrongV 70, recovered := false }]) w1 := by
      unfold moveL
      rw [cutL_no hu]
      exact (OpPost.err rfl hD1 hM).widen hg0'.out
    have hfin' := Lib.hid hfin
    clear hfin hD1 hM hu
    go_wp2_with fail
    exact ⟨rfl, hfin'.out⟩
end Go.Proofs.Ytjnbfgogmhfbiaa
/- The mutations: insert. -/
namespace Go.Proofs.Ytjnbfgogmhfbiaa
open Go Go.RowKit
theorem grown_undrew {a b : World} (h : a.drew.grownBy b none) : a.grownBy b none := ⟨h.os, h.tape, h.output, h.size, h.block⟩
theorem exec_buildSlice {P : Program} {ρ : Operand → Value} {o : Oper} {t : TypeId} {n : Nat} {ps : Array (Nat × Operand)} {parts : Array (Nat × Value)} {w w1 : World} {v : Value} (ho : o.op = .buildSlice t n ps) (hps : ps.map (fun x => (x.1, ρ x.2)) = parts) (hr : (Instr.buildSlice t n parts).run P w = .ok v w1) : (execOp ρ o).run P w = .ok (.value v) w1 := by
  unfold execOp
  simp only [ho, Sem.run_bind]
  rw [show (ps.map fun (i, x) => (i, ρ x)) = parts from hps, hr]
  rfl
theorem run_one (w : World) (Z : List Value) (hZ : Z.length = 51) : (Instr.buildSlice 22 1 #[(0, .agg Z.toArray)]).run Try.prog w = .ok (.slice (some ⟨w.heap.size, 0, none⟩) 1 1) (w.alloc (.cells Z.toArray 32)) := by
  obtain ⟨i0, hi0, hz0, hz1, hz2⟩ := info_parts infoN
  refine run_buildSlice w 22 32 1 _ Z.toArray i0 _ Try.underlying22 hi0 hz0 (by rw [hz1]; omega) (by rw [hz1]; omega) ?_
  rw [hz1]
  have := Great.fill_whole (s := 51) (by omega) [.agg Z.toArray] ((Array.range (1 * 51)).map ((Value.agg zeroNode.toArray).cells[· % (Value.agg zeroNode.toArray).cells.size]!)) (fun v hv => by
    simp only [List.mem_cons, List.not_mem_nil, or_false] at hv
    rw [hv]
    show Z.toArray.size = 51
    simpa using hZ) (by simp)
  refine this.trans ?_
  simp [Value.cells]
def headOf (x deep kd : Int) : List Value := ((zeroNode.set 0 (.int .i64 x)).set 1 (.int .i64 deep)).set 2 (.int .u8 kd)
theorem head_len (x deep kd : Int) : (headOf x deep kd).length = 51 := by simp [headOf]; rfl
theorem head_ok {x deep kd : Int} (h1 : -9223372036854775808 ≤ x ∧ x ≤ 9223372036854775807) (h2 : -9223372036854775808 ≤ deep ∧ deep ≤ 9223372036854775807) (h3 : 0 ≤ kd ∧ kd ≤ 255) : OkAll nodeLs (headOf x deep kd) := by
  refine okAll_set nodeLs _ 2 (.int .u8) _ (okAll_set nodeLs _ 1 (.int .i64) _ (okAll_set nodeLs _ 0 (.int .i64) _ (okB_ok _ _ (by decide +kernel)) rfl ⟨_, rfl, wf_of h1.1 h1.2⟩) rfl ⟨_, rfl, wf_of h2.1 h2.2⟩) rfl ⟨_, rfl, ?_⟩
  simp [Lit.wf, IntKind.min, IntKind.max, IntKind.signed, IntKind.bits]
  omega
theorem head_box (x deep : Int) (y : List Value) : withSty (headOf x deep 0) y = boxOf x deep y := by
  unfold withSty boxOf
  rfl
theorem head_text (x deep : Int) (y : List Value) : (headOf x deep 1).set 50 ((y[50]?).getD (.string ByteArray.empty)) = textOf x deep y := by rfl
theorem box_ok {x deep : Int} {y : List Value} (h1 : -9223372036854775808 ≤ x ∧ x ≤ 9223372036854775807) (h2 : -9223372036854775808 ≤ deep ∧ deep ≤ 9223372036854775807) (hy : OkAll nodeLs y) : OkAll nodeLs (boxOf x deep y) := by
  rw [← head_box]
  exact withSty_ok (head_ok h1 h2 (by omega)) hy
theorem text_ok {x deep : Int} {y : List Value} (h1 : -9223372036854775808 ≤ x ∧ x ≤ 9223372036854775807) (h2 : -9223372036854775808 ≤ deep ∧ deep ≤ 9223372036854775807) (hy : OkAll nodeLs y) : OkAll nodeLs (textOf x deep y) := by
  obtain ⟨s, h3, _, h4⟩ := okAll_text hy
  rw [← head_text, h3]
  exact okAll_set nodeLs _ 50 .str _ (head_ok h1 h2 (by omega)) rfl ⟨s, rfl, h4⟩
set_option maxRecDepth 100000 in
set_option maxHeartbeats 4000000 in
theorem insert_any (B p : Nat) (A : Option Addr) (n k : Nat) (L : List (List Value)) (x : Int) (c : Chg) (w : World) (hD : DocAt w B p A n k L x) (hB : B ≤ w.heap.size) (hc : c.ok) (hn : n ≤ 600) (hx : 0 ≤ x ∧ x ≤ 1073741825) (hdp : ∀ i, i < n → -1 ≤ dp L i ∧ dp L i ≤ 1000) :
    Calls Try.prog 30 #[.pointer (some ⟨p, 0, none⟩), .agg c.cells] w (OpPost w B p (rowOf A k) (insertL L x c.par c.num c.y)) := by
  have hg0 := World.grownBy_alloc w (.cells c.cells 34) none
  have HR := chg_box w c
  have HD := Lib.hid (fun W (hg : (w.alloc (.cells c.cells 34)).grownBy W none) => hD.grown (grown_trans hg0 hg))
  have HB := Lib.hid (fun W (hg : (w.alloc (.cells c.cells 34)).grownBy W none) => show ((W.cell? ⟨p, 0, none⟩ = some (.slice A n k) ∧ W.cell? ⟨p, 1, none⟩ = some (.int .i64 x)) ∧ W.cell? ⟨w.heap.size, 2, none⟩ = some (.int .i64 c.par) ∧ W.cell? ⟨w.heap.size, 3, none⟩ = some (.int .i64 c.num)) ∧ W.cell? ⟨w.heap.size, 6, none⟩ = some (.int .u8 (kindN c.y)) from
    ⟨⟨(HD.out W hg).cells, ((HR.out W hg).at 2).trans Chg.c2, ((HR.out W hg).at 3).trans Chg.c3⟩, ((HR.out W hg).at 6).trans ((Chg.cy 2).trans (n_kind hc.y).1)⟩)
  have hl := hD.len
  have hplt := hD.two.lt
  have hrowlt := hD.own.row_ge
  have hszW := World.size_alloc w (.cells c.cells 34)
  have hB0 := Lib.hid (show B ≤ (w.alloc (.cells c.cells 34)).heap.size by have := hg0.size; omega)
  have hc' := Lib.hid hc
  have hkb := (n_kind hc.y).2
  have hg0' := Lib.hid hg0
  clear hD hB hg0 hc
  go_enter Try.func30, Try.ntmps30
  go_wp2_with fail
  generalize hW0 : w.alloc (.cells c.cells 34) = W0 at *
  have hfar := Lib.hid (fun (g : Nat) (hg : W0.heap.size ≤ g) => show g ≠ p ∧ rowOf A k ≠ some g from ⟨by omega, fun e => by have := (hrowlt g e).2; omega⟩)
  have hbz : w.heap.size < W0.heap.size := by omega
  clear hW0 hszW hrowlt hplt
  have hgd := grown_drew (World.grownBy.refl W0 none)
  obtain ⟨⟨⟨c0, c1⟩, e2, e3⟩, e6⟩ := HB.out _ hgd
  by_cases hy : ∃ v q : Nat, GapYes L c.par c.num v q
  · obtain ⟨v, q, hy⟩ := hy
    have CG := Lib.hid (gap_yes (c := k) (x := x) (HD.out _ hgd).nodes hdp hy)
    have hvl : v < L.length := hy.2.1
    obtain ⟨gb1, gb2, gb3⟩ := gapAt_bounds (k := q) hvl
    have hgE := Lib.hid (gapE_yes hy)
    obtain ⟨g, hgq⟩ : ∃ g, g = gapAt L v q := ⟨_, rfl⟩
    obtain ⟨dv, hdv⟩ : ∃ dv, dv = dp L v + 1 := ⟨_, rfl⟩
    rw [← hgq, ← hdv] at CG hgE
    have hdvb : 0 ≤ dv ∧ dv ≤ 1001 := by have := hdp v (by omega); omega
    have hgn : g ≤ n := by omega
    have hspec := Lib.hid (show insertL L x c.par c.num c.y = if kindN c.y = 0 then (if styB c.y then .ok (putAt L g [boxOf x dv c.y], x + 1) else .error 60)
        else if kindN c.y = 1 then .ok (putAt L g [textOf x dv c.y], x + 1) else .error 70 by
      unfold insertL
      rw [hgE.out])
    clear hdv hgq gb1 gb2 gb3 hy hvl hdp hgE hl
    go_region_held3 (fun W => (W.cell? ⟨p, 0, none⟩ = some (.slice A n k) ∧ W.cell? ⟨p, 1, none⟩ = some (.int .i64 x)) ∧ W.cell? ⟨w.heap.size, 2, none⟩ = some (.int .i64 c.par) ∧ W.cell? ⟨w.heap.size, 3, none⟩ = some (.int .i64 c.num)) (first | exact ⟨⟨c0, c1⟩, e2, e3⟩ | go_keep) (first
      | (go_at_call 38; ((with_reducible refine CG.out.mono ?_); rintro r w2 ⟨rfl, hg2⟩); clear c0 c1 e2 e3 e6; replace hgd := grown_trans hgd hg2; obtain ⟨⟨⟨c0, c1⟩, e2, e3⟩, e6⟩ := HB.out _ hgd; clear hg2))
    clear CG
    go_wp2_with fail
    clear c0 c1 e2 e3 e6
    refine wp_region_held (S := fun _ => True) (by kernel_rfl) ?_
    refine wpAnyH_take (i := 0) (v := .pointer (some ⟨p, 0, none⟩)) rfl (by kernel_rfl) (by kernel_rfl) (by kernel_rfl) (fun _ _ _ h => h) (Or.inl ⟨by kernel_rfl, fun V _ => by kernel_rfl⟩) trivial ?_
    simp only [Act.put, List.getElem_toArray, List.getElem_cons_succ, List.getElem_cons_zero, List.setIfInBounds_toArray, List.set_cons_zero, List.set_cons_succ]
    refine wpAnyH_take (i := 1) (v := .pointer (some ⟨p, 0, none⟩)) rfl (by kernel_rfl) (by kernel_rfl) (by kernel_rfl) (fun _ _ _ h => h) (Or.inl ⟨by kernel_rfl, fun V _ => by kernel_rfl⟩) trivial ?_
    simp only [Act.put, List.getElem_toArray, List.getElem_cons_succ, List.getElem_cons_zero, List.setIfInBounds_toArray, List.set_cons_zero, List.set_cons_succ]
    refine wpAnyH_take (i := 2) (v := .pointer (some ⟨p, 1, none⟩)) rfl (by kernel_rfl) (by kernel_rfl) (by kernel_rfl) (fun _ _ _ h => h) (Or.inl ⟨by kernel_rfl, fun V _ => by kernel_rfl⟩) trivial ?_
    simp only [Act.put, List.getElem_toArray, List.getElem_cons_succ, List.getElem_cons_zero, List.setIfInBounds_toArray, List.set_cons_zero, List.set_cons_succ]
    refine wpAnyH_take (i := 4) (v := .int .i64 dv) rfl (by kernel_rfl) (by kernel_rfl) (by kernel_rfl) (fun _ _ _ h => h) (Or.inl ⟨by kernel_rfl, fun V _ => by kernel_rfl⟩) trivial ?_
    simp only [Act.put, List.getElem_toArray, List.getElem_cons_succ, List.getElem_cons_zero, List.setIfInBounds_toArray, List.set_cons_zero, List.set_cons_succ]
    refine wpAnyH_take (i := 5) (v := .pointer (some ⟨w.heap.size, 4, none⟩)) rfl (by kernel_rfl) (by kernel_rfl) (by kernel_rfl) (fun _ _ _ h => h) (Or.inl ⟨by kernel_rfl, fun V _ => by kernel_rfl⟩) trivial ?_
    simp only [Act.put, List.getElem_toArray, List.getElem_cons_succ, List.getElem_cons_zero, List.setIfInBounds_toArray, List.set_cons_zero, List.set_cons_succ]
    refine wpAnyH_take (i := 6) (v := .pointer (some ⟨w.heap.size, 6, none⟩)) rfl (by kernel_rfl) (by kernel_rfl) (by kernel_rfl) (fun _ _ _ h => h) (Or.inl ⟨by kernel_rfl, fun V _ => by kernel_rfl⟩) trivial ?_
    simp only [Act.put, List.getElem_toArray, List.getElem_cons_succ, List.getElem_cons_zero, List.setIfInBounds_toArray, List.set_cons_zero, List.set_cons_succ]
    refine Grow.wpAnyH_from (w0 := w2.drew) [0, 1, 2, 4, 5, 6] [3, 7, 8, 9] #[true, true, true, true, true, true, true, true, true, true, false] [(some 21, 3), (some 25, 7), (some 26, 8), (some 6, 9)] 1 (TG (fun j lo => match j with | 3 => .int .i64 x | 7 => .int .u8 (kindN c.y) | 8 => .agg (headOf x dv (kindN c.y)).toArray | _ => .pointer (some ⟨lo, 0, none⟩)) (fun j => match j with | 9 => some (32, zeroNode.toArray) | _ => none)) (by kernel_rfl) (by kernel_rfl) (by kernel_rfl) (by decide) (by kernel_rfl) (by kernel_rfl) (by kernel_rfl) (fun _ _ => trivial) (TG.mono _ _) ?_ ?_
    · refine Grow.StepsD.cons [] [] rfl (by kernel_rfl) (by kernel_rfl) (fun vs lo up W hg hT K hK => ?_) ?_
      · obtain ⟨⟨⟨c0, c1⟩, e2, e3⟩, e6⟩ := HB.out _ (grown_trans hgd (grown_undrew hg))
        simp only [Grow.putL] at hK ⊢
        go_simp
        exact hK _ _ (World.grownBy.refl _ _) (TG.plain rfl rfl)
      refine Grow.StepsD.cons [] [] rfl (by kernel_rfl) (by kernel_rfl) (fun vs lo up W hg hT K hK => ?_) ?_
      · obtain ⟨⟨⟨c0, c1⟩, e2, e3⟩, e6⟩ := HB.out _ (grown_trans hgd (grown_undrew hg))
        simp only [Grow.putL] at hK ⊢
        go_simp
        exact hK _ _ (World.grownBy.refl _ _) (TG.plain rfl rfl)
      refine Grow.StepsD.cons [3, 7] [(some 21, 3), (some 25, 7)] rfl (by kernel_rfl) (by kernel_rfl) (fun vs lo up W hg hT K hK => ?_) ?_
      · have t3 : vs 3 = .int .i64 x := hT.1.1
        have t7 : vs 7 = .int .u8 (kindN c.y) := hT.2.1
        simp only [Grow.putL, t3, t7] at hK ⊢
        refine wp_value (v := .agg (headOf x dv (kindN c.y)).toArray) (w1 := W) (by kernel_rfl) ?_
        exact hK _ _ (World.grownBy.refl _ _) (TG.plain rfl rfl)
      refine Grow.StepsD.cons [] [] rfl (by kernel_rfl) (by kernel_rfl) (fun vs lo up W hg hT K hK => ?_) Grow.StepsD.nil
      · simp only [Grow.putL] at hK ⊢
        refine wp_value (exec_alloc_row bigN rfl W) ?_
        exact hK _ _ (World.grownBy_alloc _ _ _) ⟨rfl, fun T cs e => by cases e; exact ⟨Row.new _ _ _, World.size_alloc _ _⟩⟩
    intro vs lo up V hgV hT hbb hap
    have hgW := grown_undrew hgV
    obtain ⟨t3, t7, t8, t9⟩ := hT
    have q3 : vs 3 = .int .i64 x := t3.1
    have q7 : vs 7 = .int .u8 (kindN c.y) := t7.1
    have q8 : vs 8 = .agg (headOf x dv (kindN c.y)).toArray := t8.1
    have q9 : vs 9 = .pointer (some ⟨lo 9, 0, none⟩) := t9.1
    have hrow6 := (t9.2 _ _ rfl).1
    have hlo9 := (hbb 9 (by simp)).1
    simp only [Grow.putL, q3, q7, q8, q9, Act.put, List.getElem_toArray, List.getElem_cons_succ, List.getElem_cons_zero, List.setIfInBounds_toArray, List.set_cons_zero, List.set_cons_succ]
    clear hbb hap q3 q7 q8 q9 t3 t7 t8 t9 hgV
    generalize lo 9 = g6 at *
    have hho : OkAll nodeLs (headOf x dv (kindN c.y)) := head_ok (by omega) (by omega) hkb
    refine wpAnyH_store_row bigN 10 (.tmp 6) (.tmp 26) g6 zeroNode.toArray (headOf x dv (kindN c.y)).toArray (by kernel_rfl) (by kernel_rfl) (by kernel_rfl) (by kernel_rfl) hrow6 rfl (by simpa using head_len x dv _) (by simpa using okAll_one hho) trivial ?_
    refine wpAnyH_done (by kernel_rfl) ?_ _
    have hrow7 := hrow6.store (headOf x dv (kindN c.y)).toArray
    have hsz2 : W0.heap.size ≤ w2.heap.size := hgd.size
    have hg6 : W0.heap.size ≤ g6 := by
      have : w2.drew.heap.size ≤ g6 := hlo9
      have h2 : w2.drew.heap.size = w2.heap.size := rfl
      omega
    have hg3 := grown_new (grown_trans hgd hgW) (grownBy_setRow V g6 (headOf x dv (kindN c.y)).toArray) (fun g e => by cases e; exact hg6)
    clear hrow6 hlo9 hgW hgd hsz2
    generalize V.setRow g6 (headOf x dv (kindN c.y)).toArray = w3 at *
    have z2 := hrow7.at 2
    have z2' : w3.cell? ⟨g6, 2, none⟩ = some (.int .u8 (kindN c.y)) := z2
    clear z2
    have hrow7' := Lib.hid hrow7
    clear hrow7 hho
    rcases (by omega : kindN c.y = 0 ∨ kindN c.y = 1 ∨ (kindN c.y ≠ 0 ∧ kindN c.y ≠ 1)) with hk | hk | hk
    · have hk' := Lib.hid hk
      rw [hk] at z2'
      rw [hk] at hrow7'
      clear hk hkb
      have R1 := HR.out _ hg3
      go_wp2_with (refine wpList_value rfl (exec_load (T := 30) (x := .tmp 33) (a := ⟨w.heap.size, 7, none⟩) rfl (by kernel_rfl) (chg_style R1 hc'.out)) ?_; simp only [Act.put, List.setIfInBounds_toArray, List.set_cons_zero, List.set_cons_succ])
      refine (stymay_node hc'.out.y w3).mono ?_; rintro r w3b ⟨rfl, hgs⟩
      have hrow8 := hrow7'.out.kept0 hgs
      replace hg3 := grown_trans hg3 hgs
      clear hgs R1 z2' hrow7'
      cases hs : styB c.y with
      | false =>
        have hs' := Lib.hid hs
        clear hs
        go_wp2_with fail
        refine (must_no 60 w3b).mono ?_; rintro r w4 ⟨rfl, rfl⟩
        go_wp2_with fail
        refine ⟨rfl, ?_⟩
        rw [hspec.out, if_pos hk'.out, if_neg (by rw [hs'.out]; simp)]
        exact (OpPost.err rfl (HD.out _ hg3) (Mut.ofGrown hg3 (.inl rfl))).widen hg0'.out
      | true =>
        have hs' := Lib.hid hs
        clear hs
        go_wp2_with fail
        refine (must_yes 60 w3b).mono ?_; rintro r w4 ⟨rfl, rfl⟩
        have R1 := HR.out _ hg3
        have hrow9 : Row (w4.setCells g6 3 (styN c.y)) g6 32 (boxOf x dv c.y).toArray := by
          have h1 := hrow8.setCells (styN c.y) 3
          rw [layL_sty _ _ (head_len _ _ _) (styN_len hc'.out.y), head_box] at h1
          exact h1
        have hg4 := grown_new hg3 (grownBy_setCells (styN c.y) 3 w4) (fun g e => by cases e; exact hg6)
        have hrow9' := Lib.hid hrow9
        have hg4' := Lib.hid hg4
        clear hrow9 hg4
        go_wp2_with (first
          | (refine wpList_value rfl (exec_load (T := 30) (x := .tmp 38) (a := ⟨w.heap.size, 7, none⟩) rfl (by kernel_rfl) (chg_style R1 hc'.out)) ?_; simp only [Act.put, List.setIfInBounds_toArray, List.set_cons_zero, List.set_cons_succ])
          | (refine wpList_skip (by rfl) (exec_store_many (T := 30) (x := .tmp 40) (y := .tmp 39) (g := g6) (off := 3) (ds := styN c.y) (by rfl) (by kernel_rfl) (by kernel_rfl) (by rw [styN_len hc'.out.y]; exact infoSty) (sty_one hc'.out.y)
              (fun j hj => by
                rw [styN_len hc'.out.y] at hj
                rw [hrow8.at, List.getElem?_toArray, List.getElem?_eq_getElem (by rw [head_len]; omega)]
                rfl)
              (fun j hj => hrow8.free _)) ?_; simp only [Act.put, List.setIfInBounds_toArray, List.set_cons_zero, List.set_cons_succ]))
        have hrow := hrow9'.out
        have hgr := hg4'.out
        clear hrow8 hrow9' hg4' R1 hg3
        generalize w4.setCells g6 3 (styN c.y) = w5 at *
        have hZo := Lib.hid (box_ok (x := x) (deep := dv) (by omega) (by omega) hc'.out.y)
        have hfinP := Lib.hid (show insertL L x c.par c.num c.y = .ok (putAt L g [boxOf x dv c.y], x + 1) by rw [hspec.out, if_pos hk'.out, if_pos hs'.out])
        clear hspec hk' hs'
        generalize boxOf x dv c.y = Z at *
        refine wp_region_held (S := fun _ => True) (by kernel_rfl) ?_
        refine wpAnyH_take (i := 0) (v := .pointer (some ⟨p, 0, none⟩)) rfl (by kernel_rfl) (by kernel_rfl) (by kernel_rfl) (fun _ _ _ h => h) (Or.inl ⟨by kernel_rfl, fun V _ => by kernel_rfl⟩) trivial ?_
        simp only [Act.put, List.getElem_toArray, List.getElem_cons_succ, List.getElem_cons_zero, List.setIfInBounds_toArray, List.set_cons_zero, List.set_cons_succ]
        refine wpAnyH_take (i := 1) (v := .pointer (some ⟨p, 0, none⟩)) rfl (by kernel_rfl) (by kernel_rfl) (by kernel_rfl) (fun _ _ _ h => h) (Or.inl ⟨by kernel_rfl, fun V _ => by kernel_rfl⟩) trivial ?_
        simp only [Act.put, List.getElem_toArray, List.getElem_cons_succ, List.getElem_cons_zero, List.setIfInBounds_toArray, List.set_cons_zero, List.set_cons_succ]
        refine wpAnyH_take (i := 2) (v := .pointer (some ⟨p, 0, none⟩)) rfl (by kernel_rfl) (by kernel_rfl) (by kernel_rfl) (fun _ _ _ h => h) (Or.inl ⟨by kernel_rfl, fun V _ => by kernel_rfl⟩) trivial ?_
        simp only [Act.put, List.getElem_toArray, List.getElem_cons_succ, List.getElem_cons_zero, List.setIfInBounds_toArray, List.set_cons_zero, List.set_cons_succ]
        refine wpAnyH_take (i := 3) (v := .pointer (some ⟨p, 0, none⟩)) rfl (by kernel_rfl) (by kernel_rfl) (by kernel_rfl) (fun _ _ _ h => h) (Or.inl ⟨by kernel_rfl, fun V _ => by kernel_rfl⟩) trivial ?_
        simp only [Act.put, List.getElem_toArray, List.getElem_cons_succ, List.getElem_cons_zero, List.setIfInBounds_toArray, List.set_cons_zero, List.set_cons_succ]
        refine wpAnyH_take (i := 5) (v := .int .i64 (g : Int)) rfl (by kernel_rfl) (by kernel_rfl) (by kernel_rfl) (fun _ _ _ h => h) (Or.inl ⟨by kernel_rfl, fun V _ => by kernel_rfl⟩) trivial ?_
        simp only [Act.put, List.getElem_toArray, List.getElem_cons_succ, List.getElem_cons_zero, List.setIfInBounds_toArray, List.set_cons_zero, List.set_cons_succ]
        refine Grow.wpAnyH_from (w0 := w5.drew) [0, 1, 2, 3, 5] [4, 6, 7] #[true, true, true, true, true, true, true, true, false, false, false, false] [(some 51, 4), (some 53, 6), (some 54, 7)] 4 (TG (fun j lo => match j with | 4 => .slice A n k | 6 => .agg Z.toArray | _ => .slice (some ⟨lo, 0, none⟩) 1 1) (fun j => match j with | 7 => some (32, Z.toArray) | _ => none)) (by kernel_rfl) (by kernel_rfl) (by kernel_rfl) (by decide) (by kernel_rfl) (by kernel_rfl) (by kernel_rfl) (fun _ _ => trivial) (TG.mono _ _) ?_ ?_
        · refine Grow.StepsD.cons [] [] rfl (by kernel_rfl) (by kernel_rfl) (fun vs lo up W hg hT K hK => ?_) ?_
          · obtain ⟨⟨⟨c0, c1⟩, e2, e3⟩, e6⟩ := HB.out _ (grown_trans hgr (grown_undrew hg))
            simp only [Grow.putL] at hK ⊢
            go_simp
            exact hK _ _ (World.grownBy.refl _ _) (TG.plain rfl rfl)
          refine Grow.StepsD.cons [] [] rfl (by kernel_rfl) (by kernel_rfl) (fun vs lo up W hg hT K hK => ?_) ?_
          · have hrW := hrow.kept0 (grown_undrew hg)
            simp only [Grow.putL] at hK ⊢
            refine wp_value (exec_load_row bigN (x := .tmp 6) rfl (by kernel_rfl) W hrW (by rw [List.size_toArray]; exact hZo.out.len)) ?_
            exact hK _ _ (World.grownBy.refl _ _) (TG.plain rfl rfl)
          refine Grow.StepsD.cons [6] [(some 53, 6)] rfl (by kernel_rfl) (by kernel_rfl) (fun vs lo up W hg hT K hK => ?_) Grow.StepsD.nil
          · have t6 : vs 6 = .agg Z.toArray := hT.1
            simp only [Grow.putL, t6] at hK ⊢
            refine wp_value (exec_buildSlice (parts := #[(0, .agg Z.toArray)]) rfl (by kernel_rfl) (run_one W Z hZo.out.len)) ?_
            exact hK _ _ (World.grownBy_alloc _ _ _) ⟨rfl, fun T cs e => by cases e; exact ⟨Row.new _ _ _, World.size_alloc _ _⟩⟩
        intro vs lo up V hgV hT hbb hap
        have hgW := grown_undrew hgV
        obtain ⟨t4, t6, t7⟩ := hT
        have q4 : vs 4 = .slice A n k := t4.1
        have q6 : vs 6 = .agg Z.toArray := t6.1
        have q7 : vs 7 = .slice (some ⟨lo 7, 0, none⟩) 1 1 := t7.1
        have hrow7 := (t7.2 _ _ rfl).1
        have hlo7 := (hbb 7 (by simp)).1
        simp only [Grow.putL, q4, q6, q7, Act.put, List.getElem_toArray, List.getElem_cons_succ, List.getElem_cons_zero, List.setIfInBounds_toArray, List.set_cons_zero, List.set_cons_succ]
        clear hbb hap q4 q6 q7 t4 t6 t7 hgV
        generalize lo 7 = g7 at *
        have hg7 : W0.heap.size ≤ g7 := by
          have h1 : w5.drew.heap.size ≤ g7 := hlo7
          have h2 : w5.drew.heap.size = w5.heap.size := rfl
          have h3 := hgr.size
          omega
        have hgV := grown_trans hgr hgW
        obtain ⟨_, nrow⟩ := hfar.out g7 hg7
        have DV := HD.out _ hgV
        have hownZ : Own V W0.heap.size 32 51 (some ⟨g7, 0, none⟩) 1 1 [Z].flatten := by
          have hl51 := hZo.out.len
          rw [nodeLs_len] at hl51
          refine ⟨by simp [hl51], Nat.le_refl _, by unfold maxLen; omega, .inr ⟨g7, Z.toArray, rfl, hg7, hrow7, by simp [hl51], ?_⟩⟩
          simp only [List.flatten_cons, List.flatten_nil, List.append_nil]
          rw [List.take_of_length_le (by omega)]
        have hokZ : ∀ y ∈ [Z], OkAll nodeLs y := fun y hy => by
          rw [List.mem_singleton.1 hy]
          exact hZo.out
        have CI := Lib.hid (ins_nodes V B n k g 1 1 W0.heap.size A (some ⟨g7, 0, none⟩) L [Z] (by have := hB0.out; have := hgV.size; omega) DV.ok hokZ DV.own hownZ (fun e => nrow (by rw [← e]; rfl)) hgn (by omega) (by omega))
        have DV' := Lib.hid DV
        have hgV' := Lib.hid hgV
        clear DV hownZ hrow7 hlo7 hrow hgW hgr
        refine wpAnyH_ready (rs := [8]) (by kernel_rfl) (by simp) ?_
        refine AllReadyH.cons rfl (fun K hK => ?_) AllReadyH.nil
        go_simp
        refine CI.out.mono ?_; rintro r w6 ⟨A6, c6, rfl, hown6, hg6'⟩
        refine hK.out _ _ trivial (fun _ => ?_)
        clear hK K
        simp only [Act.put, List.getElem_toArray, List.getElem_cons_succ, List.getElem_cons_zero, List.setIfInBounds_toArray, List.set_cons_zero, List.set_cons_succ]
        refine wpAnyH_take (i := 9) (v := .pointer (some ⟨p, 0, none⟩)) rfl (by kernel_rfl) (by kernel_rfl) (by kernel_rfl) (fun _ _ _ h => h) (Or.inl ⟨by kernel_rfl, fun V _ => by kernel_rfl⟩) trivial ?_
        simp only [Act.put, List.getElem_toArray, List.getElem_cons_succ, List.getElem_cons_zero, List.setIfInBounds_toArray, List.set_cons_zero, List.set_cons_succ]
        refine wpAnyH_take (i := 10) (v := .pointer (some ⟨p, 0, none⟩)) rfl (by kernel_rfl) (by kernel_rfl) (by kernel_rfl) (fun _ _ _ h => h) (Or.inl ⟨by kernel_rfl, fun V _ => by kernel_rfl⟩) trivial ?_
        simp only [Act.put, List.getElem_toArray, List.getElem_cons_succ, List.getElem_cons_zero, List.setIfInBounds_toArray, List.set_cons_zero, List.set_cons_succ]
        have hokp : ∀ y ∈ L.take g ++ [Z] ++ L.drop g, OkAll nodeLs y := fun y hy => by
          rcases List.mem_append.1 hy with hy | hy
          · rcases List.mem_append.1 hy with hy | hy
            · exact DV'.out.ok y (List.mem_of_mem_take hy)
            · exact hokZ y hy
          · exact DV'.out.ok y (List.mem_of_mem_drop hy)
        have hp6 := DV'.out.put hg6' hown6 hokp (by omega)
        have hb5 := DV'.out.two.kept hg6' (Ne.symm DV'.out.row_ne)
        have f0 := hb5.f 0
        have c0'' := hb5.c0
        have hp6' := Lib.hid hp6
        clear hp6 hb5 hown6 hg6' hokp CI
        refine wpAnyH_ready (rs := [11]) (by kernel_rfl) (by simp) ?_
        refine AllReadyH.cons rfl (fun K hK => ?_) AllReadyH.nil
        go_simp
        refine hK.out _ _ trivial (fun _ => ?_)
        clear hK K
        refine wpAnyH_done (by kernel_rfl) ?_ _
        clear f0 c0''
        obtain ⟨DX, MX⟩ := hp6'.out
        generalize w6.setCell ⟨p, 0, none⟩ (.slice A6 (n + 1) c6) = w7 at *
        have d1 := DX.two.c1
        have f1 := DX.two.f 1
        have hwx : IntKind.i64.wrap (x + 1) = x + 1 := by rw [IntKind.wrap_i64]; omega
        have hfin : OpPost w B p (rowOf A k) (insertL L x c.par c.num c.y) (.returned (.tuple #[])) (w7.setCell ⟨p, 1, none⟩ (.int .i64 (x + 1))) := by
          rw [hfinP.out]
          refine (OpPost.fine rfl ⟨DX.two.s1 _, DX.own.kept_ (grownBy_setCell _ _ _ _) DX.two (by decide), DX.ok, DX.few⟩ (((Mut.ofGrown hgV'.out (.inl rfl)).trans MX (.inl rfl)).trans (Mut.ofGrown (grownBy_setCell _ _ _ _) (.inr (.inl rfl))) (.inl rfl))).widen hg0'.out
        have hfin' := Lib.hid hfin
        clear hfin DX MX hp6'
        go_wp2_with fail
        go_end0
        exact hfin'.out
    · have hk' := Lib.hid hk
      rw [hk] at z2'
      rw [hk] at hrow7'
      clear hk hkb
      obtain ⟨s, hs1, hs2, hs3⟩ := okAll_text hc'.out.y
      have R1 := (HR.out _ hg3).at 54
      rw [show 54 = 4 + 50 by rfl, Chg.cy, hs1] at R1
      have z4 := hrow7'.out.at 50
      have z4' : w3.cell? ⟨g6, 50, none⟩ = some (.string ByteArray.empty) := z4
      have z5 := hrow7'.out.free 50
      have hrow9 : Row (w3.setCell ⟨g6, 50, none⟩ (.string s)) g6 32 (textOf x dv c.y).toArray := by
        have h1 := hrow7'.out.set 50 (.string s)
        rw [List.setIfInBounds_toArray] at h1
        rw [← head_text, hs1]
        exact h1
      have hg4 := grown_put hg3 hg6 50 (.string s)
      have hrow9' := Lib.hid hrow9
      have hg4' := Lib.hid hg4
      clear hrow9 hg4 z4 hs1 hs2 hs3
      go_wp2_with fail
      have hrow := hrow9'.out
      have hgr := hg4'.out
      clear hrow7' hrow9' hg4' R1 hg3 z2' z4' z5
      generalize w3.setCell ⟨g6, 50, none⟩ (.string s) = w5 at *
      have hZo := Lib.hid (text_ok (x := x) (deep := dv) (by omega) (by omega) hc'.out.y)
      have hfinP := Lib.hid (show insertL L x c.par c.num c.y = .ok (putAt L g [textOf x dv c.y], x + 1) by rw [hspec.out, if_neg (by rw [hk'.out]; decide), if_pos hk'.out])
      clear hspec hk'
      generalize textOf x dv c.y = Z at *
      refine wp_region_held (S := fun _ => True) (by kernel_rfl) ?_
      refine wpAnyH_take (i := 0) (v := .pointer (some ⟨p, 0, none⟩)) rfl (by kernel_rfl) (by kernel_rfl) (by kernel_rfl) (fun _ _ _ h => h) (Or.inl ⟨by kernel_rfl, fun V _ => by kernel_rfl⟩) trivial ?_
      simp only [Act.put, List.getElem_toArray, List.getElem_cons_succ, List.getElem_cons_zero, List.setIfInBounds_toArray, List.set_cons_zero, List.set_cons_succ]
      refine wpAnyH_take (i := 1) (v := .pointer (some ⟨p, 0, none⟩)) rfl (by kernel_rfl) (by kernel_rfl) (by kernel_rfl) (fun _ _ _ h => h) (Or.inl ⟨by kernel_rfl, fun V _ => by kernel_rfl⟩) trivial ?_
      simp only [Act.put, List.getElem_toArray, List.getElem_cons_succ, List.getElem_cons_zero, List.setIfInBounds_toArray, List.set_cons_zero, List.set_cons_succ]
      refine wpAnyH_take (i := 2) (v := .pointer (some ⟨p, 0, none⟩)) rfl (by kernel_rfl) (by kernel_rfl) (by kernel_rfl) (fun _ _ _ h => h) (Or.inl ⟨by kernel_rfl, fun V _ => by kernel_rfl⟩) trivial ?_
      simp only [Act.put, List.getElem_toArray, List.getElem_cons_succ, List.getElem_cons_zero, List.setIfInBounds_toArray, List.set_cons_zero, List.set_cons_succ]
      refine wpAnyH_take (i := 3) (v := .pointer (some ⟨p, 0, none⟩)) rfl (by kernel_rfl) (by kernel_rfl) (by kernel_rfl) (fun _ _ _ h => h) (Or.inl ⟨by kernel_rfl, fun V _ => by kernel_rfl⟩) trivial ?_
      simp only [Act.put, List.getElem_toArray, List.getElem_cons_succ, List.getElem_cons_zero, List.setIfInBounds_toArray, List.set_cons_zero, List.set_cons_succ]
      refine wpAnyH_take (i := 5) (v := .int .i64 (g : Int)) rfl (by kernel_rfl) (by kernel_rfl) (by kernel_rfl) (fun _ _ _ h => h) (Or.inl ⟨by kernel_rfl, fun V _ => by kernel_rfl⟩) trivial ?_
      simp only [Act.put, List.getElem_toArray, List.getElem_cons_succ, List.getElem_cons_zero, List.setIfInBounds_toArray, List.set_cons_zero, List.set_cons_succ]
      refine Grow.wpAnyH_from (w0 := w5.drew) [0, 1, 2, 3, 5] [4, 6, 7] #[true, true, true, true, true, true, true, true, false, false, false, false] [(some 51, 4), (some 53, 6), (some 54, 7)] 4 (TG (fun j lo => match j with | 4 => .slice A n k | 6 => .agg Z.toArray | _ => .slice (some ⟨lo, 0, none⟩) 1 1) (fun j => match j with | 7 => some (32, Z.toArray) | _ => none)) (by kernel_rfl) (by kernel_rfl) (by kernel_rfl) (by decide) (by kernel_rfl) (by kernel_rfl) (by kernel_rfl) (fun _ _ => trivial) (TG.mono _ _) ?_ ?_
      · refine Grow.StepsD.cons [] [] rfl (by kernel_rfl) (by kernel_rfl) (fun vs lo up W hg hT K hK => ?_) ?_
        · obtain ⟨⟨⟨c0, c1⟩, e2, e3⟩, e6⟩ := HB.out _ (grown_trans hgr (grown_undrew hg))
          simp only [Grow.putL] at hK ⊢
          go_simp
          exact hK _ _ (World.grownBy.refl _ _) (TG.plain rfl rfl)
        refine Grow.StepsD.cons [] [] rfl (by kernel_rfl) (by kernel_rfl) (fun vs lo up W hg hT K hK => ?_) ?_
        · have hrW := hrow.kept0 (grown_undrew hg)
          simp only [Grow.putL] at hK ⊢
          refine wp_value (exec_load_row bigN (x := .tmp 6) rfl (by kernel_rfl) W hrW (by rw [List.size_toArray]; exact hZo.out.len)) ?_
          exact hK _ _ (World.grownBy.refl _ _) (TG.plain rfl rfl)
        refine Grow.StepsD.cons [6] [(some 53, 6)] rfl (by kernel_rfl) (by kernel_rfl) (fun vs lo up W hg hT K hK => ?_) Grow.StepsD.nil
        · have t6 : vs 6 = .agg Z.toArray := hT.1
          simp only [Grow.putL, t6] at hK ⊢
          refine wp_value (exec_buildSlice (parts := #[(0, .agg Z.toArray)]) rfl (by kernel_rfl) (run_one W Z hZo.out.len)) ?_
          exact hK _ _ (World.grownBy_alloc _ _ _) ⟨rfl, fun T cs e => by cases e; exact ⟨Row.new _ _ _, World.size_alloc _ _⟩⟩
      intro vs lo up V hgV hT hbb hap
      have hgW := grown_undrew hgV
      obtain ⟨t4, t6, t7⟩ := hT
      have q4 : vs 4 = .slice A n k := t4.1
      have q6 : vs 6 = .agg Z.toArray := t6.1
      have q7 : vs 7 = .slice (some ⟨lo 7, 0, none⟩) 1 1 := t7.1
      have hrow7 := (t7.2 _ _ rfl).1
      have hlo7 := (hbb 7 (by simp)).1
      simp only [Grow.putL, q4, q6, q7, Act.put, List.getElem_toArray, List.getElem_cons_succ, List.getElem_cons_zero, List.setIfInBounds_toArray, List.set_cons_zero, List.set_cons_succ]
      clear hbb hap q4 q6 q7 t4 t6 t7 hgV
      generalize lo 7 = g7 at *
      have hg7 : W0.heap.size ≤ g7 := by
        have h1 : w5.drew.heap.size ≤ g7 := hlo7
        have h2 : w5.drew.heap.size = w5.heap.size := rfl
        have h3 := hgr.size
        omega
      have hgV := grown_trans hgr hgW
      obtain ⟨_, nrow⟩ := hfar.out g7 hg7
      have DV := HD.out _ hgV
      have hownZ : Own V W0.heap.size 32 51 (some ⟨g7, 0, none⟩) 1 1 [Z].flatten := by
        have hl51 := hZo.out.len
        rw [nodeLs_len] at hl51
        refine ⟨by simp [hl51], Nat.le_refl _, by unfold maxLen; omega, .inr ⟨g7, Z.toArray, rfl, hg7, hrow7, by simp [hl51], ?_⟩⟩
        simp only [List.flatten_cons, List.flatten_nil, List.append_nil]
        rw [List.take_of_length_le (by omega)]
      have hokZ : ∀ y ∈ [Z], OkAll nodeLs y := fun y hy => by
        rw [List.mem_singleton.1 hy]
        exact hZo.out
      have CI := Lib.hid (ins_nodes V B n k g 1 1 W0.heap.size A (some ⟨g7, 0, none⟩) L [Z] (by have := hB0.out; have := hgV.size; omega) DV.ok hokZ DV.own hownZ (fun e => nrow (by rw [← e]; rfl)) hgn (by omega) (by omega))
      have DV' := Lib.hid DV
      have hgV' := Lib.hid hgV
      clear DV hownZ hrow7 hlo7 hrow hgW hgr
      refine wpAnyH_ready (rs := [8]) (by kernel_rfl) (by simp) ?_
      refine AllReadyH.cons rfl (fun K hK => ?_) AllReadyH.nil
      go_simp
      refine CI.out.mono ?_; rintro r w6 ⟨A6, c6, rfl, hown6, hg6'⟩
      refine hK.out _ _ trivial (fun _ => ?_)
      clear hK K
      simp only [Act.put, List.getElem_toArray, List.getElem_cons_succ, List.getElem_cons_zero, List.setIfInBounds_toArray, List.set_cons_zero, List.set_cons_succ]
      refine wpAnyH_take (i := 9) (v := .pointer (some ⟨p, 0, none⟩)) rfl (by kernel_rfl) (by kernel_rfl) (by kernel_rfl) (fun _ _ _ h => h) (Or.inl ⟨by kernel_rfl, fun V _ => by kernel_rfl⟩) trivial ?_
      simp only [Act.put, List.getElem_toArray, List.getElem_cons_succ, List.getElem_cons_zero, List.setIfInBounds_toArray, List.set_cons_zero, List.set_cons_succ]
      refine wpAnyH_take (i := 10) (v := .pointer (some ⟨p, 0, none⟩)) rfl (by kernel_rfl) (by kernel_rfl) (by kernel_rfl) (fun _ _ _ h => h) (Or.inl ⟨by kernel_rfl, fun V _ => by kernel_rfl⟩) trivial ?_
      simp only [Act.put, List.getElem_toArray, List.getElem_cons_succ, List.getElem_cons_zero, List.setIfInBounds_toArray, List.set_cons_zero, List.set_cons_succ]
      have hokp : ∀ y ∈ L.take g ++ [Z] ++ L.drop g, OkAll nodeLs y := fun y hy => by
        rcases List.mem_append.1 hy with hy | hy
        · rcases List.mem_append.1 hy with hy | hy
          · exact DV'.out.ok y (List.mem_of_mem_take hy)
          · exact hokZ y hy
        · exact DV'.out.ok y (List.mem_of_mem_drop hy)
      have hp6 := DV'.out.put hg6' hown6 hokp (by omega)
      have hb5 := DV'.out.two.kept hg6' (Ne.symm DV'.out.row_ne)
      have f0 := hb5.f 0
      have c0'' := hb5.c0
      have hp6' := Lib.hid hp6
      clear hp6 hb5 hown6 hg6' hokp CI
      refine wpAnyH_ready (rs := [11]) (by kernel_rfl) (by simp) ?_
      refine AllReadyH.cons rfl (fun K hK => ?_) AllReadyH.nil
      go_simp
      refine hK.out _ _ trivial (fun _ => ?_)
      clear hK K
      refine wpAnyH_done (by kernel_rfl) ?_ _
      clear f0 c0''
      obtain ⟨DX, MX⟩ := hp6'.out
      generalize w6.setCell ⟨p, 0, none⟩ (.slice A6 (n + 1) c6) = w7 at *
      have d1 := DX.two.c1
      have f1 := DX.two.f 1
      have hwx : IntKind.i64.wrap (x + 1) = x + 1 := by rw [IntKind.wrap_i64]; omega
      have hfin : OpPost w B p (rowOf A k) (insertL L x c.par c.num c.y) (.returned (.tuple #[])) (w7.setCell ⟨p, 1, none⟩ (.int .i64 (x + 1))) := by
        rw [hfinP.out]
        refine (OpPost.fine rfl ⟨DX.two.s1 _, DX.own.kept_ (grownBy_setCell _ _ _ _) DX.two (by decide), DX.ok, DX.few⟩ (((Mut.ofGrown hgV'.out (.inl rfl)).trans MX (.inl rfl)).trans (Mut.ofGrown (grownBy_setCell _ _ _ _) (.inr (.inl rfl))) (.inl rfl))).widen hg0'.out
      have hfin' := Lib.hid hfin
      clear hfin DX MX hp6'
      go_wp2_with fail
      go_end0
      exact hfin'.out
    · have b1 : (kindN c.y == 0) = false := by simpa using hk.1
      have b2 : (kindN c.y == 1) = false := by simpa using hk.2
      have hk' := Lib.hid hk
      clear hk hkb
      go_wp2_with fail
      refine (must_no 70 w3).mono ?_; rintro r w4 ⟨rfl, rfl⟩
      go_wp2_with fail
      refine ⟨rfl, ?_⟩
      rw [hspec.out, if_neg hk'.out.1, if_neg hk'.out.2]
      exact (OpPost.err rfl (HD.out _ hg3) (Mut.ofGrown hg3 (.inl rfl))).widen hg0'.out
  · have CG := Lib.hid (gap_no (c := k) (x := x) (HD.out _ hgd).nodes hdp hy)
    have hgE := Lib.hid (gapE_no hy)
    have hfin : ∀ w2, W0.grownBy w2 none → OpPost w B p (rowOf A k) (insertL L x c.par c.num c.y) (.panicked [{ v := wrongV 70, recovered := false }]) w2 := fun w2 hg => by
      unfold insertL
      rw [hgE.out]
      exact (OpPost.err rfl (HD.out _ hg) (Mut.ofGrown hg (.inl rfl))).widen hg0'.out
    have hfin' := Lib.hid hfin
    clear hfin hy hdp
    refine wp_region_held (S := (fun W => (W.cell? ⟨p, 0, none⟩ = some (.slice A n k) ∧ W.cell? ⟨p, 1, none⟩ = some (.int .i64 x)) ∧ W.cell? ⟨w.heap.size, 2, none⟩ = some (.int .i64 c.par) ∧ W.cell? ⟨w.heap.size, 3, none⟩ = some (.int .i64 c.num))) (by kernel_rfl) ?_
    refine wpAnyH_take (i := 0) (v := .pointer (some ⟨p, 0, none⟩)) rfl (by kernel_rfl) (by kernel_rfl) (by kernel_rfl) (fun _ _ _ h => h) (Or.inl ⟨by kernel_rfl, fun V _ => by kernel_rfl⟩) ⟨⟨c0, c1⟩, e2, e3⟩ ?_
    simp only [Act.put, List.getElem_toArray, List.getElem_cons_succ, List.getElem_cons_zero, List.setIfInBounds_toArray, List.set_cons_zero, List.set_cons_succ]
    refine wpAnyH_take (i := 1) (v := .pointer (some ⟨p, 0, none⟩)) rfl (by kernel_rfl) (by kernel_rfl) (by kernel_rfl) (fun _ _ _ h => h) (Or.inl ⟨by kernel_rfl, fun V _ => by kernel_rfl⟩) ⟨⟨c0, c1⟩, e2, e3⟩ ?_
    simp only [Act.put, List.getElem_toArray, List.getElem_cons_succ, List.getElem_cons_zero, List.setIfInBounds_toArray, List.set_cons_zero, List.set_cons_succ]
    refine wpAnyH_take (i := 2) (v := .agg #[.slice A n k, .int .i64 x]) rfl (by kernel_rfl) (by kernel_rfl) (by kernel_rfl) (fun _ _ _ h => h) (Or.inl ⟨by kernel_rfl, fun V hV => by obtain ⟨⟨a0, a1⟩, a2, a3⟩ := hV; go_simp⟩) ⟨⟨c0, c1⟩, e2, e3⟩ ?_
    simp only [Act.put, List.getElem_toArray, List.getElem_cons_succ, List.getElem_cons_zero, List.setIfInBounds_toArray, List.set_cons_zero, List.set_cons_succ]
    refine wpAnyH_take (i := 3) (v := .pointer (some ⟨w.heap.size, 2, none⟩)) rfl (by kernel_rfl) (by kernel_rfl) (by kernel_rfl) (fun _ _ _ h => h) (Or.inl ⟨by kernel_rfl, fun V _ => by kernel_rfl⟩) ⟨⟨c0, c1⟩, e2, e3⟩ ?_
    simp only [Act.put, List.getElem_toArray, List.getElem_cons_succ, List.getElem_cons_zero, List.setIfInBounds_toArray, List.set_cons_zero, List.set_cons_succ]
    refine wpAnyH_take (i := 4) (v := .int .i64 c.par) rfl (by kernel_rfl) (by kernel_rfl) (by kernel_rfl) (fun _ _ _ h => h) (Or.inl ⟨by kernel_rfl, fun V hV => by obtain ⟨⟨a0, a1⟩, a2, a3⟩ := hV; go_simp⟩) ⟨⟨c0, c1⟩, e2, e3⟩ ?_
    simp only [Act.put, List.getElem_toArray, List.getElem_cons_succ, List.getElem_cons_zero, List.setIfInBounds_toArray, List.set_cons_zero, List.set_cons_succ]
    refine wpAnyH_take (i := 5) (v := .pointer (some ⟨w.heap.size, 3, none⟩)) rfl (by kernel_rfl) (by kernel_rfl) (by kernel_rfl) (fun _ _ _ h => h) (Or.inl ⟨by kernel_rfl, fun V _ => by kernel_rfl⟩) ⟨⟨c0, c1⟩, e2, e3⟩ ?_
    simp only [Act.put, List.getElem_toArray, List.getElem_cons_succ, List.getElem_cons_zero, List.setIfInBounds_toArray, List.set_cons_zero, List.set_cons_succ]
    refine wpAnyH_take (i := 6) (v := .int .i64 c.num) rfl (by kernel_rfl) (by kernel_rfl) (by kernel_rfl) (fun _ _ _ h => h) (Or.inl ⟨by kernel_rfl, fun V hV => by obtain ⟨⟨a0, a1⟩, a2, a3⟩ := hV; go_simp⟩) ⟨⟨c0, c1⟩, e2, e3⟩ ?_
    simp only [Act.put, List.getElem_toArray, List.getElem_cons_succ, List.getElem_cons_zero, List.setIfInBounds_toArray, List.set_cons_zero, List.set_cons_succ]
    refine wpAnyH_ready (rs := [7]) (by kernel_rfl) (by simp) ?_
    refine AllReadyH.cons rfl (fun K hK => ?_) AllReadyH.nil
    go_simp
    refine CG.out.mono ?_; rintro r w2 ⟨rfl, hg2⟩
    exact ⟨rfl, hfin'.out _ (grown_trans hgd hg2)⟩
end Go.Proofs.Ytjnbfgogmhfbiaa
/- The mutations: whether a document may be. -/
namespace Go.Proofs.Ytjnbfgogmhfbiaa
open Go Go.RowKit
def flexCells (F : Nat → Int) : Array Value := ((List.range 17).map fun j => (.int .i64 (F j) : Value)).toArray
theorem flexCells_size (F : Nat → Int) : (flexCells F).size = 17 := by simp [flexCells]
theorem flexCells_get (F : Nat → Int) {j : Nat} (hj : j < 17) : (flexCells F)[j]? = some (.int .i64 (F j)) := by
  simp [flexCells, hj]
theorem flexCells_set (F : Nat → Int) {j : Nat} (hj : j < 17) (v : Int) : (flexCells F).setIfInBounds j (.int .i64 v) = flexCells (fun k => if k = j then v else F k) := by
  apply Array.ext_getElem?
  intro t
  rw [Array.getElem?_setIfInBounds]
  by_cases h : j = t
  · subst h
    rw [if_pos rfl, if_pos (by rw [flexCells_size]; exact hj), flexCells_get _ hj]
    simp
  · rw [if_neg h]
    by_cases ht : t < 17
    · rw [flexCells_get _ ht, flexCells_get _ ht, if_neg (Ne.symm h)]
    · rw [Array.getElem?_eq_none (by rw [flexCells_size]; omega), Array.getElem?_eq_none (by rw [flexCells_size]; omega)]
theorem bigF : Big Try.prog 59 17 (flexCells fun _ => 0) := ⟨⟨_, Try.underlying59, rfl⟩, by kernel_rfl, by kernel_rfl⟩
theorem n_disp {x : List Value} (hx : OkAll nodeLs x) : x[3]? = some (.int .u8 (disp x)) ∧ 0 ≤ disp x ∧ disp x ≤ 255 := by
  obtain ⟨v, h1, n, rfl, h2⟩ := hx.get (i := 3) (l := .int .u8) rfl
  have hd : disp x = n := by unfold disp intAt; rw [h1]
  rw [hd]
  exact ⟨h1, by simpa [Lit.wf, IntKind.min, IntKind.max, IntKind.signed, IntKind.bits] using h2⟩
/-- The state between two rounds. -/
structure FlexSt (w wr : World) (L : List (List Value)) (dv : Array Value) (q k : Nat) (F : Nat → Int) : Prop where
  same : flexGo (fun _ => 0) L = flexGo F (L.drop k)
  small : ∀ j, -6 ≤ F j ∧ F j ≤ 6
  doc : Row wr w.heap.size 24 dv
  flex : Row wr q 59 (flexCells F)
  grown : w.grownBy wr none
theorem flexGo_drop {L : List (List Value)} {F : Nat → Int} {k : Nat} (hk : k < L.length) : flexGo F (L.drop k) = (!flexBad F (nd L k) && flexGo (flexNext F (nd L k)) (L.drop (k + 1))) := by
  have h := nd_get hk
  rw [List.drop_eq_getElem_cons hk]
  unfold nd
  rw [List.getElem?_eq_getElem hk]
  rfl
theorem FlexSt.next {w wr W3 : World} {L : List (List Value)} {dv : Array Value} {q k dn : Nat} {F : Nat → Int} {v : Int} (h : FlexSt w wr L dv q k F) (hk : k < L.length) (hb : flexBad F (nd L k) = false)
    (hd : (depN (nd L k)).toNat = dn) (hv : flexVal F (nd L k) = v) (hdoc : Row W3 w.heap.size 24 dv) (hf : Row W3 q 59 (flexCells fun j => if j = dn + 1 then v else F j)) (hg : w.grownBy W3 none) :
    FlexSt w W3 L dv q (k + 1) (flexNext F (nd L k)) := by
  have hn : flexNext F (nd L k) = fun j => if j = dn + 1 then v else F j := by unfold flexNext; rw [hd, hv]
  refine ⟨h.same.trans (by rw [flexGo_drop hk, hb]; rfl), fun j => ?_, hdoc, by rw [hn]; exact hf, hg⟩
  rw [hn]
  dsimp only
  split
  · rw [← hv]
    have h6 := h.small (depN (nd L k)).toNat
    unfold flexBad at hb
    simp only [Bool.or_eq_false_iff, Bool.and_eq_false_iff, decide_eq_false_iff_not] at hb
    have hb3 := hb.2.2
    unfold flexVal absI
    unfold absI at hb3
    split
    · rename_i hfl
      rw [hfl] at hb3
      rcases hb3 with h1 | h1
      · cases h1
      · omega
    · omega
  · exact h.small j
theorem isFlex_text {y : List Value} (h : kindN y = 1) : isFlex y = false := by unfold isFlex; rw [h]; rfl
theorem isFlex_no {y : List Value} (h : disp y ≠ 2) : isFlex y = false := by unfold isFlex; simp [h]
theorem isFlex_yes {y : List Value} (h : kindN y = 0) (h2 : disp y = 2) : isFlex y = true := by unfold isFlex; rw [h, h2]; rfl
set_option maxRecDepth 100000 in
set_option maxHeartbeats 4000000 in
theorem may7_any (A : Option Addr) (n c : Nat) (x : Int) (L : List (List Value)) (w : World) (hN : NodesAt w w.heap.size A n L) (hsm : ∀ i, i < n → lenN (nd L i) ≤ 5000) :
    Calls Try.prog 11 #[.agg #[.slice A n c, .int .i64 x]] w fun e w' => Tells (MayL L x) e ∧ w.grownBy w' none := by
  have hn := hN.few
  have hlen := hN.len
  have hg0 := World.grownBy_alloc w (.cells #[.slice A n c, .int .i64 x] 24) none
  have b0 := Row.new w 24 #[.slice A n c, .int .i64 x]
  have CT := Lib.hid (may_any A n c x L _ (hN.grow hg0) hsm)
  have b0' := Lib.hid b0
  have hg0' := Lib.hid hg0
  have c0 : (w.alloc (.cells #[.slice A n c, .int .i64 x] 24)).cell? ⟨w.heap.size, 0, none⟩ = some (.slice A n c) := b0.at 0
  have c1 : (w.alloc (.cells #[.slice A n c, .int .i64 x] 24)).cell? ⟨w.heap.size, 1, none⟩ = some (.int .i64 x) := b0.at 1
  have hNh := Lib.hid hN
  have hlen' := Lib.hid hlen
  clear hN b0 hg0 hsm hlen
  go_enter Try.func11, Try.ntmps11
  go_wp2_with fail
  refine CT.out.mono ?_; rintro r w1 ⟨⟨b, rfl, hb⟩, hg1⟩
  clear c0 c1 CT
  have b1 := b0'.out.kept0 hg1
  have hq17 := hg1.size
  rw [World.size_alloc] at hq17
  replace hg1 := grown_trans hg0'.out hg1
  cases b with
  | false =>
    have hno : ¬ MayL L x := fun h => by have := hb.2 h.1; cases this
    have hno' := Lib.hid hno
    clear hno hb b1
    go_wp2_with fail
    go_ret
    exact ⟨.no hno'.out, hg1⟩
  | true =>
    have hS := hb.1 rfl
    have hS' := Lib.hid hS
    have hMay := Lib.hid (show MayL L x ↔ flexGo (fun _ => 0) L = true from ⟨fun h => h.2, fun h => ⟨hS, h⟩⟩)
    have c0 : w1.cell? ⟨w.heap.size, 0, none⟩ = some (.slice A n c) := b1.at 0
    have hga := World.grownBy_alloc w1 (.cells (flexCells fun _ => 0) 59) none
    have b2 := b1.kept0 hga
    have c0' : (w1.alloc (.cells (flexCells fun _ => 0) 59)).cell? ⟨w.heap.size, 0, none⟩ = some (.slice A n c) := b2.at 0
    have hst := Lib.hid (show FlexSt w (w1.alloc (.cells (flexCells fun _ => 0) 59)) L #[.slice A n c, .int .i64 x] w1.heap.size 0 (fun _ => 0) from
      ⟨by rw [List.drop_zero], fun j => by omega, b2, Row.new _ _ _, grown_trans hg1 hga⟩)
    clear hb b1 b2 hga hg1 hS
    go_wp2_with (refine wpList_value rfl (exec_alloc_row bigF rfl w1) ?_; simp only [Act.put, List.setIfInBounds_toArray, List.set_cons_zero, List.set_cons_succ])
    generalize w1.alloc (.cells (flexCells fun _ => 0) 59) = W1 at *
    generalize w1.heap.size = q at *
    go_loopw [14] (fun vi wr => ∃ (k : Nat) (F : Nat → Int), k ≤ n ∧ vi = .int .i64 k ∧ FlexSt w wr L #[.slice A n c, .int .i64 x] q k F) (fun vi _ => n - (intOf vi).toNat)
    case atStart => exact ⟨0, _, by omega, rfl, hst.out⟩
    case round =>
      obtain ⟨k, F, hk, rfl, hR⟩ := hrel
      clear c0 c0' hst
      have hR' := Lib.hid hR
      by_cases hlt : k < n
      · have hN := hNh.out.grown0 hR.grown
        obtain ⟨ad, rfl, _⟩ := hN.some_ hlt
        have hld := Lib.hid (hN.load hlt)
        have hok := Lib.hid (hNh.out.nd_ok hlt)
        have hone := Lib.hid (okAll_one hok.out)
        have hsz := Lib.hid (show (nd L k).toArray.size = 51 by rw [List.size_toArray]; exact hok.out.len)
        clear hN hR
        go_upto_region 7 with (first
          | (refine wpList_value_w rfl (exec_load rfl rfl hld.out) ?_; simp only [Act.put, List.setIfInBounds_toArray, List.set_cons_zero, List.set_cons_succ])
          | (refine wpList_fresh bigN rfl rfl rfl rfl _ _ rfl (nd L k).toArray hsz.out (by have := hone.out; simpa using this) rfl rfl ?_; intro W2 hg2 hr2; simp only [Act.put, List.setIfInBounds_toArray, List.set_cons_zero, List.set_cons_succ]))
        have hlk : k < L.length := by have := hlen'.out; omega
        have hgood := hS'.out.2.2.2.1 k hlk
        obtain ⟨dn, hdn⟩ := Int.eq_ofNat_of_zero_le hgood.1.2.2.1
        have hd16 : dn < 16 := by have := hgood.1.2.2.2.1; omega
        have hkinds := hgood.1.2.2.2.2
        obtain ⟨q7, hq7⟩ : ∃ q, q = wr.heap.size := ⟨_, rfl⟩
        rw [← hq7] at hr2 ⊢
        obtain ⟨_, z1, z2, _⟩ := row_node hr2 hok.out
        have z3 : W2.cell? ⟨q7, 3, none⟩ = some (.int .u8 (disp (nd L k))) := (hr2.at 3).trans (by simpa using (n_disp hok.out).1)
        have hdq2 := Lib.hid (show w.heap.size ≠ q ∧ w.heap.size ≤ q by omega)
        have rF := hR'.out.flex.kept0 hg2
        have zF : W2.cell? ⟨q, dn, none⟩ = some (.int .i64 (F dn)) := (rF.at dn).trans (flexCells_get F (by omega))
        have zd : W2.cell? ⟨q, dn + 1, none⟩ = some (.int .i64 (F (dn + 1))) := (rF.at (dn + 1)).trans (flexCells_get F (by omega))
        have zf := rF.free (dn + 1)
        rw [hdn] at z1
        obtain ⟨u, hu⟩ : ∃ u, u = F dn := ⟨_, rfl⟩
        have hub := hR'.out.small dn
        rw [← hu] at zF hub
        have hdnN : (depN (nd L k)).toNat = dn := by rw [hdn]; rfl
        have hdnN' := Lib.hid hdnN
        have hbad := Lib.hid (show flexBad F (nd L k) = ((decide (kindN (nd L k) = 0) && !styB (nd L k)) || ((decide (kindN (nd L k) = 1) && decide (u < 0)) || (isFlex (nd L k) && decide (6 ≤ absI u)))) by unfold flexBad; rw [hdnN, ← hu])
        have hval := Lib.hid (show flexVal F (nd L k) = if isFlex (nd L k) then -(absI u + 1) else absI u by unfold flexVal; rw [hdnN, ← hu])
        have hno := Lib.hid (fun (h : flexBad F (nd L k) = true) => show ¬ MayL L x from fun hm => by
          have h1 := hMay.out.1 hm
          rw [hR'.out.same, flexGo_drop hlk, h] at h1
          cases h1)
        have hr2' := Lib.hid hr2
        have hg2' := Lib.hid (grown_trans hR'.out.grown hg2)
        have rF' := Lib.hid rF
        have hqq := Lib.hid (show q7 ≠ q by have := hR'.out.flex.lt; omega)
        have hneq := Lib.hid hdq2.out
        have rD' := Lib.hid (hR'.out.doc.kept0 hg2)
        have hlk' := Lib.hid hlk
        clear hgood hdn hu hdnN hr2 hg2 rF hq7 hlk
        have i1 : (0 : Int) ≤ (dn : Int) := by omega
        have i2 : (dn : Int) < 17 := by omega
        have i3 : (0 : Int) ≤ (dn : Int) + 1 := by omega
        have i4 : (dn : Int) + 1 < 17 := by omega
        have hfin := Lib.hid (fun (v : Int) (hb : flexBad F (nd L k) = false) (hv : flexVal F (nd L k) = v) => show FlexSt w (W2.setCell ⟨q, dn + 1, none⟩ (.int .i64 v)) L #[.slice (some ad) n c, .int .i64 x] q (k + 1) (flexNext F (nd L k)) from by
          have h1 := rF'.out.set (dn + 1) (.int .i64 v)
          rw [flexCells_set F (by omega)] at h1
          exact hR'.out.next hlk'.out hb hdnN'.out hv (rD'.out.keptNe (grownBy_setCell _ _ _ _) hneq.out.1) h1 (grown_put hg2'.out hneq.out.2 _ _))
        rcases hkinds with ⟨hk0, _⟩ | ⟨hk1, _⟩
        · rw [hk0] at z2
          have hk0' := Lib.hid hk0
          clear hk0
          by_cases hdi : disp (nd L k) = 2
          · have hdi' := Lib.hid hdi
            rw [hdi] at z3
            have hfl := Lib.hid (isFlex_yes hk0'.out hdi)
            clear hdi
            go_wp2_with (refine wpList_value_w (by kernel_rfl) (exec_load (T := 30) (x := .tmp 35) (a := ⟨q7, 3, none⟩) rfl (by kernel_rfl) (row_style hr2'.out hok.out)) ?_; simp only [Act.put, List.setIfInBounds_toArray, List.set_cons_zero, List.set_cons_succ])
            refine (stymay_node hok.out W2).mono ?_; rintro r w3 ⟨rfl, hg3⟩
            replace z1 := hg3.cell z1 (by simp)
            replace z2 := hg3.cell z2 (by simp)
            replace z3 := hg3.cell z3 (by simp)
            replace zF := hg3.cell zF (by simp)
            replace zd := hg3.cell zd (by simp)
            have rF3 := rF'.out.kept0 hg3
            replace zf := rF3.free (dn + 1)
            have rD3 := rD'.out.kept0 hg3
            have hgw := grown_trans hg2'.out hg3
            cases hs : styB (nd L k) with
            | false =>
              have hb := Lib.hid (hno.out (by rw [hbad.out, hk0'.out, hs]; simp))
              clear hs hg3 rF3 rD3
              go_wp2_with fail
              go_ret
              exact ⟨.no hb.out, hgw⟩
            | true =>
              have hs' := Lib.hid hs
              clear hs hg3
              obtain ⟨m, hm⟩ : ∃ m, m = absI u := ⟨_, rfl⟩
              have hmax : (if u < -u then -u else u) = m := by rw [hm]; unfold absI; split <;> omega
              have hm0 : 0 ≤ m := by rw [hm]; unfold absI; omega
              by_cases h6 : 6 ≤ m
              · have d1 : decide (6 ≤ m) = true := decide_eq_true h6
                have hb := Lib.hid (hno.out (by rw [hbad.out, hfl.out, ← hm, d1]; simp))
                clear h6 rF3 rD3 hm
                go_wp2_with fail
                go_ret
                exact ⟨.no hb.out, hgw⟩
              · have d1 : decide (6 ≤ m) = false := decide_eq_false h6
                have hr4 := rF3.set (dn + 1) (.int .i64 (m + 1))
                have hr5 := hr4.kept0 (grown_drew (World.grownBy.refl _ none))
                have hr6 := hr5.set (dn + 1) (.int .i64 (-(m + 1)))
                rw [flexCells_set F (by omega)] at hr4 hr6
                rw [flexCells_set _ (by omega)] at hr6
                have hrD6 := ((rD3.keptNe (grownBy_setCell w3 q (dn + 1) (.int .i64 (m + 1))) hneq.out.1).kept0 (grown_drew (World.grownBy.refl _ none))).keptNe (grownBy_setCell _ q (dn + 1) (.int .i64 (-(m + 1)))) hneq.out.1
                have hg6 := grown_put (grown_drew (grown_put hgw hneq.out.2 (dn + 1) (.int .i64 (m + 1)))) hneq.out.2 (dn + 1) (.int .i64 (-(m + 1)))
                have hf := hR'.out.next (v := -(m + 1)) hlk'.out (by rw [hbad.out, hk0'.out, hs'.out, ← hm, d1]; simp) hdnN'.out (by rw [hval.out, if_pos hfl.out, ← hm]) hrD6 (by
                  have : (fun j => if j = dn + 1 then -(m + 1) else if j = dn + 1 then m + 1 else F j) = fun j => if j = dn + 1 then -(m + 1) else F j := by funext j; split <;> rfl
                  rw [← this]
                  exact hr6) hg6
                have zq := hr4.at (dn + 1)
                rw [flexCells_get _ (by omega)] at zq
                simp only [if_true] at zq
                have zr := hr4.free (dn + 1)
                have hm6 : m < 6 := by omega
                have z1q : (w3.setCell ⟨q, dn + 1, none⟩ (.int .i64 (m + 1))).cell? ⟨q7, 1, none⟩ = some (.int .i64 (dn : Int)) := (grownBy_setCell w3 q (dn + 1) (.int .i64 (m + 1))).cell z1 (fun e => hqq.out (Option.some.inj e))
                have hf' := Lib.hid hf
                clear hf hg6 hrD6 hr6 hr5 hr4 rF3 rD3 h6 hm
                go_wp2_with fail
                generalize w3.setCell ⟨q, dn + 1, none⟩ (.int .i64 (m + 1)) = w4 at *
                have hwd : IntKind.i64.wrap ((dn : Int) + 1) = (dn : Int) + 1 := by rw [IntKind.wrap_i64]; omega
                have hwt : ((dn : Int) + 1).toNat = dn + 1 := by omega
                go_still_tail 10, (by kernel_rfl)
                change wpList _ _ _ _ _ w4.drew
                go_wp2_with fail
                exact ⟨⟨k + 1, _, by omega, by go_num, hf'.out⟩, by simp [intOf]; omega⟩
          · have hdi' := Lib.hid hdi
            have d0 : (disp (nd L k) == 2) = false := by simpa using hdi
            have hfl := Lib.hid (isFlex_no hdi)
            clear hdi
            go_wp2_with (refine wpList_value_w (by kernel_rfl) (exec_load (T := 30) (x := .tmp 35) (a := ⟨q7, 3, none⟩) rfl (by kernel_rfl) (row_style hr2'.out hok.out)) ?_; simp only [Act.put, List.setIfInBounds_toArray, List.set_cons_zero, List.set_cons_succ])
            refine (stymay_node hok.out W2).mono ?_; rintro r w3 ⟨rfl, hg3⟩
            replace z1 := hg3.cell z1 (by simp)
            replace z2 := hg3.cell z2 (by simp)
            replace z3 := hg3.cell z3 (by simp)
            replace zF := hg3.cell zF (by simp)
            replace zd := hg3.cell zd (by simp)
            have rF3 := rF'.out.kept0 hg3
            replace zf := rF3.free (dn + 1)
            have rD3 := rD'.out.kept0 hg3
            have hgw := grown_trans hg2'.out hg3
            cases hs : styB (nd L k) with
            | false =>
              have hb := Lib.hid (hno.out (by rw [hbad.out, hk0'.out, hs]; simp))
              clear hs hg3 rF3 rD3
              go_wp2_with fail
              go_ret
              exact ⟨.no hb.out, hgw⟩
            | true =>
              have hs' := Lib.hid hs
              clear hs hg3
              obtain ⟨m, hm⟩ : ∃ m, m = absI u := ⟨_, rfl⟩
              have hmax : (if u < -u then -u else u) = m := by rw [hm]; unfold absI; split <;> omega
              have hm0 : 0 ≤ m ∧ m ≤ 6 := by rw [hm]; unfold absI; omega
              have hr4 := rF3.set (dn + 1) (.int .i64 m)
              rw [flexCells_set F (by omega)] at hr4
              have hf := hR'.out.next (v := m) hlk'.out (by rw [hbad.out, hk0'.out, hs'.out, hfl.out]; simp) hdnN'.out (by rw [hval.out, hfl.out, ← hm]; simp) (rD3.keptNe (grownBy_setCell w3 q (dn + 1) (.int .i64 m)) hneq.out.1) hr4 (grown_put hgw hneq.out.2 (dn + 1) (.int .i64 m))
              have hf' := Lib.hid hf
              clear hf hr4 rF3 rD3 hm
              go_wp2_with fail
              exact ⟨⟨k + 1, _, by omega, by go_num, hf'.out⟩, by simp [intOf]; omega⟩
        · have b1 : (kindN (nd L k) == 0) = false := by simp [hk1]
          rw [hk1] at z2
          have hk1' := Lib.hid hk1
          clear hk1 b1
          by_cases hu0 : u < 0
          · have d1 : decide (u < 0) = true := decide_eq_true hu0
            have hb := Lib.hid (hno.out (by rw [hbad.out, hk1'.out, d1]; simp))
            clear hu0
            go_wp2_with fail
            go_ret
            exact ⟨.no hb.out, hg2'.out⟩
          · have d1 : decide (u < 0) = false := decide_eq_false hu0
            have hmax : max u (-u) = u := by omega
            have hu1 := Lib.hid hu0
            have hf := Lib.hid (hfin.out u (by rw [hbad.out, hk1'.out, d1, isFlex_text hk1'.out]; simp) (by rw [hval.out, isFlex_text hk1'.out]; unfold absI; simpa using hmax))
            clear hu0
            go_wp2_with fail
            exact ⟨⟨k + 1, _, by omega, by go_num, hf.out⟩, by simp [intOf]; omega⟩
      · clear hR
        go_wp2_with fail
        go_ret
        obtain rfl : k = n := by omega
        exact ⟨.iff_ (by rw [hMay.out, hR'.out.same, List.drop_of_length_le (by rw [hlen'.out]; omega)]; simp [flexGo]), hR'.out.grown⟩
end Go.Proofs.Ytjnbfgogmhfbiaa
/- The mutations: the row of functions; the deferred closure. -/
namespace Go.Proofs.Ytjnbfgogmhfbiaa
open Go Go.RowKit
def doers : Array Value := #[.nilFunc, .func (.func 30) #[] #[], .func (.func 31) #[] #[], .func (.func 32) #[] #[], .func (.func 33) #[] #[], .func (.func 35) #[] #[]]
theorem bigD : Big Try.prog 56 6 #[.nilFunc, .nilFunc, .nilFunc, .nilFunc, .nilFunc, .nilFunc] := ⟨⟨_, Try.underlying56, rfl⟩, by kernel_rfl, by kernel_rfl⟩
theorem doers_one : ∀ v ∈ doers.toList, v.oneCell' = true := fun v hv => by
  simp only [doers, List.mem_cons, List.not_mem_nil, or_false] at hv
  rcases hv with rfl | rfl | rfl | rfl | rfl | rfl <;> rfl
theorem doing_any (w : World) : Calls Try.prog 25 #[] w fun e w' => e = .returned (.agg doers) ∧ w.grownBy w' none := by
  have r1 := (Row.new w 56 #[.nilFunc, .nilFunc, .nilFunc, .nilFunc, .nilFunc, .nilFunc]).store doers
  have hg := grown_new (World.grownBy_alloc w (.cells #[.nilFunc, .nilFunc, .nilFunc, .nilFunc, .nilFunc, .nilFunc] 56) none) (grownBy_setRow _ w.heap.size doers) (fun g e => by cases e; exact Nat.le_refl _)
  go_enter Try.func25, Try.ntmps25
  go_wp2_with (first
    | (refine wpList_value rfl (exec_alloc_row bigD rfl w) ?_; simp only [Act.put, List.setIfInBounds_toArray, List.set_cons_zero, List.set_cons_succ])
    | (refine wpList_skip rfl (exec_store_row bigD (x := .tmp 0) (y := .tmp 1) (g := w.heap.size) rfl (by kernel_rfl) doers (by kernel_rfl) _ (Row.new w 56 #[.nilFunc, .nilFunc, .nilFunc, .nilFunc, .nilFunc, .nilFunc]) rfl rfl doers_one) ?_; simp only [Act.put, List.setIfInBounds_toArray, List.set_cons_zero, List.set_cons_succ]))
  generalize (w.alloc (.cells #[.nilFunc, .nilFunc, .nilFunc, .nilFunc, .nilFunc, .nilFunc] 56)).setRow w.heap.size doers = W at *
  have e0 := r1.at 0
  have e1 := r1.at 1
  have e2 := r1.at 2
  have e3 := r1.at 3
  have e4 := r1.at 4
  have e5 := r1.at 5
  simp only [doers, List.getElem?_toArray, List.getElem?_cons_zero, List.getElem?_cons_succ] at e0 e1 e2 e3 e4 e5
  exact bodyPost_ret (v := .agg doers) (by simp [results, Try.results25, go_sem, e0, e1, e2, e3, e4, e5, doers]) rfl ⟨rfl, hg⟩
theorem run_assert (e : Int) (w : World) : (Instr.typeAssert (.iface 51 (.agg #[.int .i64 e])) 20 51 true).run Try.prog w = .ok (.tuple #[.agg #[.int .i64 e], .bool true]) w := by
  simp [Instr.typeAssert, run_underlying Try.underlying51, Sem.run_bind]
theorem catch_wrong (po pe : Nat) (e x0 : Int) (u v : Value) (w : World) (ho : Two w po 24 u v) (he : Row w pe 37 #[.int .i64 x0]) (hne : po ≠ pe) :
    CallsD Try.prog 22 #[.pointer (some ⟨po, 0, none⟩), .pointer (some ⟨pe, 0, none⟩)] (.panicking [{ v := wrongV e, recovered := false }]) w fun r u' w' =>
      r = .returned (.tuple #[]) ∧ u' = .panicking [{ v := wrongV e, recovered := true }] ∧ Two w' po 24 (.slice none 0 0) (.int .i64 0) ∧ Row w' pe 37 #[.int .i64 e] ∧ (∀ w0 : World, w0.grownBy w none → w0.heap.size ≤ po → w0.heap.size ≤ pe → w0.grownBy w' none) := by
  refine callsD_of_wpS Try.func22 rfl fun c₀ cs hu => ?_
  apply wpS_seq
  apply wpS_region
  simp [wpOpsS, go_sem, recoverD, hu, Try.ntmps22, Exit.thenS]
  refine wpS_of_wp ?_
  rw [show (#[Value.pointer (some ⟨po, 0, none⟩), Value.pointer (some ⟨pe, 0, none⟩)] ++ ((Array.replicate 17 undef).setIfInBounds 3 (wrongV e)).setIfInBounds 0 (wrongV e)) =
    #[Value.pointer (some ⟨po, 0, none⟩), Value.pointer (some ⟨pe, 0, none⟩), wrongV e, undef, undef, wrongV e, undef, undef, undef, undef, undef, undef, undef, undef, undef, undef, undef, undef, undef] from by kernel_rfl]
  generalize hQ : (fun e_1 a' w' => bodyPostS Try.prog _ c₀ cs _ e_1 a' _ w') = Q
  have hta := run_assert e
  have t0 := ho.c0
  have t1 := ho.c1
  have tf0 := ho.f 0
  have tf1 := ho.f 1
  have t2 := he.at 0
  have tf2 := he.free 0
  unfold wrongV
  go_wp2_with fail
  clear t0 t1 tf0 tf1 t2 tf2
  have hgA := World.grownBy_alloc w (.cells #[.int .i64 e] 51) none
  have ho1 := ho.kept hgA (by simp)
  have he1 := he.kept0 hgA
  have z : (w.alloc (.cells #[.int .i64 e] 51)).cell? ⟨w.heap.size, 0, none⟩ = some (.int .i64 e) := (Row.new w 51 #[.int .i64 e]).at 0
  have hlo := ho.lt
  have hle := he.lt
  generalize w.alloc (.cells #[.int .i64 e] 51) = W at *
  generalize w.heap.size = pw at *
  have t0 := ho1.c0
  have t1 := ho1.c1
  have tf0 := ho1.f 0
  have tf1 := ho1.f 1
  have t2 := he1.at 0
  have tf2 := he1.free 0
  have n1 : pw ≠ po := by omega
  have n2 : pw ≠ pe := by omega
  have n3 := Ne.symm hne
  go_region
  have hdr := grown_drew (World.grownBy.refl (((W.setCell ⟨po, 0, none⟩ (.slice none 0 0)).setCell ⟨po, 1, none⟩ (.int .i64 0)).setCell ⟨pe, 0, none⟩ (.int .i64 e)) none)
  have P1 := (((ho1.s0 (.slice none 0 0)).s1 (.int .i64 0)).other (k := 0) hne (.int .i64 e)).kept hdr (by simp)
  have P2 := (((he1.keptNe (grownBy_setCell W po 0 (.slice none 0 0)) n3).keptNe (grownBy_setCell _ po 1 (.int .i64 0)) n3).set 0 (.int .i64 e)).kept0 hdr
  rw [← hQ]
  exact ⟨rfl, _, rfl, .tuple #[], by simp [results, Try.results22], rfl, rfl, P1, P2, fun w0 hg h1 h2 => grown_drew (grown_put (grown_put (grown_put (grown_trans hg hgA) h1 _ _) h1 _ _) h2 _ _)⟩
theorem catch_idle (po pe : Nat) (w : World) :
    CallsD Try.prog 22 #[.pointer (some ⟨po, 0, none⟩), .pointer (some ⟨pe, 0, none⟩)] .returning w fun r u' w' => r = .returned (.tuple #[]) ∧ u' = .returning ∧ w' = w := by
  refine callsD_of_wpS Try.func22 rfl fun c₀ cs hu => ?_
  apply wpS_seq
  apply wpS_region
  simp [wpOpsS, go_sem, recoverD, hu, Try.ntmps22, Exit.thenS]
  refine wpS_of_wp ?_
  rw [show (#[Value.pointer (some ⟨po, 0, none⟩), Value.pointer (some ⟨pe, 0, none⟩)] ++ ((Array.replicate 17 undef).setIfInBounds 3 .nilIface).setIfInBounds 0 .nilIface) =
    #[Value.pointer (some ⟨po, 0, none⟩), Value.pointer (some ⟨pe, 0, none⟩), .nilIface, undef, undef, .nilIface, undef, undef, undef, undef, undef, undef, undef, undef, undef, undef, undef, undef, undef] from by kernel_rfl]
  generalize hQ : (fun e_1 a' w' => bodyPostS Try.prog _ c₀ cs _ e_1 a' _ w') = Q
  go_wp2_with fail
  rw [← hQ]
  cases c₀
  simp_all [bodyPostS, results, Try.results22]
end Go.Proofs.Ytjnbfgogmhfbiaa
/- The mutations: what comes of a change, besides: texts stay small; the functions by kind. -/
namespace Go.Proofs.Ytjnbfgogmhfbiaa
open Go Go.RowKit
theorem MayL.facts {L : List (List Value)} {x : Int} (h : MayL L x) : 1 ≤ L.length ∧ L.length ≤ 300 ∧ (0 ≤ x ∧ x ≤ 1073741825) ∧ ∀ i, i < L.length → 0 ≤ dp L i ∧ dp L i ≤ 15 := by
  obtain ⟨h1, h2, h3, h4, _, _⟩ := h.1
  refine ⟨h1, h2, ⟨?_, h3⟩, fun i hi => ?_⟩
  · have := (h4 0 (by omega)).1
    have h5 := this.1
    have h6 := this.2.1
    omega
  · have := (h4 i hi).1.2.2
    unfold dp
    omega
theorem sty_at {y : List Value} (hy : OkAll nodeLs y) (v : Value) (a b c : Value) : (a :: b :: c :: (styN y ++ [v]))[50]? = some v := by
  have h := styN_len hy
  rw [List.getElem?_cons_succ, List.getElem?_cons_succ, List.getElem?_cons_succ, List.getElem?_append_right (by omega), h]
  rfl
theorem box_text {x d : Int} {y : List Value} (hy : OkAll nodeLs y) : lenN (boxOf x d y) = 0 := by
  unfold lenN strAt boxOf
  rw [sty_at hy]
  rfl
theorem text_text {x d : Int} {y : List Value} (hy : OkAll nodeLs y) : lenN (textOf x d y) = lenN y := by
  obtain ⟨s, h1, h2, _⟩ := okAll_text hy
  unfold textOf
  rw [h1]
  exact h2
theorem deepen_text (d : Int) (y : List Value) : lenN (deepen d y) = lenN y := by
  unfold lenN strAt deepen
  rw [List.getElem?_set_ne (by omega)]
theorem withSty_text {z y : List Value} (hz : OkAll nodeLs z) (hy : OkAll nodeLs y) : lenN (withSty z y) = lenN z := by
  unfold lenN strAt withSty
  have h1 := hz.len
  have h2 := styN_len hy
  rw [nodeLs_len] at h1
  rw [List.getElem?_append_right (by simp; omega), List.getElem?_drop]
  simp only [List.length_append, List.length_take, h1, h2]
  rfl
theorem withText_text {z y : List Value} (hz : OkAll nodeLs z) (hy : OkAll nodeLs y) : lenN (withText z y) = lenN y := by
  obtain ⟨s, h1, h2, _⟩ := okAll_text hy
  have h3 := hz.len
  rw [nodeLs_len] at h3
  unfold withText
  rw [h1]
  unfold lenN strAt
  rw [List.getElem?_set_self (by omega)]
  exact h2
theorem mem_put {L T : List (List Value)} {g : Nat} {y : List Value} (h : y ∈ putAt L g T) : y ∈ L ∨ y ∈ T := by
  unfold putAt at h
  rcases List.mem_append.1 h with h | h
  · rcases List.mem_append.1 h with h | h
    · exact .inl (List.mem_of_mem_take h)
    · exact .inr h
  · exact .inl (List.mem_of_mem_drop h)
theorem cutL_mem {L T R : List (List Value)} {key : Int} (h : cutL L key = .ok (T, R)) : (∀ y ∈ T, y ∈ L) ∧ ∀ y ∈ R, y ∈ L := by
  unfold cutL at h
  split at h
  · injection h with h
    injection h with h1 h2
    subst h1 h2
    refine ⟨fun y hy => List.mem_of_mem_drop (List.mem_of_mem_take hy), fun y hy => ?_⟩
    rcases List.mem_append.1 hy with hy | hy
    · exact List.mem_of_mem_take hy
    · exact List.mem_of_mem_drop hy
  · cases h
theorem opL_len {L L' : List (List Value)} {x x' : Int} {c : Chg} (hL : ∀ y ∈ L, OkAll nodeLs y) (hc : c.ok) (h : opL L x c = .ok (L', x')) (hs : ∀ y ∈ L, lenN y ≤ 5000) (hy : lenN c.y ≤ 5000) : ∀ y ∈ L', lenN y ≤ 5000 := by
  unfold opL at h
  split at h
  · unfold insertL at h
    split at h
    · cases h
    · split at h
      · split at h
        · injection h with h
          injection h with h1 h2
          subst h1
          intro y hm
          rcases mem_put hm with hm | hm
          · exact hs y hm
          · rw [List.mem_singleton.1 hm, box_text hc.y]; omega
        · cases h
      · split at h
        · injection h with h
          injection h with h1 h2
          subst h1
          intro y hm
          rcases mem_put hm with hm | hm
          · exact hs y hm
          · rw [List.mem_singleton.1 hm, text_text hc.y]; exact hy
        · cases h
  · split at h
    · unfold removeL at h
      split at h
      · cases h
      · rename_i hcut
        injection h with h
        injection h with h1 h2
        subst h1
        exact fun y hm => hs y ((cutL_mem hcut).2 y hm)
    · split at h
      · unfold moveL at h
        split at h
        · cases h
        · rename_i hcut
          split at h
          · cases h
          · injection h with h
            injection h with h1 h2
            subst h1
            intro y hm
            rcases mem_put hm with hm | hm
            · exact hs y ((cutL_mem hcut).2 y hm)
            · obtain ⟨z, hz, rfl⟩ := List.mem_map.1 hm
              rw [deepen_text]
              exact hs z ((cutL_mem hcut).1 z hz)
      · split at h
        · unfold styleL at h
          split at h
          · rename_i hf
            obtain ⟨u, hu, hul, _⟩ := findI_spec hf
            dsimp only at h
            rw [hu] at h
            split at h
            · split at h
              · injection h with h
                injection h with h1 h2
                subst h1
                intro y hm
                rcases List.mem_or_eq_of_mem_set hm with hm | hm
                · exact hs y hm
                · rw [hm, Int.toNat_natCast, withSty_text (nd_ok_ hL hul) hc.y]
                  exact hs _ (List.mem_of_getElem? (nd_get hul))
              · cases h
            · cases h
          · cases h
        · unfold textL at h
          split at h
          · rename_i hf
            obtain ⟨u, hu, hul, _⟩ := findI_spec hf
            dsimp only at h
            rw [hu] at h
            split at h
            · injection h with h
              injection h with h1 h2
              subst h1
              intro y hm
              rcases List.mem_or_eq_of_mem_set hm with hm | hm
              · exact hs y hm
              · rw [hm, Int.toNat_natCast, withText_text (nd_ok_ hL hul) hc.y]; exact hy
            · cases h
          · cases h
/-- The function of a kind. -/
def doer (kd : Int) : Nat := if kd = 1 then 30 else if kd = 2 then 31 else if kd = 3 then 32 else if kd = 4 then 33 else 35
theorem doers_get {kd : Int} (h : 1 ≤ kd ∧ kd ≤ 5) : doers[kd.toNat]? = some (.func (.func (doer kd)) #[] #[]) := by
  rcases (by omega : kd = 1 ∨ kd = 2 ∨ kd = 3 ∨ kd = 4 ∨ kd = 5) with rfl | rfl | rfl | rfl | rfl <;> rfl
theorem run_doer {kd : Int} (h : 1 ≤ kd ∧ kd ≤ 5) (w : World) : (Instr.index 56 (.agg doers) (.int .u8 kd)).run Try.prog w = .ok (.func (.func (doer kd)) #[] #[]) w := by
  rcases (by omega : kd = 1 ∨ kd = 2 ∨ kd = 3 ∨ kd = 4 ∨ kd = 5) with rfl | rfl | rfl | rfl | rfl <;> kernel_rfl
theorem call_doer {kd : Int} (h : 1 ≤ kd ∧ kd ≤ 5) (args : Array Value) (w : World) : (callFunc (doer kd) args).run Try.prog w = .ok (.enter (doer kd) args) w := by
  rcases (by omega : kd = 1 ∨ kd = 2 ∨ kd = 3 ∨ kd = 4 ∨ kd = 5) with rfl | rfl | rfl | rfl | rfl <;> kernel_rfl
theorem op_any (B p : Nat) (A : Option Addr) (n k : Nat) (L : List (List Value)) (x : Int) (c : Chg) (w : World) (hD : DocAt w B p A n k L x) (hB : B ≤ w.heap.size) (hc : c.ok) (hn : n ≤ 600) (hx : 0 ≤ x ∧ x ≤ 1073741825) (hdp : ∀ i, i < n → -1 ≤ dp L i ∧ dp L i ≤ 1000) (hk : 1 ≤ c.kd ∧ c.kd ≤ 5) :
    Calls Try.prog (doer c.kd) #[.pointer (some ⟨p, 0, none⟩), .agg c.cells] w (OpPost w B p (rowOf A k) (opL L x c)) := by
  unfold doer opL
  split
  · exact insert_any B p A n k L x c w hD hB hc hn hx hdp
  split
  · exact remove_any B p A n k L x c w hD hB
  split
  · exact move_any B p A n k L x c w hD hB hc hdp
  split
  · exact style_any B p A n k L x c w hD hc
  · exact text_any B p A n k L x c w hD hc
theorem zeroChg_ok : (⟨0, 0, 0, 0, zeroNode⟩ : Chg).cells = (⟨0, 0, 0, 0, zeroNode⟩ : Chg).cells := rfl
theorem bigC : Big Try.prog 34 55 (⟨0, 0, 0, 0, zeroNode⟩ : Chg).cells := ⟨⟨_, Try.underlying34, rfl⟩, by kernel_rfl, by kernel_rfl⟩
/-- Apply's four boxes. -/
theorem boxes4 (w : World) (v : Value) (x : Int) (c : Chg) : ∃ W, (((w.alloc (.cells #[v, .int .i64 x] 24)).alloc (.cells c.cells 34)).alloc (.cells #[.slice none 0 0, .int .i64 0] 24)).alloc (.cells #[.int .i64 0] 37) = W ∧
    Two W w.heap.size 24 v (.int .i64 x) ∧ Row W (w.heap.size + 1) 34 c.cells ∧ Two W (w.heap.size + 1 + 1) 24 (.slice none 0 0) (.int .i64 0) ∧ Row W (w.heap.size + 1 + 1 + 1) 37 #[.int .i64 0] ∧ w.grownBy W none := by
  refine ⟨_, rfl, ?_, ?_, ?_, ?_, ?_⟩
  · exact (((Two.new w _ _ _).kept (World.grownBy_alloc _ _ none) (by simp)).kept (World.grownBy_alloc _ _ none) (by simp)).kept (World.grownBy_alloc _ _ none) (by simp)
  · have := ((Row.new (w.alloc (.cells #[v, .int .i64 x] 24)) 34 c.cells).kept0 (World.grownBy_alloc _ (.cells #[.slice none 0 0, .int .i64 0] 24) none)).kept0 (World.grownBy_alloc _ (.cells #[.int .i64 0] 37) none)
    rwa [World.size_alloc] at this
  · have := (Two.new ((w.alloc (.cells #[v, .int .i64 x] 24)).alloc (.cells c.cells 34)) 24 (.slice none 0 0) (.int .i64 0)).kept (World.grownBy_alloc _ (.cells #[.int .i64 0] 37) none) (by simp)
    rwa [World.size_alloc, World.size_alloc] at this
  · have := Row.new (((w.alloc (.cells #[v, .int .i64 x] 24)).alloc (.cells c.cells 34)).alloc (.cells #[.slice none 0 0, .int .i64 0] 24)) 37 #[.int .i64 0]
    rwa [World.size_alloc, World.size_alloc, World.size_alloc] at this
  · exact grown_trans (World.grownBy_alloc _ _ _) (grown_trans (World.grownBy_alloc _ _ _) (grown_trans (World.grownBy_alloc _ _ _) (World.grownBy_alloc _ _ _)))
end Go.Proofs.Ytjnbfgogmhfbiaa
/- The mutations: Apply. -/
namespace Go.Proofs.Ytjnbfgogmhfbiaa
open Go Go.RowKit
/-- What Apply answers. -/
def Answers (res : Except Int (List (List Value) × Int)) (w : World) (r : Ending) (w' : World) : Prop :=
  match res with
  | .error e => r = .returned (.tuple #[.agg #[.slice none 0 0, .int .i64 0], .int .i64 e])
  | .ok (L', x') => ∃ A n k, r = .returned (.tuple #[.agg #[.slice A n k, .int .i64 x'], .int .i64 0]) ∧ Own w' w.heap.size 32 51 A n k L'.flatten ∧ L'.length = n ∧ ∀ y ∈ L', OkAll nodeLs y
def ApplyPost (L : List (List Value)) (x : Int) (c : Chg) (w : World) (r : Ending) (w' : World) : Prop :=
  (∃ res, Applies L x c res ∧ Answers res w r w') ∧ w.grownBy w' none
set_option maxRecDepth 100000 in
set_option maxHeartbeats 4000000 in
theorem apply_any (A : Option Addr) (n k : Nat) (x : Int) (L : List (List Value)) (c : Chg) (w : World) (hN : NodesAt w w.heap.size A n L) (hsm : ∀ i, i < n → lenN (nd L i) ≤ 5000) (hc : c.ok) (hcy : lenN c.y ≤ 5000) :
    Calls Try.prog 10 #[.agg #[.slice A n k, .int .i64 x], .agg c.cells] w (ApplyPost L x c w) := by
  have hmf : ∀ (fn : Fn) (first cap : Array Value) (w : World), (Instr.makeFunc fn first cap).run Try.prog w = .ok (.func fn first cap) w := fun _ _ _ _ => rfl
  obtain ⟨W0, hW0, bD, rC, bO, rE, hg0⟩ := boxes4 w (.slice A n k) x c
  have hW0' := Lib.hid hW0
  have CM := Lib.hid (may7_any A n k x L W0 (hN.grow hg0) hsm)
  have hN' := Lib.hid hN
  have hsm' := Lib.hid hsm
  have hc' := Lib.hid hc
  have hcy' := Lib.hid hcy
  have hn := hN.few
  have hlen := Lib.hid hN.len
  have c0 := bD.c0
  have c1 := bD.c1
  have bO' := Lib.hid bO
  have rC' := Lib.hid rC
  have rE' := Lib.hid rE
  have hg0' := Lib.hid hg0
  have bD' := Lib.hid bD
  clear hW0 hN hsm hc hcy bO rC rE bD
  generalize hcs : c.cells = cs at hW0'
  go_enter_defers Try.func10, Try.ntmps10
  go_wp2_with fail
  rw [hW0'.out]
  have hpp := Lib.hid (show (w.heap.size + 1 + 1 ≠ w.heap.size + 1 + 1 + 1 ∧ w.heap.size ≤ w.heap.size + 1 + 1 ∧ w.heap.size ≤ w.heap.size + 1 + 1 + 1) ∧ w.heap.size + 1 + 1 < W0.heap.size ∧ w.heap.size + 1 + 1 + 1 < W0.heap.size from ⟨by omega, by have := rE'.out.lt; omega, rE'.out.lt⟩)
  have hpp3 := Lib.hid (show w.heap.size + 1 ≠ w.heap.size + 1 + 1 by omega)
  generalize w.heap.size + 1 + 1 + 1 = pe at *
  generalize w.heap.size + 1 + 1 = po at *
  generalize w.heap.size + 1 = pc at *
  refine CM.out.mono ?_; rintro r w1 ⟨⟨b, rfl, hb⟩, hg1⟩
  clear c0 c1 CM
  have bO1 := bO'.out.kept hg1 (by simp)
  have rE1 := rE'.out.kept0 hg1
  have bD1 := bD'.out.kept hg1 (by simp)
  have rC1 := rC'.out.kept0 hg1
  replace hg1 := grown_trans hg0'.out hg1
  cases b with
  | false =>
    have hno : ¬ MayL L x := fun h => by have := hb.2 h; cases this
    have hno' := Lib.hid hno
    have d0 := bO1.c0
    have d1 := bO1.c1
    have f0 := bO1.f 0
    have f1 := bO1.f 1
    have e0 : w1.cell? ⟨pe, 0, none⟩ = some (.int .i64 0) := rE1.at 0
    have fe := rE1.free 0
    obtain ⟨⟨h1, h2, h3⟩, h4, h5⟩ := hpp.out
    have h1' := Ne.symm h1
    clear hb hno
    go_wp2_with fail
    have x0 := (((bO1.s0 (.slice none 0 0)).s1 (.int .i64 0)).other (k := 0) h1 (.int .i64 50))
    have x1 := ((rE1.keptNe (grownBy_setCell w1 po 0 (.slice none 0 0)) (Ne.symm h1)).keptNe (grownBy_setCell _ po 1 (.int .i64 0)) (Ne.symm h1)).set 0 (.int .i64 50)
    have hgF := grown_put (grown_put (grown_put hg1 h2 0 (.slice none 0 0)) h2 1 (.int .i64 0)) h3 0 (.int .i64 50)
    generalize ((w1.setCell ⟨po, 0, none⟩ (.slice none 0 0)).setCell ⟨po, 1, none⟩ (.int .i64 0)).setCell ⟨pe, 0, none⟩ (.int .i64 50) = w5 at *
    have y0 := x0.c0
    have y1 := x0.c1
    have y2 : w5.cell? ⟨pe, 0, none⟩ = some (.int .i64 50) := x1.at 0
    refine ⟨.tuple #[.agg #[.slice none 0 0, .int .i64 0], .int .i64 50], by simp [results, Try.results10, go_sem, y0, y1, y2], ⟨.error 50, .inl ⟨hno'.out, rfl⟩, rfl⟩, hgF⟩
  | true =>
    have hM := Lib.hid (hb.1 rfl)
    clear hb
    have hfail : ∀ (e : Int) (W : World), w.grownBy W none → (∃ u v, Two W po 24 u v) → Row W pe 37 #[.int .i64 0] → Applies L x c (.error e) → ∀ tmps : Array Value, tmps[4]? = some (.pointer (some ⟨po, 0, none⟩)) → tmps[5]? = some (.pointer (some ⟨pe, 0, none⟩)) →
        Leaves Try.prog Try.f10 tmps (ApplyPost L x c w) [{ target := .fn (.func 22) #[.pointer (some ⟨po, 0, none⟩), .pointer (some ⟨pe, 0, none⟩)], args := #[] }] (.panicking [{ v := wrongV e, recovered := false }]) W := fun e W hg hO hE hA tmps h4 h5 => by
      obtain ⟨u, v, hO⟩ := hO
      obtain ⟨⟨h1, h2, h3⟩, _, _⟩ := hpp.out
      refine leaves_cons (f := 22) (args := #[.pointer (some ⟨po, 0, none⟩), .pointer (some ⟨pe, 0, none⟩)]) (by simp) (by simp [go_sem]) ?_
      refine (catch_wrong po pe e 0 u v W hO hE h1).mono ?_
      rintro r u' w'' ⟨rfl, rfl, P1, P2, hG⟩
      have y0 := P1.c0
      have y1 := P1.c1
      have y2 : w''.cell? ⟨pe, 0, none⟩ = some (.int .i64 e) := P2.at 0
      refine ⟨.tuple #[.agg #[.slice none 0 0, .int .i64 0], .int .i64 e], by simp [results, Try.results10, go_sem, y0, y1, y2, h4, h5], ⟨.error e, hA, rfl⟩, hG w hg h2 h3⟩
    have e6 : w1.cell? ⟨pc, 0, none⟩ = some (.int .u8 c.kd) := (rC1.at 0).trans Chg.c0
    by_cases hk : 1 ≤ c.kd ∧ c.kd ≤ 5
    · obtain ⟨f1n, f2n, hx, hdp⟩ := hM.out.facts
      have hLn := hlen.out
      have d1 : decide (1 ≤ c.kd) = true := decide_eq_true hk.1
      have d2 : decide (c.kd ≤ 5) = true := decide_eq_true hk.2
      have hfl := Lib.hid hfail
      have hk' := Lib.hid hk
      clear hk hfail
      go_wp2_with fail
      refine (must_yes 70 w1).mono ?_; rintro r w2 ⟨rfl, rfl⟩
      have t0 := bD1.c0
      have t1 := bD1.c1
      have CC := Lib.hid (copy_any A n k L x w2 w.heap.size hN'.out.ok hlen.out (hN'.out.reads.grown0 hg1) (by omega))
      clear d1 d2
      go_wp2_with fail
      refine CC.out.mono ?_; rintro r w3 ⟨A2, k2, rfl, hown, hg3⟩
      clear t0 t1 CC
      have bO3 := bO1.kept hg3 (by simp)
      have rE3 := rE1.kept0 hg3
      have rC3 := rC1.kept0 hg3
      have hszw := hg1.size
      have hrow := hown.row_ge
      have hg3w := grown_trans hg1 hg3
      have t0 := bO3.c0
      have t1 := bO3.c1
      have t2 := bO3.f 0
      have t3 := bO3.f 1
      have hDpo : DocAt ((w3.setCell ⟨po, 0, none⟩ (.slice A2 n k2)).setCell ⟨po, 1, none⟩ (.int .i64 x)) w.heap.size po A2 n k2 L x :=
        ⟨(bO3.s0 _).s1 _, ((hown.base_ hszw).kept_ (grownBy_setCell _ _ _ _) bO3 (by decide)).kept_ (grownBy_setCell _ _ _ _) (bO3.s0 _) (by decide), hN'.out.ok, by omega⟩
      obtain ⟨⟨h1, h2, h3⟩, h4, h5⟩ := hpp.out
      have rE4 := (rE3.keptNe (grownBy_setCell w3 po 0 (.slice A2 n k2)) (Ne.symm h1)).keptNe (grownBy_setCell _ po 1 (.int .i64 x)) (Ne.symm h1)
      have hpc := Lib.hid hpp3.out
      have rC4 := (rC3.keptNe (grownBy_setCell w3 po 0 (.slice A2 n k2)) hpc.out).keptNe (grownBy_setCell _ po 1 (.int .i64 x)) hpc.out
      have hg4 := grown_put (grown_put hg3w h2 0 (.slice A2 n k2)) h2 1 (.int .i64 x)
      have hpl := rE1.lt
      have hfar := Lib.hid (show some pe ≠ rowOf A2 k2 ∧ ∀ g, rowOf A2 k2 = some g → w.heap.size ≤ g from ⟨fun e => by have := (hrow pe e.symm).1; omega, fun g e => by have := (hrow g e).1; omega⟩)
      have hDpo' := Lib.hid hDpo
      have rE4' := Lib.hid rE4
      have rC4' := Lib.hid rC4
      have hg4' := Lib.hid hg4
      clear bO1 rE1 bD1 rC1 bO3 rE3 rC3 hown hg3 hg3w hrow hszw hDpo rE4 rC4 hg4 e6 hpl
      go_wp2_with fail
      clear t0 t1 t2 t3
      generalize (w3.setCell ⟨po, 0, none⟩ (.slice A2 n k2)).setCell ⟨po, 1, none⟩ (.int .i64 x) = w4 at *
      refine wp_region_held (S := fun _ => True) (by kernel_rfl) ?_
      refine Grow.wpAnyH_from (w0 := w4.drew) [] [0, 1, 2, 3, 4] #[true, true, true, true, true, false] [(some 22, 0), (some 23, 1), (some 24, 2), (some 25, 3), (some 26, 4)] 1 (TG (fun j lo => match j with | 0 => .agg doers | 1 => .pointer (some ⟨pc, 0, none⟩) | 2 => .int .u8 c.kd | 3 => .func (.func (doer c.kd)) #[] #[] | _ => .agg cs) (fun _ => none)) (by kernel_rfl) (by kernel_rfl) (by kernel_rfl) (by decide) (by kernel_rfl) (by kernel_rfl) (by kernel_rfl) (fun _ _ => trivial) (TG.mono _ _) ?_ ?_
      · refine Grow.StepsD.cons [] [] rfl (by kernel_rfl) (by kernel_rfl) (fun vs lo up W hg hT K hK => ?_) ?_
        · simp only [Grow.putL] at hK ⊢
          go_simp
          refine (doing_any W).mono ?_; rintro r V ⟨rfl, hgx⟩
          exact hK _ _ hgx (TG.plain rfl rfl)
        refine Grow.StepsD.cons [] [] rfl (by kernel_rfl) (by kernel_rfl) (fun vs lo up W hg hT K hK => ?_) ?_
        · simp only [Grow.putL] at hK ⊢
          go_simp
          exact hK _ _ (World.grownBy.refl _ _) (TG.plain rfl rfl)
        refine Grow.StepsD.cons [1] [(some 23, 1)] rfl (by kernel_rfl) (by kernel_rfl) (fun vs lo up W hg hT K hK => ?_) ?_
        · have t1 : vs 1 = .pointer (some ⟨pc, 0, none⟩) := hT.1
          have e6 : W.cell? ⟨pc, 0, none⟩ = some (.int .u8 c.kd) := ((rC4'.out.kept0 (grown_undrew hg)).at 0).trans Chg.c0
          simp only [Grow.putL, t1] at hK ⊢
          go_simp
          exact hK _ _ (World.grownBy.refl _ _) (TG.plain rfl rfl)
        refine Grow.StepsD.cons [0, 2] [(some 22, 0), (some 24, 2)] rfl (by kernel_rfl) (by kernel_rfl) (fun vs lo up W hg hT K hK => ?_) ?_
        · have t0 : vs 0 = .agg doers := hT.1.1
          have t2 : vs 2 = .int .u8 c.kd := hT.2.1
          have hrd := run_doer hk'.out W
          simp only [Grow.putL, t0, t2] at hK ⊢
          go_simp
          exact hK _ _ (World.grownBy.refl _ _) (TG.plain rfl rfl)
        refine Grow.StepsD.cons [] [] rfl (by kernel_rfl) (by kernel_rfl) (fun vs lo up W hg hT K hK => ?_) Grow.StepsD.nil
        · have hrW := rC4'.out.kept0 (grown_undrew hg)
          rw [hcs] at hrW
          simp only [Grow.putL] at hK ⊢
          refine wp_value (exec_load_row bigC (x := .tmp 3) rfl (by kernel_rfl) W hrW (by rw [← hcs]; exact Chg.size hc'.out)) ?_
          exact hK _ _ (World.grownBy.refl _ _) (TG.plain rfl rfl)
      intro vs lo up V hgV hT hbb hap
      have hgW := grown_undrew hgV
      obtain ⟨t0, t1, t2, t3, t4⟩ := hT
      have q0 : vs 0 = .agg doers := t0.1
      have q1 : vs 1 = .pointer (some ⟨pc, 0, none⟩) := t1.1
      have q2 : vs 2 = .int .u8 c.kd := t2.1
      have q3 : vs 3 = .func (.func (doer c.kd)) #[] #[] := t3.1
      have q4 : vs 4 = .agg cs := t4.1
      simp only [Grow.putL, q0, q1, q2, q3, q4, Act.put, List.getElem_toArray, List.getElem_cons_succ, List.getElem_cons_zero, List.setIfInBounds_toArray, List.set_cons_zero, List.set_cons_succ]
      clear hbb hap q0 q1 q2 q3 q4 t0 t1 t2 t3 t4 hgV
      have DV := hDpo'.out.grown hgW
      have rEV := rE4'.out.kept0 hgW
      have hgwV := grown_trans hg4'.out hgW
      have CO := Lib.hid (op_any w.heap.size po A2 n k2 L x c V DV hgwV.size hc'.out (by omega) hx (fun i hi => by have := hdp i (by omega); omega) hk'.out)
      rw [hcs] at CO
      have rEV' := Lib.hid rEV
      have hgwV' := Lib.hid hgwV
      clear DV rEV hgW hgwV
      refine wpAnyH_ready (rs := [5]) (by kernel_rfl) (by simp) ?_
      refine AllReadyH.cons rfl (fun K hK => ?_) AllReadyH.nil
      have hcl := fun args W => call_doer hk'.out args W
      go_simp
      clear hcl
      refine CO.out.mono ?_; intro r w6 hres
      have hM6 : Mut V w6 po (rowOf A2 k2) := by
        unfold OpPost at hres
        split at hres
        · exact hres.2.2
        · exact hres.2.2
      have rE6 := hM6.row rEV'.out (Ne.symm h1) hfar.out.1
      have hg6 := hM6.toGrown hgwV'.out h2 hfar.out.2
      cases hop : opL L x c with
      | error e =>
        rw [hop] at hres
        obtain ⟨rfl, hO, _⟩ := hres
        exact hfl.out e _ hg6 hO rE6 (.inr (.inr (.inl ⟨hM.out, hk'.out, hop⟩))) _ rfl rfl
      | ok res =>
        obtain ⟨L', x'⟩ := res
        rw [hop] at hres
        obtain ⟨rfl, ⟨A6, n6, k6, D6⟩, _⟩ := hres
        have hop' := Lib.hid hop
        have D6' := Lib.hid D6
        have rE6' := Lib.hid rE6
        have hg6' := Lib.hid hg6
        have hsm6 := opL_len hN'.out.ok hc'.out hop (fun y hy => by
          obtain ⟨i, hi, rfl⟩ := List.mem_iff_getElem.1 hy
          have := hsm'.out i (by omega)
          rwa [nd_some (List.getElem?_eq_getElem hi)] at this) hcy'.out
        have CM6 := Lib.hid (may7_any A6 n6 k6 x' L' w6 D6.nodes (fun i hi => hsm6 _ (List.mem_of_getElem? (nd_get (by rw [D6.len]; exact hi)))))
        obtain ⟨t0, t1⟩ := D6.cells
        refine hK.out _ _ trivial (fun _ => ?_)
        clear hK K
        refine wpAnyH_done (by kernel_rfl) ?_ _
        clear hop D6 rE6 hg6 hM6 CO hsm6
        go_wp2_with fail
        refine CM6.out.mono ?_; rintro r w7 ⟨⟨b, rfl, hb⟩, hg7⟩
        clear t0 t1 CM6
        have D7 := D6'.out.grown hg7
        have rE7 := rE6'.out.kept0 hg7
        have hg7w := grown_trans hg6'.out hg7
        cases b with
        | false =>
          have hno : ¬ MayL L' x' := fun h => by have := hb.2 h; cases this
          have hno' := Lib.hid hno
          clear hb hno
          go_wp2_with fail
          refine (must_no 4 w7).mono ?_; rintro r w8 ⟨rfl, rfl⟩
          exact hfl.out 4 _ hg7w ⟨_, _, D7.two⟩ rE7 (.inr (.inr (.inr ⟨hM.out, hk'.out, ⟨L', x', hop'.out, hno'.out⟩, rfl⟩))) _ rfl rfl
        | true =>
          have hyes := Lib.hid (hb.1 rfl)
          clear hb
          go_wp2_with fail
          refine (must_yes 4 w7).mono ?_; rintro r w8 ⟨rfl, rfl⟩
          obtain ⟨t0, t1⟩ := D7.cells
          have t2 := D7.two.f 0
          have t3 := D7.two.f 1
          have e0 : w8.cell? ⟨pe, 0, none⟩ = some (.int .i64 0) := rE7.at 0
          have fe := rE7.free 0
          have h1' := Ne.symm h1
          have D7' := Lib.hid D7
          have rE7' := Lib.hid rE7
          clear D7 rE7
          go_wp2_with fail
          have x0 := ((D7'.out.two.s0 (.slice A6 n6 k6)).s1 (.int .i64 x')).other (k := 0) h1 (.int .i64 0)
          have x1 := ((rE7'.out.keptNe (grownBy_setCell w8 po 0 (.slice A6 n6 k6)) h1').keptNe (grownBy_setCell _ po 1 (.int .i64 x')) h1').set 0 (.int .i64 0)
          have ho := ((D7'.out.own.kept_ (grownBy_setCell w8 po 0 (.slice A6 n6 k6)) D7'.out.two (by decide)).kept_ (grownBy_setCell _ po 1 (.int .i64 x')) (D7'.out.two.s0 _) (by decide)).kept_ (grownBy_setCell _ pe 0 (.int .i64 0)) ((rE7'.out.keptNe (grownBy_setCell w8 po 0 (.slice A6 n6 k6)) h1').keptNe (grownBy_setCell _ po 1 (.int .i64 x')) h1') (by decide)
          have hgF := grown_put (grown_put (grown_put hg7w h2 0 (.slice A6 n6 k6)) h2 1 (.int .i64 x')) h3 0 (.int .i64 0)
          clear t0 t1 t2 t3 e0 fe
          generalize ((w8.setCell ⟨po, 0, none⟩ (.slice A6 n6 k6)).setCell ⟨po, 1, none⟩ (.int .i64 x')).setCell ⟨pe, 0, none⟩ (.int .i64 0) = w9 at *
          refine leaves_cons (f := 22) (args := #[.pointer (some ⟨po, 0, none⟩), .pointer (some ⟨pe, 0, none⟩)]) (by simp) (by simp [go_sem]) ?_
          refine (catch_idle po pe w9).mono ?_
          rintro r u' w'' ⟨rfl, rfl, rfl⟩
          have y0 := x0.c0
          have y1 := x0.c1
          have y2 : w''.cell? ⟨pe, 0, none⟩ = some (.int .i64 0) := x1.at 0
          refine ⟨.tuple #[.agg #[.slice A6 n6 k6, .int .i64 x'], .int .i64 0], by simp [results, Try.results10, go_sem, y0, y1, y2], ⟨.ok (L', x'), ⟨hM.out, hk'.out, hop'.out, hyes.out⟩, A6, n6, k6, rfl, ho, D6'.out.len, D6'.out.ok⟩, hgF⟩
    · have hfl := Lib.hid hfail
      have hk' := Lib.hid hk
      rcases (by have := hc'.out.kd; omega : c.kd < 1 ∨ (1 ≤ c.kd ∧ 5 < c.kd)) with h | ⟨h, h'⟩
      · have d1 : decide (1 ≤ c.kd) = false := decide_eq_false (by omega)
        clear hk h hfail
        go_wp2_with fail
        refine (must_no 70 w1).mono ?_; rintro r w2 ⟨rfl, rfl⟩
        exact hfl.out 70 _ hg1 ⟨_, _, bO1⟩ rE1 (.inr (.inl ⟨hM.out, hk'.out, rfl⟩)) _ rfl rfl
      · have d1 : decide (1 ≤ c.kd) = true := decide_eq_true (by omega)
        have d2 : decide (c.kd ≤ 5) = false := decide_eq_false (by omega)
        clear hk h h' hfail
        go_wp2_with fail
        refine (must_no 70 w1).mono ?_; rintro r w2 ⟨rfl, rfl⟩
        exact hfl.out 70 _ hg1 ⟨_, _, bO1⟩ rE1 (.inr (.inl ⟨hM.out, hk'.out, rfl⟩)) _ rfl rfl
end Go.Proofs.Ytjnbfgogmhfbiaa
/- The law's guards: Great, great. -/
namespace Go.Proofs.Ytjnbfgogmhfbiaa
open Go Go.RowKit
def GreatPost (L : List (List Value)) (n : Nat) (w : World) (e : Ending) (w' : World) : Prop := ∃ b : Bool, e = .returned (.bool b) ∧ (b = false → n ≤ 320 ∧ total L ≤ 5000) ∧ w.grownBy w' none
set_option maxHeartbeats 1000000 in
theorem great_any (A : Option Addr) (n c : Nat) (L : List (List Value)) (x : Int) (w : World) (hL : ∀ y ∈ L, OkAll nodeLs y) (hl : L.length = n) (hr : Reads w w.heap.size A L.flatten) (hn : n ≤ 9223372036854775807) :
    Calls Try.prog 21 #[.agg #[.slice A n c, .int .i64 x]] w (GreatPost L n w) := by
  have hg0 := World.grownBy_alloc w (.cells #[.slice A n c, .int .i64 x] 24) none
  have HC := Lib.hid (fun k (hk : k < n) W (hg : w.grownBy W none) => nodes_cell hL (hr.grown0 hg) (i := k) (by omega))
  have hg0' := Lib.hid hg0
  have hl' := Lib.hid hl
  have b1 := Two.new w 24 (.slice A n c) (.int .i64 x)
  have c0 := b1.c0
  clear hL hr hl hg0 b1
  by_cases hn3 : n ≤ 320
  · have d0 : decide ((320 : Int) < (n : Int)) = false := by simp; omega
    go_enter Try.func21, Try.ntmps21
    go_wp2_with fail
    go_loop [3, 4] (fun v i => ∃ (k : Nat) (t : Nat), k ≤ n ∧ t = total (L.take k) ∧ t ≤ 5000 ∧ i = .int .i64 k ∧ v = .int .i64 ((5000 : Int) - t)) (fun _ i => n - (intOf i).toNat)
    case atStart => exact ⟨0, 0, by omega, by simp [total], by omega, rfl, rfl⟩
    case round =>
      obtain ⟨k, t, hk, ht, ht5, rfl, rfl⟩ := hrel
      have ht' := Lib.hid ht
      clear ht
      by_cases hlt : k < n
      · obtain ⟨ad, y, rfl, _, hy, hok, hcl⟩ := HC.out k hlt _ hg0'.out
        obtain ⟨s, hs, hsz, hsb⟩ := n_text hok
        have hc := hcl 50 (by omega)
        rw [hs, add_pos _ _ (by omega)] at hc
        have htt := Lib.hid (total_take L k (by have := hl'.out; omega))
        rw [nd_some hy] at htt
        have hsz' := Lib.hid hsz
        have hsb2 : s.size ≤ 9223372036854775807 := by omega
        clear hcl hy hok hs hsz hsb
        by_cases hbig : (5000 : Int) - t < (s.size : Int)
        · have d1 : decide ((5000 : Int) - t < (s.size : Int)) = true := decide_eq_true hbig
          go_wp2_with fail
          go_ret
          exact ⟨true, rfl, fun h => (by cases h), hg0'.out⟩
        · have d1 : decide ((5000 : Int) - t < (s.size : Int)) = false := decide_eq_false hbig
          have hsm : s.size ≤ 5000 := by omega
          go_wp2_with fail
          go_round
          case rel => exact ⟨k + 1, t + s.size, by omega, by rw [htt.out, ← hsz'.out, ← ht'.out], by omega, by go_num, by go_num⟩
          case measure => simp [intOf]; omega
      · obtain rfl : k = n := by omega
        go_wp2_with fail
        go_ret
        exact ⟨false, rfl, fun _ => ⟨hn3, by have h1 := ht'.out; rw [List.take_of_length_le (by have := hl'.out; omega)] at h1; omega⟩, hg0'.out⟩
  · have d0 : decide ((320 : Int) < (n : Int)) = true := by simp; omega
    go_enter Try.func21, Try.ntmps21
    go_wp2_with fail
    go_ret
    exact ⟨true, rfl, fun h => (by cases h), hg0'.out⟩
theorem len_total {L : List (List Value)} {i : Nat} (hi : i < L.length) : lenN (nd L i) ≤ total L := by
  have h1 := total_take L i hi
  have h2 := total_append (L.take (i + 1)) (L.drop (i + 1))
  rw [List.take_append_drop] at h2
  omega
/-- A value is another one: numbers, truths. -/
def sameV : Value → Value → Bool
  | .int k n, .int k' n' => decide (k = k') && decide (n = n')
  | .bool b, .bool b' => b == b'
  | _, _ => false
theorem sameV_eq {a b : Value} (h : sameV a b = true) : a = b := by
  cases a <;> cases b <;> simp only [sameV, Bool.and_eq_true, decide_eq_true_eq, beq_iff_eq, Bool.false_eq_true] at h
  · rw [h]
  · rw [h.1, h.2]
def sameL : List Value → List Value → Bool
  | [], [] => true
  | a :: r, b :: s => sameV a b && sameL r s
  | _, _ => false
theorem sameL_eq : ∀ {x y : List Value}, sameL x y = true → x = y
  | [], [], _ => rfl
  | [], _ :: _, h => by simp [sameL] at h
  | _ :: _, [], h => by simp [sameL] at h
  | a :: r, b :: s, h => by
    simp only [sameL, Bool.and_eq_true] at h
    rw [sameV_eq h.1, sameL_eq h.2]
def fitsB (x : List Value) (nx : Int) : Bool :=
  decide (1 ≤ keyN x) && (decide (keyN x < nx) && (decide (0 ≤ depN x) && (decide (depN x < 16) && ((decide (kindN x = 0) && decide (lenN x = 0)) || (decide (kindN x = 1) && (sameL (styN x) zeroSty && decide (lenN x ≤ 200)))))))
theorem fitsB_spec {x : List Value} {nx : Int} (h : fitsB x nx = true) : Fits x nx := by
  simp only [fitsB, Bool.and_eq_true, Bool.or_eq_true, decide_eq_true_eq] at h
  exact ⟨h.1, h.2.1, h.2.2.1, h.2.2.2.1, h.2.2.2.2.imp id (fun h => ⟨h.1, sameL_eq h.2.1, h.2.2⟩)⟩
def goodB (L : List (List Value)) (nx : Int) (i : Nat) : Bool :=
  fitsB (nd L i) nx && ((List.range i).all (fun k => decide (keyN (nd L k) ≠ keyN (nd L i))) && (if i = 0 then decide (depN (nd L i) = 0) else
    decide (1 ≤ depN (nd L i)) && (decide (depN (nd L i) ≤ depN (nd L (i - 1)) + 1) && (!decide (depN (nd L (i - 1)) < depN (nd L i)) || decide (kindN (nd L (i - 1)) ≠ 1)))))
theorem goodB_spec {L : List (List Value)} {nx : Int} {i : Nat} (h : goodB L nx i = true) : Good L nx i := by
  simp only [goodB, Bool.and_eq_true, List.all_eq_true, List.mem_range, decide_eq_true_eq] at h
  obtain ⟨h1, h2, h3⟩ := h
  refine ⟨fitsB_spec h1, h2, fun h0 => ?_, fun h0 => ?_⟩
  · rw [if_pos h0] at h3
    simpa using h3
  · rw [if_neg (by omega)] at h3
    simp only [Bool.and_eq_true, Bool.or_eq_true, decide_eq_true_eq, Bool.not_eq_true', decide_eq_false_iff_not] at h3
    exact ⟨h3.1, h3.2.1, fun h4 => h3.2.2.resolve_left (fun h5 => h5 h4)⟩
def mayLB (L : List (List Value)) (nx : Int) : Bool :=
  decide (1 ≤ L.length) && (decide (L.length ≤ 300) && (decide (nx ≤ 1073741825) && ((List.range L.length).all (goodB L nx) && (decide (kindN (nd L 0) = 0) && (decide (total L ≤ 1500) && flexGo (fun _ => 0) L)))))
theorem mayLB_spec {L : List (List Value)} {nx : Int} (h : mayLB L nx = true) : MayL L nx := by
  simp only [mayLB, Bool.and_eq_true, List.all_eq_true, List.mem_range, decide_eq_true_eq] at h
  obtain ⟨h1, h2, h3, h4, h5, h6, h7⟩ := h
  exact ⟨⟨h1, h2, h3, fun i hi => goodB_spec (h4 i hi), h5, h6⟩, h7⟩
def mkN (k d : Int) : List Value := (zeroNode.set 0 (.int .i64 k)).set 1 (.int .i64 d)
def fourL : List (List Value) := [mkN 1 0, mkN 2 1, mkN 3 2, mkN 4 1]
theorem four_ok : ∀ y ∈ fourL, OkAll nodeLs y := fun y hy => by
  simp only [fourL, List.mem_cons, List.not_mem_nil, or_false] at hy
  rcases hy with rfl | rfl | rfl | rfl <;> exact okB_ok _ _ (by decide +kernel)
theorem four_may : MayL fourL 5 := mayLB_spec (by decide +kernel)
theorem none_may : ¬ MayL [] 0 := fun h => by have := h.1.1; simp at this
theorem applies_uniq {L : List (List Value)} {x : Int} {c : Chg} {a b : Except Int (List (List Value) × Int)} (ha : Applies L x c a) (hb : Applies L x c b) : a = b := by
  cases a with
  | error e =>
    cases b with
    | error e' =>
      rcases ha with ⟨h1, rfl⟩ | ⟨h1, h2, rfl⟩ | ⟨h1, h2, h3⟩ | ⟨h1, h2, ⟨L1, x1, h3, h4⟩, rfl⟩ <;> rcases hb with ⟨k1, rfl⟩ | ⟨k1, k2, rfl⟩ | ⟨k1, k2, k3⟩ | ⟨k1, k2, ⟨L2, x2, k3, k4⟩, rfl⟩ <;> first | rfl | exact absurd h1 k1 | exact absurd k1 h1 | exact absurd h2 k2 | exact absurd k2 h2 | (rw [h3] at k3; cases k3; rfl) | (rw [h3] at k3; cases k3)
    | ok v =>
      obtain ⟨L', x'⟩ := v
      obtain ⟨k1, k2, k3, k4⟩ := hb
      rcases ha with ⟨h1, rfl⟩ | ⟨h1, h2, rfl⟩ | ⟨h1, h2, h3⟩ | ⟨h1, h2, ⟨L1, x1, h3, h4⟩, rfl⟩
      · exact absurd k1 h1
      · exact absurd k2 h2
      · rw [h3] at k3; cases k3
      · rw [h3] at k3; cases k3; exact absurd k4 h4
  | ok v =>
    obtain ⟨L', x'⟩ := v
    obtain ⟨h1, h2, h3, h4⟩ := ha
    cases b with
    | error e' =>
      rcases hb with ⟨k1, rfl⟩ | ⟨k1, k2, rfl⟩ | ⟨k1, k2, k3⟩ | ⟨k1, k2, ⟨L2, x2, k3, k4⟩, rfl⟩
      · exact absurd h1 k1
      · exact absurd h2 k2
      · rw [h3] at k3; cases k3
      · rw [h3] at k3; cases k3; exact absurd h4 k4
    | ok v' =>
      obtain ⟨L2, x2⟩ := v'
      obtain ⟨k1, k2, k3, k4⟩ := hb
      rw [h3] at k3
      cases k3
      rfl
theorem apply_ok {A : Option Addr} {n k : Nat} {x x' : Int} {L L' : List (List Value)} {c : Chg} {w : World} (hN : NodesAt w w.heap.size A n L) (hsm : ∀ i, i < n → lenN (nd L i) ≤ 5000) (hc : c.ok) (hcy : lenN c.y ≤ 5000) (h : Applies L x c (.ok (L', x'))) (hL' : L'.length ≤ 1000) :
    Calls Try.prog 10 #[.agg #[.slice A n k, .int .i64 x], .agg c.cells] w fun r w' => ∃ A' k', r = .returned (.tuple #[.agg #[.slice A' L'.length k', .int .i64 x'], .int .i64 0]) ∧ NodesAt w' w'.heap.size A' L'.length L' ∧ w.grownBy w' none :=
  (apply_any A n k x L c w hN hsm hc hcy).mono fun r w' hh => by
    obtain ⟨⟨res, h1, h2⟩, hg⟩ := hh
    rw [applies_uniq h1 h] at h2
    obtain ⟨A', n', k', h3, h4, rfl, h6⟩ := h2
    exact ⟨A', k', h3, ⟨h6, rfl, h4.reads, hL'⟩, hg⟩
theorem apply_err {A : Option Addr} {n k : Nat} {x e : Int} {L : List (List Value)} {c : Chg} {w : World} (hN : NodesAt w w.heap.size A n L) (hsm : ∀ i, i < n → lenN (nd L i) ≤ 5000) (hc : c.ok) (hcy : lenN c.y ≤ 5000) (h : Applies L x c (.error e)) :
    Calls Try.prog 10 #[.agg #[.slice A n k, .int .i64 x], .agg c.cells] w fun r w' => r = .returned (.tuple #[.agg #[.slice none 0 0, .int .i64 0], .int .i64 e]) ∧ w.grownBy w' none :=
  (apply_any A n k x L c w hN hsm hc hcy).mono fun r w' hh => by
    obtain ⟨⟨res, h1, h2⟩, hg⟩ := hh
    rw [applies_uniq h1 h] at h2
    exact ⟨h2, hg⟩
theorem may_ok {A : Option Addr} {n k : Nat} {x : Int} {L : List (List Value)} {w : World} (hN : NodesAt w w.heap.size A n L) (hsm : ∀ i, i < n → lenN (nd L i) ≤ 5000) (h : MayL L x) :
    Calls Try.prog 11 #[.agg #[.slice A n k, .int .i64 x]] w fun r w' => r = .returned (.bool true) ∧ w.grownBy w' none :=
  (may7_any A n k x L w hN hsm).mono fun _ _ ⟨⟨b, h1, h2⟩, hg⟩ => ⟨by rw [h1, h2.2 h], hg⟩
theorem may_not {A : Option Addr} {n k : Nat} {x : Int} {L : List (List Value)} {w : World} (hN : NodesAt w w.heap.size A n L) (hsm : ∀ i, i < n → lenN (nd L i) ≤ 5000) (h : ¬ MayL L x) :
    Calls Try.prog 11 #[.agg #[.slice A n k, .int .i64 x]] w fun r w' => r = .returned (.bool false) ∧ w.grownBy w' none :=
  (may7_any A n k x L w hN hsm).mono fun _ _ ⟨⟨b, h1, h2⟩, hg⟩ => ⟨by
    cases b with
    | false => exact h1
    | true => exact absurd (h2.1 rfl) h, hg⟩
end Go.Proofs.Ytjnbfgogmhfbiaa
/- The law's own functions: four, told, great. -/
namespace Go.Proofs.Ytjnbfgogmhfbiaa
open Go Go.RowKit
theorem run_four (w : World) : (Instr.buildSlice 22 4 #[(0, .agg (mkN 1 0).toArray), (1, .agg (mkN 2 1).toArray), (2, .agg (mkN 3 2).toArray), (3, .agg (mkN 4 1).toArray)]).run Try.prog w = .ok (.slice (some ⟨w.heap.size, 0, none⟩) 4 4) (w.alloc (.cells fourL.flatten.toArray 32)) := by
  obtain ⟨i0, hi0, hz0, hz1, hz2⟩ := info_parts infoN
  refine run_buildSlice w 22 32 4 _ fourL.flatten.toArray i0 _ Try.underlying22 hi0 hz0 (by rw [hz1]; omega) (by rw [hz1]; omega) ?_
  rw [hz1]
  have := Great.fill_whole (s := 51) (by omega) [.agg (mkN 1 0).toArray, .agg (mkN 2 1).toArray, .agg (mkN 3 2).toArray, .agg (mkN 4 1).toArray] ((Array.range (4 * 51)).map ((Value.agg zeroNode.toArray).cells[· % (Value.agg zeroNode.toArray).cells.size]!)) (fun v hv => by
    simp only [List.mem_cons, List.not_mem_nil, or_false] at hv
    rcases hv with rfl | rfl | rfl | rfl <;> rfl) (by simp)
  refine this.trans ?_
  congr 2
set_option maxRecDepth 100000 in
set_option maxHeartbeats 2000000 in
theorem four_any (w : World) :
    Calls Try.prog 19 #[] w fun e w' => e = .returned (.agg #[.slice (some ⟨w.heap.size + 1, 0, none⟩) 4 4, .int .i64 5]) ∧ Own w' w.heap.size 32 51 (some ⟨w.heap.size + 1, 0, none⟩) 4 4 fourL.flatten ∧ w.grownBy w' none := by
  have b1 := (Two.new w 24 (.slice (some ⟨w.heap.size + 1, 0, none⟩) 4 4) (.int .i64 5)).kept (World.grownBy_alloc _ (.cells fourL.flatten.toArray 32) none) (by simp)
  have hg := grown_trans (World.grownBy_alloc w (.cells #[.slice (some ⟨w.heap.size + 1, 0, none⟩) 4 4, .int .i64 5] 24) none) (World.grownBy_alloc _ (.cells fourL.flatten.toArray 32) none)
  have hfl : fourL.flatten.length = 4 * 51 := by rw [nodes_len four_ok]; rfl
  have ho : Own ((w.alloc (.cells #[.slice (some ⟨w.heap.size + 1, 0, none⟩) 4 4, .int .i64 5] 24)).alloc (.cells fourL.flatten.toArray 32)) w.heap.size 32 51 (some ⟨w.heap.size + 1, 0, none⟩) 4 4 fourL.flatten := by
    have h2 := heap_alloc_new (w.alloc (.cells #[.slice (some ⟨w.heap.size + 1, 0, none⟩) 4 4, .int .i64 5] 24)) (.cells fourL.flatten.toArray 32)
    rw [World.size_alloc] at h2
    exact ⟨hfl, by omega, by unfold maxLen; omega, .inr ⟨_, _, rfl, by omega, h2, by rw [List.size_toArray, hfl]; exact Nat.le_refl _, by rw [List.take_of_length_le (by show fourL.flatten.length ≤ 4 * 51; rw [hfl]; exact Nat.le_refl _)]⟩⟩
  have c0 := b1.c0
  have c1 := b1.c1
  have ho' := Lib.hid ho
  have hg' := Lib.hid hg
  clear b1 ho hg hfl
  go_enter Try.func19, Try.ntmps19
  go_wp2_with (first
    | (refine wpList_build (o := ⟨some 1, _, _, _, _, _⟩) rfl (T := 32) rfl (mkN 1 0).toArray (by kernel_rfl) ?_; simp only [Act.put, List.setIfInBounds_toArray, List.set_cons_zero, List.set_cons_succ])
    | (refine wpList_build (o := ⟨some 2, _, _, _, _, _⟩) rfl (T := 32) rfl (mkN 2 1).toArray (by kernel_rfl) ?_; simp only [Act.put, List.setIfInBounds_toArray, List.set_cons_zero, List.set_cons_succ])
    | (refine wpList_build (o := ⟨some 3, _, _, _, _, _⟩) rfl (T := 32) rfl (mkN 3 2).toArray (by kernel_rfl) ?_; simp only [Act.put, List.setIfInBounds_toArray, List.set_cons_zero, List.set_cons_succ])
    | (refine wpList_build (o := ⟨some 4, _, _, _, _, _⟩) rfl (T := 32) rfl (mkN 4 1).toArray (by kernel_rfl) ?_; simp only [Act.put, List.setIfInBounds_toArray, List.set_cons_zero, List.set_cons_succ])
    | (refine wpList_value (o := ⟨some 5, _, _, _, _, _⟩) rfl (exec_buildSlice (parts := #[(0, .agg (mkN 1 0).toArray), (1, .agg (mkN 2 1).toArray), (2, .agg (mkN 3 2).toArray), (3, .agg (mkN 4 1).toArray)]) rfl (by kernel_rfl) (run_four _)) ?_; simp only [Act.put, List.setIfInBounds_toArray, List.set_cons_zero, List.set_cons_succ]))
  rw [World.size_alloc]
  generalize (w.alloc (.cells #[.slice (some ⟨w.heap.size + 1, 0, none⟩) 4 4, .int .i64 5] 24)).alloc (.cells fourL.flatten.toArray 32) = W at *
  exact bodyPost_ret (v := .agg #[.slice (some ⟨w.heap.size + 1, 0, none⟩) 4 4, .int .i64 5]) (by simp [results, Try.results19, go_sem, c0, c1]) rfl ⟨rfl, ho'.out, hg'.out⟩
/-- Has a document these keys and depths? -/
def toldB (L : List (List Value)) : List Int → Bool
  | ns => decide (2 * L.length = ns.length) && (List.range L.length).all fun i => decide (ns[2 * i]? = some (keyN (nd L i))) && decide (ns[2 * i + 1]? = some (dp L i))
theorem toldB_spec {L : List (List Value)} {ns : List Int} (h : toldB L ns = true) : 2 * L.length = ns.length ∧ ∀ i, i < L.length → ns[2 * i]? = some (keyN (nd L i)) ∧ ns[2 * i + 1]? = some (dp L i) := by
  simp only [toldB, Bool.and_eq_true, List.all_eq_true, List.mem_range, decide_eq_true_eq] at h
  exact h
set_option maxRecDepth 100000 in
set_option maxHeartbeats 2000000 in
theorem told_yes (A : Option Addr) (n c : Nat) (L : List (List Value)) (x : Int) (S : Option Addr) (m k : Nat) (ns : List Int) (w : World) (hN : NodesAt w w.heap.size A n L) (hS : Reads w w.heap.size S (ns.map fun v => .int .i64 v)) (hm : ns.length = m) (ht : toldB L ns = true) :
    Calls Try.prog 20 #[.agg #[.slice A n c, .int .i64 x], .slice S m k] w fun e w' => e = .returned (.bool true) ∧ w.grownBy w' none := by
  obtain ⟨h1, h2⟩ := toldB_spec ht
  have hn := hN.few
  have hlen := hN.len
  have hg0 := World.grownBy_alloc w (.cells #[.slice A n c, .int .i64 x] 24) none
  have b0 := Row.new w 24 #[.slice A n c, .int .i64 x]
  have c0 : (w.alloc (.cells #[.slice A n c, .int .i64 x] 24)).cell? ⟨w.heap.size, 0, none⟩ = some (.slice A n c) := b0.at 0
  have hmn : m = 2 * n := by omega
  have HN := Lib.hid (fun W (hg : (w.alloc (.cells #[.slice A n c, .int .i64 x] 24)).grownBy W none) => hN.grow (grown_trans hg0 hg))
  have HS := Lib.hid (fun W (hg : (w.alloc (.cells #[.slice A n c, .int .i64 x] 24)).grownBy W none) => hS.grown0 (grown_trans hg0 hg))
  have HB := Lib.hid (fun W (hg : (w.alloc (.cells #[.slice A n c, .int .i64 x] 24)).grownBy W none) => show W.cell? ⟨w.heap.size, 0, none⟩ = some (.slice A n c) from (b0.kept0 hg).at 0)
  have h2' := Lib.hid h2
  have hl' := Lib.hid hlen
  have hg0' := Lib.hid hg0
  have hm' := Lib.hid hm
  subst hmn
  clear hN hS b0 hg0 h1 h2 hlen hm ht
  go_enter Try.func20, Try.ntmps20
  have d0 : ((2 : Int) * (n : Int) != ((2 * n : Nat) : Int)) = false := by simp
  go_wp2_with fail
  generalize w.alloc (.cells #[.slice A n c, .int .i64 x] 24) = W0 at *
  go_loopw [5] (fun i wr => ∃ j : Nat, j ≤ n ∧ i = .int .i64 (j : Int) ∧ W0.grownBy wr none) (fun i _ => n - (intOf i).toNat)
  case atStart => exact ⟨0, by omega, rfl, World.grownBy.refl _ _⟩
  case round =>
    obtain ⟨j, hj, rfl, hgr⟩ := hrel
    clear c0
    have c0 := HB.out _ hgr
    obtain ⟨wo, rfl⟩ : ∃ wo : World, wo = wr := ⟨_, rfl⟩
    by_cases hlt : j < n
    · have hN := HN.out _ hgr
      obtain ⟨ad, rfl, _⟩ := hN.some_ hlt
      have z0 := hN.key_ hlt
      have z1 := hN.dep_ hlt
      obtain ⟨q1, q2⟩ := h2'.out j (by have := hl'.out; omega)
      obtain ⟨sd, hS, _, hc⟩ := HS.out _ hgr (by rw [List.length_map, hm'.out]; omega)
      subst hS
      have s0 := hc (2 * j) (.int .i64 (keyN (nd L j))) (by rw [List.getElem?_map, q1]; rfl)
      have s1 := hc (2 * j + 1) (.int .i64 (dp L j)) (by rw [List.getElem?_map, q2]; rfl)
      rw [add_pos _ _ (by omega)] at s1
      have hw1 : IntKind.i64.wrap ((2 : Int) * (j : Int)) = (2 : Int) * (j : Int) := by rw [IntKind.wrap_i64]; omega
      have hw2 : IntKind.i64.wrap ((2 : Int) * (j : Int) + 1) = (2 : Int) * (j : Int) + 1 := by rw [IntKind.wrap_i64]; omega
      have i1 : (0 : Int) ≤ (j : Int) := by omega
      have i2 : (j : Int) < (n : Int) := by omega
      have i3 : (0 : Int) ≤ (2 : Int) * (j : Int) := by omega
      have i4 : (2 : Int) * (j : Int) < (2 : Int) * (n : Int) := by omega
      have i5 : (0 : Int) ≤ (2 : Int) * (j : Int) + 1 := by omega
      have i6 : (2 : Int) * (j : Int) + 1 < (2 : Int) * (n : Int) := by omega
      have i7 : ((2 : Int) * (j : Int)).toNat = 2 * j := by omega
      have i8 : ((2 : Int) * (j : Int) + 1).toNat = 2 * j + 1 := by omega
      have b1 : (keyN (nd L j) != keyN (nd L j)) = false := by simp
      have b2 : (dp L j != dp L j) = false := by simp
      clear hN hc q1 q2
      go_wp2_with fail
      go_quiet (fail)
      go_wp2_with fail
      exact ⟨⟨j + 1, by omega, by go_num, grown_drewN hgr _⟩, by simp [intOf]; omega⟩
    · go_wp2_with fail
      go_ret
      exact ⟨rfl, grown_trans hg0'.out hgr⟩
theorem great7_any (A : Option Addr) (n k : Nat) (L : List (List Value)) (x : Int) (c : Chg) (w : World) (hN : ∀ y ∈ L, OkAll nodeLs y) (hl : L.length = n) (hr : Reads w w.heap.size A L.flatten) (hn : n ≤ 9223372036854775807) (hc : c.ok) :
    Calls Try.prog 9 #[.agg #[.slice A n k, .int .i64 x], .agg c.cells] w fun e w' => ∃ b : Bool, e = .returned (.bool b) ∧ (b = false → (n ≤ 320 ∧ total L ≤ 5000) ∧ lenN c.y ≤ 5000) ∧ w.grownBy w' none := by
  have hg0 := grown_trans (World.grownBy_alloc w (.cells #[.slice A n k, .int .i64 x] 24) none) (World.grownBy_alloc _ (.cells c.cells 34) none)
  have b0 := (Two.new w 24 (.slice A n k) (.int .i64 x)).kept (World.grownBy_alloc _ (.cells c.cells 34) none) (by simp)
  have r0 := Row.new (w.alloc (.cells #[.slice A n k, .int .i64 x] 24)) 34 c.cells
  rw [World.size_alloc] at r0
  have CG := Lib.hid (great_any A n k L x _ hN hl ((hr.grown0 hg0).more hg0.size) hn)
  have c0 := b0.c0
  have c1 := b0.c1
  obtain ⟨s, hs1, hs2, hs3⟩ := okAll_text hc.y
  have hsm : s.size ≤ 9223372036854775807 := by unfold maxLen at hs3; exact hs3
  have r0' := Lib.hid (fun W (hg : ((w.alloc (.cells #[.slice A n k, .int .i64 x] 24)).alloc (.cells c.cells 34)).grownBy W none) => show W.cell? ⟨w.heap.size + 1, 54, none⟩ = some (.string s) from ((r0.kept0 hg).at 54).trans ((Chg.cy 50).trans hs1))
  have hg0' := Lib.hid hg0
  have hs2' := Lib.hid hs2
  clear hN hl hr hc b0 r0 hg0 hs1 hs2 hs3
  generalize c.cells = cs at *
  go_enter Try.func9, Try.ntmps9
  go_wp2_with fail
  generalize (w.alloc (.cells #[.slice A n k, .int .i64 x] 24)).alloc (.cells cs 34) = W0 at *
  refine CG.out.mono ?_; rintro r w1 ⟨b, rfl, hb, hg1⟩
  clear c0 c1
  have z := r0'.out _ hg1
  have hb' := Lib.hid hb
  clear hb
  cases b with
  | true =>
    go_wp2_with fail
    go_ret
    exact ⟨true, rfl, fun h => (by cases h), grown_trans hg0'.out hg1⟩
  | false =>
    by_cases h5 : (5000 : Int) < (s.size : Int)
    · have d0 : decide ((5000 : Int) < (s.size : Int)) = true := decide_eq_true h5
      clear h5
      go_wp2_with fail
      go_ret
      exact ⟨true, rfl, fun h => (by cases h), grown_trans hg0'.out hg1⟩
    · have d0 : decide ((5000 : Int) < (s.size : Int)) = false := decide_eq_false h5
      have h5' := Lib.hid h5
      clear h5
      go_wp2_with fail
      go_ret
      exact ⟨false, rfl, fun _ => ⟨hb'.out trivial, by have := h5'.out; have := hs2'.out; omega⟩, grown_trans hg0'.out hg1⟩
end Go.Proofs.Ytjnbfgogmhfbiaa
/- The law's own examples: awake. -/
namespace Go.Proofs.Ytjnbfgogmhfbiaa
open Go Go.RowKit
def txtNode : List Value := (zeroNode.set 2 (.int .u8 1)).set 50 (.string ⟨#[97]⟩)
def badNode : List Value := zeroNode.set 3 (.int .u8 3)
theorem txt_ok : OkAll nodeLs txtNode := okB_ok _ _ (by decide +kernel)
theorem bad_ok : OkAll nodeLs badNode := okB_ok _ _ (by decide +kernel)
theorem chg_ok {kd key par num : Int} {y : List Value} (hy : OkAll nodeLs y) (h : (decide (0 ≤ kd) && decide (kd ≤ 255) && decide (0 ≤ key) && decide (key ≤ 255) && decide (0 ≤ par) && decide (par ≤ 255) && decide (0 ≤ num) && decide (num ≤ 255)) = true) : (⟨kd, key, par, num, y⟩ : Chg).ok := by
  simp only [Bool.and_eq_true, decide_eq_true_eq] at h
  exact ⟨by show 0 ≤ kd ∧ kd ≤ 255; omega, by show -9223372036854775808 ≤ key ∧ key ≤ 9223372036854775807; omega, by show -9223372036854775808 ≤ par ∧ par ≤ 9223372036854775807; omega, by show -9223372036854775808 ≤ num ∧ num ≤ 9223372036854775807; omega, hy⟩
theorem four_len : ∀ i, i < 4 → lenN (nd fourL i) ≤ 5000 := by decide +kernel
def ch1 : Chg := ⟨1, 0, 1, 1, zeroNode⟩
theorem ch1_ok : ch1.ok := chg_ok zero_ok (by decide)
def doc1 : List (List Value) := putAt fourL 3 [boxOf 5 1 zeroNode]
theorem ap1 : Applies fourL 5 ch1 (.ok (doc1, 6)) := ⟨four_may, by decide, by rfl, mayLB_spec (by decide +kernel)⟩
theorem told1 : toldB doc1 [1, 0, 2, 1, 3, 2, 5, 1, 4, 1] = true := by decide +kernel
def ch2 : Chg := ⟨1, 0, 4, 0, txtNode⟩
theorem ch2_ok : ch2.ok := chg_ok txt_ok (by decide)
def doc2 : List (List Value) := putAt fourL 4 [textOf 5 2 txtNode]
theorem ap2 : Applies fourL 5 ch2 (.ok (doc2, 6)) := ⟨four_may, by decide, by rfl, mayLB_spec (by decide +kernel)⟩
theorem told2 : toldB doc2 [1, 0, 2, 1, 3, 2, 4, 1, 5, 2] = true := by decide +kernel
def ch3 : Chg := ⟨1, 0, 3, 1, zeroNode⟩
theorem ch3_ok : ch3.ok := chg_ok zero_ok (by decide)
theorem ap3 : Applies fourL 5 ch3 (.error 70) := .inr (.inr (.inl ⟨four_may, by decide, by rfl⟩))
def ch4 : Chg := ⟨2, 2, 0, 0, zeroNode⟩
theorem ch4_ok : ch4.ok := chg_ok zero_ok (by decide)
def doc4 : List (List Value) := [mkN 1 0, mkN 4 1]
theorem ap4 : Applies fourL 5 ch4 (.ok (doc4, 5)) := ⟨four_may, by decide, by rfl, mayLB_spec (by decide +kernel)⟩
theorem told4 : toldB doc4 [1, 0, 4, 1] = true := by decide +kernel
def ch5 : Chg := ⟨2, 1, 0, 0, zeroNode⟩
theorem ch5_ok : ch5.ok := chg_ok zero_ok (by decide)
theorem ap5 : Applies fourL 5 ch5 (.error 70) := .inr (.inr (.inl ⟨four_may, by decide, by rfl⟩))
def ch6 : Chg := ⟨3, 2, 4, 0, zeroNode⟩
theorem ch6_ok : ch6.ok := chg_ok zero_ok (by decide)
def doc6 : List (List Value) := [mkN 1 0, mkN 4 1, mkN 2 2, mkN 3 3]
theorem ap6 : Applies fourL 5 ch6 (.ok (doc6, 5)) := ⟨four_may, by decide, by rfl, mayLB_spec (by decide +kernel)⟩
theorem told6 : toldB doc6 [1, 0, 4, 1, 2, 2, 3, 3] = true := by decide +kernel
def ch7 : Chg := ⟨3, 2, 3, 0, zeroNode⟩
theorem ch7_ok : ch7.ok := chg_ok zero_ok (by decide)
theorem ap7 : Applies fourL 5 ch7 (.error 70) := .inr (.inr (.inl ⟨four_may, by decide, by rfl⟩))
def ch8 : Chg := ⟨3, 2, 1, 1, zeroNode⟩
theorem ch8_ok : ch8.ok := chg_ok zero_ok (by decide)
def doc8 : List (List Value) := [mkN 1 0, mkN 4 1, mkN 2 1, mkN 3 2]
theorem ap8 : Applies fourL 5 ch8 (.ok (doc8, 5)) := ⟨four_may, by decide, by rfl, mayLB_spec (by decide +kernel)⟩
theorem told8 : toldB doc8 [1, 0, 4, 1, 2, 1, 3, 2] = true := by decide +kernel
def ch9 : Chg := ⟨5, 4, 0, 0, zeroNode⟩
theorem ch9_ok : ch9.ok := chg_ok zero_ok (by decide)
theorem ap9 : Applies fourL 5 ch9 (.error 70) := .inr (.inr (.inl ⟨four_may, by decide, by rfl⟩))
def ch10 : Chg := ⟨4, 4, 0, 0, badNode⟩
theorem ch10_ok : ch10.ok := chg_ok bad_ok (by decide)
theorem ap10 : Applies fourL 5 ch10 (.error 60) := .inr (.inr (.inl ⟨four_may, by decide, by rfl⟩))
end Go.Proofs.Ytjnbfgogmhfbiaa
