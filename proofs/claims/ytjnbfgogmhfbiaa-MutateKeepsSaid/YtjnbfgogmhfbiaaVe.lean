/- slices.Delete of nodes. -/
import Derived.Test.YtjnbfgogmhfbiaaVd
import Derived.Deep.RegionLaw
import Derived.Lib.SlicesDelete
namespace Go.Proofs.Ytjnbfgogmhfbiaa
open Go Go.RowKit
/-- A row with some cells laid anew. -/
def layL : List Value → Nat → List Value → List Value
  | xs, _, [] => xs
  | xs, o, v :: r => layL (xs.set o v) (o + 1) r
theorem Own.setCells {base e size n cap g : Nat} : ∀ (vs : List Value) (o : Nat) (w : World) (xs : List Value), Own w base e size (some ⟨g, 0, none⟩) n cap xs →
    Own (w.setCells g o vs) base e size (some ⟨g, 0, none⟩) n cap (layL xs o vs)
  | [], _, _, _, h => h
  | v :: r, o, w, xs, h => Own.setCells r (o + 1) _ _ (h.set_ o v)
theorem grownBy_setCells {g : Nat} : ∀ (vs : List Value) (o : Nat) (w : World), w.grownBy (w.setCells g o vs) (some g)
  | [], _, _ => World.grownBy.refl _ _
  | v :: r, o, w => grown_trans (grownBy_setCell w g o v) (grownBy_setCells r (o + 1) _)
theorem layL_get : ∀ (vs : List Value) (o : Nat) (xs : List Value) (t : Nat), o + vs.length ≤ xs.length → (layL xs o vs)[t]? = if o ≤ t ∧ t < o + vs.length then vs[t - o]? else xs[t]?
  | [], o, xs, t, _ => by
    rw [if_neg (fun h => by simp only [List.length_nil] at h; omega)]
    rfl
  | v :: r, o, xs, t, h => by
    simp only [List.length_cons] at h
    rw [layL, layL_get r (o + 1) _ t (by simp; omega)]
    by_cases h1 : o + 1 ≤ t ∧ t < o + 1 + r.length
    · rw [if_pos h1, if_pos (by simp; omega), show t - o = (t - (o + 1)) + 1 by omega, List.getElem?_cons_succ]
    · rw [if_neg h1, List.getElem?_set]
      by_cases h2 : o = t
      · subst h2
        rw [if_pos rfl, if_pos (by omega), if_pos (by simp)]
        simp
      · rw [if_neg h2, if_neg (by simp; omega)]
theorem layL_len : ∀ (vs : List Value) (o : Nat) (xs : List Value), (layL xs o vs).length = xs.length
  | [], _, _ => rfl
  | v :: r, o, xs => by rw [layL, layL_len r]; simp
/-- What is left of a row. -/
theorem Own.shrink {w : World} {base e size n cap m : Nat} {A : Option Addr} {xs : List Value} (h : Own w base e size A n cap xs) (hm : m ≤ n) : Own w base e size A m cap (xs.take (m * size)) := by
  obtain ⟨h1, h2, h3, h4⟩ := h
  have hle : m * size ≤ n * size := Nat.mul_le_mul_right _ hm
  refine ⟨by rw [List.length_take, h1]; omega, by omega, h3, ?_⟩
  rcases h4 with h4 | ⟨g, cur, rfl, hb, hgg, hcs, htake⟩
  · exact .inl h4
  · refine .inr ⟨g, cur, rfl, hb, hgg, hcs, ?_⟩
    rw [← htake, List.take_take, Nat.min_eq_left hle]
theorem cut_lay (xs : List Value) (i j n : Nat) (z : List Value) (hz : z.length = (j - i) * 51) (hn : xs.length = n * 51) (hi : i < j) (hj : j ≤ n) :
    (layL (layL xs (i * 51) (xs.drop (j * 51))) ((i + (n - j)) * 51) z).take ((i + (n - j)) * 51) = xs.take (i * 51) ++ xs.drop (j * 51) := by
  apply List.ext_getElem?
  intro t
  have l1 : (xs.take (i * 51)).length = i * 51 := by simp; omega
  have l2 : (xs.drop (j * 51)).length = n * 51 - j * 51 := by simp [hn]
  rw [List.getElem?_take]
  by_cases c : t < (i + (n - j)) * 51
  · rw [if_pos c, layL_get _ _ _ _ (by rw [layL_len, hz, hn]; omega), if_neg (by omega), layL_get _ _ _ _ (by rw [l2, hn]; omega), l2]
    by_cases c1 : t < i * 51
    · rw [if_neg (by omega), List.getElem?_append_left (by omega), List.getElem?_take, if_pos c1]
    · rw [if_pos (by omega), List.getElem?_append_right (by omega), l1]
  · rw [if_neg c, List.getElem?_eq_none (by rw [List.length_append, l1, l2]; omega)]
theorem run_clear_many {P : Program} (w : World) (t e ty : TypeId) (z : Value) (zs : List Value) (m : Nat) (hm : 0 < m) (ht : P.underlying t = some (.slice e)) (hv : ∀ w, (zeroValue e).run P w = .ok z w) (hz : (Builtin.zeroCells z.cells m).toList = zs) (h0 : ∀ v ∈ zs, v.oneCell' = true) (b o c : Nat)
    (hc : ∀ j, j < zs.length → (w.cell? ⟨b, o + j, none⟩).isSome = true) (hf : ∀ j, j < zs.length → w.frozen? ⟨b, o + j, none⟩ = false) :
    (Builtin.clear_ #[t] ty #[.slice (some ⟨b, o, none⟩) m c]).run P w = .ok (.tuple #[]) (w.setCells b o zs) := by
  obtain ⟨k, rfl⟩ : ∃ k, m = k + 1 := ⟨m - 1, by omega⟩
  have hst := run_storeCells_cells (P := P) b o zs 0 w (by simpa using hc) (by simpa using hf) h0
  simp only [Nat.add_zero] at hst
  simp [Builtin.clear_, run_underlying ht, hv, hz, hst]
def zeroRow (m : Nat) : List Value := (Builtin.zeroCells (Value.agg zeroNode.toArray).cells m).toList
theorem zeroRow_len (m : Nat) : (zeroRow m).length = m * 51 := by
  unfold zeroRow
  rw [Array.length_toList, size_zeroCells]
  rfl
theorem zeroNode_one : ∀ v ∈ zeroNode, v.oneCell' = true := okAll_one (okB_ok nodeLs zeroNode (by decide +kernel))
theorem zeroRow_one (m : Nat) : ∀ v ∈ zeroRow m, v.oneCell' = true := fun v hv => by
  unfold zeroRow Builtin.zeroCells at hv
  rw [Array.toList_map, List.mem_map] at hv
  obtain ⟨k, _, rfl⟩ := hv
  have hc : (Value.agg zeroNode.toArray).cells = zeroNode.toArray := rfl
  have h51 : (Value.agg zeroNode.toArray).cells.size = 51 := rfl
  rw [h51, hc, getElem!_pos _ _ (by show k % 51 < 51; exact Nat.mod_lt _ (by omega))]
  exact zeroNode_one _ (by simp)
set_option maxRecDepth 100000 in
set_option maxHeartbeats 2000000 in
theorem del_cells (w : World) (base n c i j : Nat) (A : Option Addr) (xs : List Value) (h : Own w base 32 51 A n c xs) (h1 : ∀ u ∈ xs, u.oneCell' = true) (hi : i < j) (hjn : j ≤ n) (hn : n ≤ 1000) :
    Calls Try.prog 57 #[.slice A n c, .int .i64 (i : Int), .int .i64 (j : Int)] w fun e w' => e = .returned (.slice A (i + (n - j)) c) ∧ Own w' base 32 51 A (i + (n - j)) c (xs.take (i * 51) ++ xs.drop (j * 51)) ∧ w.grownBy w' (rowOf A c) := by
  have hlx := h.1
  have hnc := h.2.1
  have hcm := h.2.2.1
  unfold maxLen at hcm
  obtain ⟨g, hA, hrow, hbg, hgl, hcell⟩ := h.cells_ (by omega)
  subst hA
  have hd := h.grown0 (grown_drew (World.grownBy.refl w none))
  obtain ⟨news, hnews⟩ : ∃ news, news = xs.drop (j * 51) := ⟨_, rfl⟩
  have hlen : news.length = (n - j) * 51 := by rw [hnews]; simp [hlx]; omega
  obtain ⟨S, hS, hsrc⟩ : ∃ S : Addr, (if c = j then some (⟨g, 0, none⟩ : Addr) else some ⟨g, j * 51, none⟩) = some S ∧ Hid (∀ t u, news[t]? = some u → w.drew.cell? (S.add t) = some u) := by
    by_cases hc : c = j
    · refine ⟨⟨g, 0, none⟩, by simp [hc], Lib.hid fun t u hu => ?_⟩
      have h0 : news.length = 0 := by rw [hlen]; omega
      exfalso
      have ht := (List.getElem?_eq_some_iff.1 hu).1
      omega
    · refine ⟨⟨g, j * 51, none⟩, by simp [hc], Lib.hid fun t u hu => ?_⟩
      have ht := (List.getElem?_eq_some_iff.1 hu).1
      rw [hnews, List.getElem?_drop] at hu
      rw [Addr.add_lit]
      show w.cell? _ = _
      rw [hcell _ (by rw [hlen] at ht; omega)]
      exact hu
  have s2 := Lib.hid (fun u (hu : u ∈ news) => h1 u (List.mem_of_mem_drop (hnews ▸ hu)))
  have s3 : Hid (∀ t, t < news.length → (w.drew.cell? ⟨g, 0 + i * 51 + t, none⟩).isSome = true ∧ w.drew.frozen? ⟨g, 0 + i * 51 + t, none⟩ = false) := Lib.hid fun t ht => by
    rw [hlen] at ht
    refine ⟨?_, hd.frozen_ (by omega) rfl _⟩
    show (w.cell? _).isSome = true
    rw [hcell _ (by omega), List.getElem?_eq_getElem (by omega)]
    rfl
  obtain ⟨W1, hW1⟩ : ∃ W1, W1 = w.drew.setCells g (0 + i * 51) news := ⟨_, rfl⟩
  have o1 : Own W1 base 32 51 (some ⟨g, 0, none⟩) n c (layL xs (i * 51) news) := by rw [hW1, Nat.zero_add]; exact hd.setCells news _ _ _
  have g1 : w.grownBy W1 (some g) := by rw [hW1]; exact grown_trans (grown_drew (World.grownBy.refl w _)) (grownBy_setCells _ _ _)
  obtain ⟨g2, hg2, _, _, _, hcell1⟩ := o1.cells_ (by rw [layL_len]; omega)
  obtain rfl : g = g2 := by simpa using hg2
  clear hg2
  have hm1 : n - (i + (n - j)) = j - i := by omega
  have hcl : ∀ ty, (Builtin.clear_ #[22] ty #[.slice (some ⟨g, (i + (n - j)) * 51, none⟩) (n - (i + (n - j))) (c - (i + (n - j)))]).run Try.prog W1 = .ok (.tuple #[]) (W1.setCells g ((i + (n - j)) * 51) (zeroRow (j - i))) := fun ty => by
    rw [hm1]
    exact run_clear_many W1 _ 32 ty (.agg zeroNode.toArray) (zeroRow (j - i)) (j - i) (by omega) Try.underlying22 Try.zeroValue32 rfl (zeroRow_one _) g _ _ (fun t ht => by rw [zeroRow_len] at ht; rw [hcell1 _ (by rw [layL_len]; omega), List.getElem?_eq_getElem (by rw [layL_len]; omega)]; rfl) (fun t ht => o1.frozen_ (by rw [layL_len]; omega) rfl _)
  have hW : Hid (W1 = w.drew.setCells g (0 + i * 51) news) := Lib.hid hW1
  obtain ⟨i0, hi0, hz0, hz1, hz2⟩ := info_parts infoN
  have hic : i ≤ c := by omega
  have hjc : j ≤ c := by omega
  have hlt : i < j := by omega
  have hne : ¬ c = i + (n - j) := by omega
  have hij : (i : Int) ≤ (j : Int) := by omega
  have o1' := Lib.hid o1
  have g1' := Lib.hid g1
  have hfin := Lib.hid (o1.setCells (zeroRow (j - i)) ((i + (n - j)) * 51) _ _)
  have hcut := Lib.hid (cut_lay xs i j n (zeroRow (j - i)) (zeroRow_len _) hlx hi hjn)
  have hrow' := Lib.hid hrow
  have hnews' := Lib.hid hnews
  clear hW1 o1 g1 hcell1 hrow hcell hd h hnews h1 hlx hm1
  go_enter Try.func57, Try.ntmps57
  go_wp2_with fail
  go_region_law (refine step_append_room rfl (.tmp 22) (.tmp 25) 22 rfl 32 i0 51 Try.underlying22 hi0 hz1 g 0 i c (by simp [Act.eval, Act.put]) S (n - j) (c - j) news (by simp [Act.eval, Act.put]) hlen hsrc.out s2.out (by omega) s3.out ?_; rw [← hW.out])
  go_wp2
  go_ret
  have hf := hfin.out.shrink (m := i + (n - j)) (by omega)
  rw [hnews'.out, hcut.out] at hf
  refine ⟨rfl, hf, ?_⟩
  rw [hrow'.out]
  exact grown_trans g1'.out (grownBy_setCells _ _ _)
theorem flatten_take51 {L : List (List Value)} (h : ∀ y ∈ L, OkAll nodeLs y) : ∀ k, (L.take k).flatten = L.flatten.take (k * 51) := by
  induction L with
  | nil => intro k; simp
  | cons a r ih =>
    intro k
    cases k with
    | zero => simp
    | succ k =>
      have ha : a.length = 51 := (h a (by simp)).len
      rw [List.take_succ_cons, List.flatten_cons, List.flatten_cons, ih (fun y hy => h y (List.mem_cons_of_mem _ hy)) k, List.take_append, ha]
      rw [List.take_of_length_le (l := a) (by omega), show (k + 1) * 51 - 51 = k * 51 by omega]
theorem flatten_drop51 {L : List (List Value)} (h : ∀ y ∈ L, OkAll nodeLs y) (k : Nat) : (L.drop k).flatten = L.flatten.drop (k * 51) := by
  have h1 := flatten_take51 h k
  have h2 : (L.take k).flatten ++ (L.drop k).flatten = L.flatten := by rw [← List.flatten_append, List.take_append_drop]
  have h3 : (L.take k).flatten.length = min (k * 51) L.flatten.length := by rw [h1, List.length_take]
  by_cases hk : k * 51 ≤ L.flatten.length
  · rw [← h2, List.drop_append, h3, Nat.min_eq_left hk, Nat.sub_self, List.drop_zero, List.drop_of_length_le (l := (L.take k).flatten) (by rw [h3]; omega), List.nil_append]
  · have hl := nodes_len h
    rw [List.drop_of_length_le (l := L.flatten) (by omega), List.drop_of_length_le (l := L) (by omega), List.flatten_nil]
theorem del_nodes (w : World) (base n c i j : Nat) (A : Option Addr) (L : List (List Value)) (hL : ∀ y ∈ L, OkAll nodeLs y) (h : Own w base 32 51 A n c L.flatten) (hi : i < j) (hjn : j ≤ n) (hn : n ≤ 1000) :
    Calls Try.prog 57 #[.slice A n c, .int .i64 (i : Int), .int .i64 (j : Int)] w fun e w' => e = .returned (.slice A (i + (n - j)) c) ∧ Own w' base 32 51 A (i + (n - j)) c (L.take i ++ L.drop j).flatten ∧ w.grownBy w' (rowOf A c) := by
  rw [List.flatten_append, flatten_take51 hL, flatten_drop51 hL]
  exact del_cells w base n c i j A L.flatten h (nodes_one hL) hi hjn hn
end Go.Proofs.Ytjnbfgogmhfbiaa
