/- TreeLess. -/
import Derived.BigQuiet
import Derived.StillTailTactics
import Derived.Deep.RegionHeld3
import Derived.Test.YthbdfibolgaapaaUg
import Derived.Test.YthbdfibolgaapaaGrow
import Derived.Test.YthbdfibolgaapaaRowg
namespace Go.Proofs.Ythbdfibolgaapaa
open Go Go.RowKit
theorem grown_undrew {a b : World} (h : a.drew.grownBy b none) : a.grownBy b none := ⟨h.os, h.tape, h.output, h.size, h.block⟩
/-- What the operations of region 7 yield. -/
def LT (A1 : Option Addr) (t c1 : Nat) (ad : Addr) (n c : Nat) (x : Int) (e : Nat) (xs : List Value) : Nat → Value → Nat → Nat → World → Prop
  | 1, v, _, _, _ => v = .slice A1 t c1
  | 3, v, _, _, _ => v = .slice (some ad) n c
  | 4, v, _, _, _ => v = .agg #[.slice (some ad) n c, .int .i64 x]
  | 6, v, _, _, _ => v = .int .i64 (e : Int)
  | 7, v, _, _, w => ∃ A7 c7, v = .slice A7 (n - e) c7 ∧ Reads w w.heap.size A7 xs
  | _, _, _, _, _ => True
theorem LT.mono (A1 : Option Addr) (t c1 : Nat) (ad : Addr) (n c : Nat) (x : Int) (e : Nat) (xs : List Value) : ∀ i v lo hi w w', LT A1 t c1 ad n c x e xs i v lo hi w → w.grownBy w' none → LT A1 t c1 ad n c x e xs i v lo hi w'
  | 1, _, _, _, _, _, h, _ => h
  | 3, _, _, _, _, _, h, _ => h
  | 4, _, _, _, _, _, h, _ => h
  | 6, _, _, _, _, _, h, _ => h
  | 7, _, _, _, _, _, ⟨A7, c7, h1, h2⟩, hg => ⟨A7, c7, h1, (h2.grown0 hg).more hg.size⟩
  | 0, _, _, _, _, _, _, _ => trivial
  | 2, _, _, _, _, _, _, _ => trivial
  | 5, _, _, _, _, _, _, _ => trivial
  | _ + 8, _, _, _, _, _, _, _ => trivial
theorem Own.cell_ {w : World} {base e size n cap g : Nat} {xs : List Value} (h : Own w base e size (some ⟨g, 0, none⟩) n cap xs) {j : Nat} (hj : j < xs.length) : w.cell? ⟨g, j, none⟩ = xs[j]? := by
  obtain ⟨g', hA, _, _, _, hc⟩ := h.cells_ (by omega)
  cases hA
  exact hc j hj
theorem Two.apart {w : World} {b g base n c : Nat} {xs : List Value} {u v : Value} (h : Two w b 24 u v) (ho : Own w base 36 51 (some ⟨g, 0, none⟩) n c xs) (hn : 0 < n) : b ≠ g := by
  rintro rfl
  obtain ⟨_, h2, _, h4⟩ := ho
  rcases h4 with h4 | ⟨g', cur, hA, _, hgg, _⟩
  · omega
  · cases hA
    unfold Two at h
    rw [h] at hgg
    simp at hgg
theorem Own.far {w w' : World} {base g g' n c : Nat} {xs : List Value} (ho : Own w base 36 51 (some ⟨g, 0, none⟩) n c xs) (hg : w.grownBy w' (some g')) (hne : g ≠ g') : Own w' base 36 51 (some ⟨g, 0, none⟩) n c xs :=
  ho.grownBy_ hg (.inr (by
    unfold rowOf
    split
    · simp
    · simpa using hne))
theorem own_two4 {w : World} {base n c g5 g6 : Nat} {A : Option Addr} {xs : List Value} {p q r s : Value} (h : Own w base 36 51 A n c xs) (b5 : Two w g5 24 p q) (b6 : Two w g6 24 r s) (n56 : g5 ≠ g6) (u1 u2 u3 u4 : Value) :
    Own ((((w.setCell ⟨g5, 0, none⟩ u1).setCell ⟨g5, 1, none⟩ u2).setCell ⟨g6, 0, none⟩ u3).setCell ⟨g6, 1, none⟩ u4) base 36 51 A n c xs := by
  have h1 := h.kept_ (grownBy_setCell w g5 0 u1) (b := g5) b5 (by decide)
  have h2 := h1.kept_ (grownBy_setCell _ g5 1 u2) (b := g5) (b5.s0 u1) (by decide)
  have k6 := (b6.other (k := 0) (Ne.symm n56) u1).other (k := 1) (Ne.symm n56) u2
  have h3 := h2.kept_ (grownBy_setCell _ g6 0 u3) (b := g6) k6 (by decide)
  exact h3.kept_ (grownBy_setCell _ g6 1 u4) (b := g6) (k6.s0 u3) (by decide)
/-- What the operations of region 8 yield. -/
def OT (A : Option Addr) (n c : Nat) (x : Int) (L : List (List Value)) : Nat → Value → Nat → Nat → World → Prop
  | 0, v, _, _, _ => v = .agg #[.slice A n c, .int .i64 x]
  | 1, v, lo, hi, w => ∃ g c', v = .agg #[.slice (some ⟨g, 0, none⟩) n c', .int .i64 x] ∧ Own w lo 36 51 (some ⟨g, 0, none⟩) n c' L.flatten ∧ lo ≤ g ∧ g < hi
  | 2, v, _, _, _ => v = .agg #[.slice A n c, .int .i64 x]
  | 3, v, lo, hi, w => ∃ g c', v = .agg #[.slice (some ⟨g, 0, none⟩) n c', .int .i64 x] ∧ Own w lo 36 51 (some ⟨g, 0, none⟩) n c' L.flatten ∧ lo ≤ g ∧ g < hi
  | 4, v, lo, hi, w => v = .pointer (some ⟨lo, 0, none⟩) ∧ Two w lo 24 (.slice none 0 0) (.int .i64 0) ∧ hi = lo + 1
  | 5, v, lo, hi, w => v = .pointer (some ⟨lo, 0, none⟩) ∧ Two w lo 24 (.slice none 0 0) (.int .i64 0) ∧ hi = lo + 1
  | _, _, _, _, _ => True
theorem OT.mono (A : Option Addr) (n c : Nat) (x : Int) (L : List (List Value)) : ∀ i v lo hi w w', OT A n c x L i v lo hi w → w.grownBy w' none → OT A n c x L i v lo hi w'
  | 0, _, _, _, _, _, h, _ => h
  | 1, _, _, _, _, _, ⟨g, c', h1, h2, h3⟩, hg => ⟨g, c', h1, h2.grown0 hg, h3⟩
  | 2, _, _, _, _, _, h, _ => h
  | 3, _, _, _, _, _, ⟨g, c', h1, h2, h3⟩, hg => ⟨g, c', h1, h2.grown0 hg, h3⟩
  | 4, _, _, _, _, _, ⟨h1, h2, h3⟩, hg => ⟨h1, h2.kept hg (by simp), h3⟩
  | 5, _, _, _, _, _, ⟨h1, h2, h3⟩, hg => ⟨h1, h2.kept hg (by simp), h3⟩
  | _ + 6, _, _, _, _, _, _, _ => trivial
set_option maxRecDepth 100000 in
set_option maxHeartbeats 4000000 in
theorem TreeLess_walk (w : World) (A : Option Addr) (n c : Nat) (L : List (List Value)) (x : Int) (_wx : (Lit.int .i64 x).wf = true) (R : IsNodes w A n c L) (a : Int) (wa : (Lit.int .i64 a).wf = true) (o : Int) (wo : (Lit.int .i64 o).wf = true) :
    Calls Try.prog 6 #[.agg #[.slice A n c, .int .i64 x], .int .i64 a, .int .i64 o] w fun e w' => e = .returned (.bool true) ∧ Below w.heap.size w w' := by
  obtain ⟨ba1, ba2⟩ := wf_i64 wa
  obtain ⟨bo1, bo2⟩ := wf_i64 wo
  have hnc := R.len_
  have hg0 := World.grownBy_alloc w (.cells #[.slice A n c, .int .i64 x] 24) none
  have b0 := Row.new w 24 #[.slice A n c, .int .i64 x]
  have CA := Lib.hid (awake_any (w.alloc (.cells #[.slice A n c, .int .i64 x] 24)))
  have CG := Lib.hid (fun W (hg : w.grownBy W none) => great_any A n c L x W (fun y hy => (R.2.2.2.1 y hy).2) R.1 ((R.2.2.2.2.grown0 hg).more hg.size) (by omega))
  have HB := Lib.hid (fun W (hg : (w.alloc (.cells #[.slice A n c, .int .i64 x] 24)).grownBy W none) => show W.cell? ⟨w.heap.size, 0, none⟩ = some (.slice A n c) ∧ W.cell? ⟨w.heap.size, 1, none⟩ = some (.int .i64 x) from ⟨(b0.kept0 hg).at 0, (b0.kept0 hg).at 1⟩)
  have hR := Lib.hid R
  have hg0' := Lib.hid hg0
  clear R b0 hg0 wa wo
  go_enter Try.func6, Try.ntmps6
  go_wp2_with fail
  refine CA.out.mono ?_; rintro e w1 ⟨rfl, hg1⟩
  obtain ⟨c0, c1⟩ := HB.out _ hg1
  go_wp2_with fail
  refine (CG.out _ (grown_trans hg0'.out hg1)).mono ?_; rintro e w2 ⟨bg, rfl, hbg, hg2⟩
  replace hg2 := grown_trans hg1 hg2
  clear c0 c1 hg1
  obtain ⟨c0, c1⟩ := HB.out _ hg2
  cases bg with
  | true =>
    go_wp2_with fail
    go_ret
    exact ⟨rfl, grown_below (grown_trans hg0'.out hg2)⟩
  | false =>
    obtain ⟨hn, htot⟩ := hbg rfl
    clear hbg
    have hN := Lib.hid (fun W (hg : (w.alloc (.cells #[.slice A n c, .int .i64 x] 24)).grownBy W none) => (hR.out.at_ (by omega)).grow (grown_trans hg0'.out hg))
    have CM := Lib.hid (fun W (hg : (w.alloc (.cells #[.slice A n c, .int .i64 x] 24)).grownBy W none) => may_any A n c x L W (hN.out W hg) (fun i hi => by have := len_total (L := L) (i := i) (by rw [hR.out.1]; exact hi); omega))
    go_wp2_with fail
    refine (CM.out _ hg2).mono ?_; rintro e w3 ⟨⟨bm, rfl, hbm⟩, hg3⟩
    replace hg2 := grown_trans hg2 hg3
    clear c0 c1 hg3 CM CG CA
    obtain ⟨c0, c1⟩ := HB.out _ hg2
    cases bm with
    | false =>
      go_wp2_with fail
      go_ret
      exact ⟨rfl, grown_below (grown_trans hg0'.out hg2)⟩
    | true =>
      have hS := Lib.hid (hbm.1 rfl)
      clear hbm
      rcases (by omega : a < 1 ∨ (1 ≤ a ∧ (n : Int) ≤ a) ∨ (1 ≤ a ∧ a < n ∧ o < 0) ∨ (1 ≤ a ∧ a < n ∧ 0 ≤ o ∧ (n : Int) ≤ o) ∨ (1 ≤ a ∧ a < n ∧ 0 ≤ o ∧ o < n ∧ o = a) ∨ (1 ≤ a ∧ a < n ∧ 0 ≤ o ∧ o < n ∧ o ≠ a)) with h | ⟨h1, h⟩ | ⟨h1, h2, h⟩ | ⟨h1, h2, h3, h⟩ | ⟨h1, h2, h3, h4, rfl⟩ | ⟨h1, h2, h3, h4, h⟩
      · have d0 : decide (a < 1) = true := decide_eq_true h
        go_wp2_with fail
        go_ret
        exact ⟨rfl, grown_below (grown_trans hg0'.out hg2)⟩
      · have d0 : decide (a < 1) = false := decide_eq_false (by omega)
        have d1 : decide ((n : Int) ≤ a) = true := decide_eq_true h
        clear h1 h
        go_wp2_with fail
        go_ret
        exact ⟨rfl, grown_below (grown_trans hg0'.out hg2)⟩
      · have d0 : decide (a < 1) = false := decide_eq_false (by omega)
        have d1 : decide ((n : Int) ≤ a) = false := decide_eq_false (by omega)
        have d2 : decide (o < 0) = true := decide_eq_true h
        clear h1 h2 h
        go_wp2_with fail
        go_ret
        exact ⟨rfl, grown_below (grown_trans hg0'.out hg2)⟩
      · have d0 : decide (a < 1) = false := decide_eq_false (by omega)
        have d1 : decide ((n : Int) ≤ a) = false := decide_eq_false (by omega)
        have d2 : decide (o < 0) = false := decide_eq_false (by omega)
        have d3 : decide ((n : Int) ≤ o) = true := decide_eq_true h
        clear h1 h2 h3 h
        go_wp2_with fail
        go_ret
        exact ⟨rfl, grown_below (grown_trans hg0'.out hg2)⟩
      · have d0 : decide (o < 1) = false := decide_eq_false (by omega)
        have d1 : decide ((n : Int) ≤ o) = false := decide_eq_false (by omega)
        have d2 : decide (o < 0) = false := decide_eq_false (by omega)
        have d4 : (o == o) = true := by simp
        clear h1 h2 h3 h4
        go_wp2_with fail
        go_ret
        exact ⟨rfl, grown_below (grown_trans hg0'.out hg2)⟩
      · have d0 : decide (a < 1) = false := decide_eq_false (by omega)
        have d1 : decide ((n : Int) ≤ a) = false := decide_eq_false (by omega)
        have d2 : decide (o < 0) = false := decide_eq_false (by omega)
        have d3 : decide ((n : Int) ≤ o) = false := decide_eq_false (by omega)
        have d4 : (o == a) = false := by simpa using h
        have h' := Lib.hid (And.intro h1 (And.intro h2 (And.intro h3 (And.intro h4 h))))
        clear h1 h2 h3 h4 h
        go_upto_region 6 with fail
        clear d0 d1 d2 d3 d4 c0 c1
        obtain ⟨h1, h2, h3, h4, h⟩ := h'.out
        clear h'
        obtain ⟨t, rfl⟩ := Int.eq_ofNat_of_zero_le (show 0 ≤ a by omega)
        obtain ⟨p, rfl⟩ := Int.eq_ofNat_of_zero_le h3
        have ht1 : 1 ≤ t := by omega
        have htn : t < n := by omega
        have hpn : p < n := by omega
        have hpt : p ≠ t := by omega
        clear h1 h2 h3 h4 h
        obtain ⟨i0, hi0, hz0, hz1, hz2⟩ := info_parts infoN
        have hgA := grown_trans hg2 (World.grownBy_alloc w3 (.cells #[.slice none 0 0, .int .i64 x] 24) none)
        have b7 := Two.new w3 24 (.slice none 0 0) (.int .i64 x)
        have hq7 := hg2.size
        rw [World.size_alloc] at hq7
        have hq8 := World.size_alloc w3 (.cells #[.slice none 0 0, .int .i64 x] 24)
        clear hg2
        generalize w3.alloc (.cells #[.slice none 0 0, .int .i64 x] 24) = WA at *
        generalize w3.heap.size = q7 at *
        obtain ⟨ad, rfl, hadb⟩ := (hN.out _ hgA).some_ htn
        have hL51 := Lib.hid (fun y hy => (hR.out.2.2.2.1 y hy).2.len)
        have hok := Lib.hid (fun y hy => (hR.out.2.2.2.1 y hy).2)
        have hfl := Lib.hid (show L.flatten.length = n * 51 by rw [nodes_len hok.out, hR.out.1])
        obtain ⟨c0, c1⟩ := HB.out _ hgA
        have e0 := b7.c0
        have f0 := b7.f 0
        have hRA := Lib.hid (fun W (hg : WA.grownBy W none) => ((hN.out _ (grown_trans hgA hg)).reads).take (t * 51))
        have htc : t ≤ c := by omega
        have htc2 : (t : Int) ≤ (c : Int) := by omega
        go_still_tail 6, (by kernel_rfl)
        all_goals change wpList _ _ _ _ _ WA.drew
        go_wp2_with (at_builtin; refine wpList_append_Own rfl (.tmp 50) (.tmp 54) _ rfl (q7 + 1) 36 i0 _ 51 360 Try.underlying22 hi0 hz0 hz1 hz2 rfl (by omega) _ 0 0 [] rfl (Own.nil_ _ _ _ _ _) _ t c _ (L.flatten.take (t * 51)) rfl (by rw [List.length_take, hfl.out]; omega) (hRA.out _ (grown_drew (World.grownBy.refl _ none))) (fun u hu => nodes_one hok.out u (List.mem_of_mem_take hu)) (by simp only [maxLen]; omega) (by omega) (by rw [← hq8]; exact Nat.le_refl _) ?_; intro A1 c1' w5 hown1 hg5 _; have b75 := (b7.kept (grown_drew (World.grownBy.refl WA none)) (by simp)).kept (show WA.drew.grownBy w5 none from hg5) (by simp); have e5 := b75.c0; have f5 := b75.f 0)
        have hgB0 := grown_trans hgA (grown_trans (grown_drew (World.grownBy.refl WA none)) (show WA.drew.grownBy w5 none from hg5))
        have hown6 := hown1.kept_ (grownBy_setCell w5 q7 0 (.slice A1 t c1')) (b := q7) b75 (by decide)
        rw [Nat.zero_add, List.nil_append] at hown6
        have b76 := b75.s0 (.slice A1 t c1')
        have hgB := grown_put hgB0 (show (w.alloc (.cells #[.slice (some ad) n c, .int .i64 x] 24)).heap.size ≤ q7 by rw [World.size_alloc]; exact hq7) 0 (.slice A1 t c1')
        clear hown1 hg5 b75 e5 f5 hgB0 hRA b7 hgA hq8 hadb
        generalize w5.setCell ⟨q7, 0, none⟩ (.slice A1 t c1') = W6 at *
        obtain ⟨e, he⟩ : ∃ e, endN (dp L) n t = e := ⟨_, rfl⟩
        have het : t < e := he ▸ endN_gt htn
        have hen : e ≤ n := he ▸ endN_le htn
        have hSl := Lib.hid (show Shape (L.take t ++ L.drop e) x by
          have := hS.out.less (a := t) (by omega) (by rw [hR.out.1]; exact htn)
          rw [hR.out.1, he] at this
          exact this)
        have CE := Lib.hid (fun W (hg : (w.alloc (.cells #[.slice (some ad) n c, .int .i64 x] 24)).grownBy W none) => show Calls Try.prog 14 #[.agg #[.slice (some ad) n c, .int .i64 x], .int .i64 (t : Int)] W fun r w' => r = .returned (.int .i64 (e : Int)) ∧ W.grownBy w' none from by
          have := end_in (some ad) n c x t L W (hN.out _ hg) htn
          rw [he] at this
          exact this)
        have hRD := Lib.hid (fun W (hg : (w.alloc (.cells #[.slice (some ad) n c, .int .i64 x] 24)).grownBy W none) => (hN.out _ hg).reads.drop (k := e * 51) rfl)
        have hec : e ≤ c := by omega
        have hec2 : (e : Int) ≤ (c : Int) := by omega
        have hen2 : (e : Int) ≤ (n : Int) := by omega
        clear he
        refine wp_region_held (S := fun _ => True) (by kernel_rfl) ?_
        refine wpAnyH_take (i := 0) (v := .pointer (some ⟨q7, 0, none⟩)) rfl (by kernel_rfl) (by kernel_rfl) (by kernel_rfl) (fun _ _ _ h => h) (Or.inl ⟨by kernel_rfl, fun V _ => by kernel_rfl⟩) trivial ?_
        simp only [Act.put, List.getElem_toArray, List.getElem_cons_succ, List.getElem_cons_zero, List.setIfInBounds_toArray, List.set_cons_zero, List.set_cons_succ]
        refine wpAnyH_take (i := 2) (v := .pointer (some ⟨w.heap.size, 0, none⟩)) rfl (by kernel_rfl) (by kernel_rfl) (by kernel_rfl) (fun _ _ _ h => h) (Or.inl ⟨by kernel_rfl, fun V _ => by kernel_rfl⟩) trivial ?_
        simp only [Act.put, List.getElem_toArray, List.getElem_cons_succ, List.getElem_cons_zero, List.setIfInBounds_toArray, List.set_cons_zero, List.set_cons_succ]
        refine wpAnyH_take (i := 5) (v := .int .i64 (t : Int)) rfl (by kernel_rfl) (by kernel_rfl) (by kernel_rfl) (fun _ _ _ h => h) (Or.inl ⟨by kernel_rfl, fun V _ => by kernel_rfl⟩) trivial ?_
        simp only [Act.put, List.getElem_toArray, List.getElem_cons_succ, List.getElem_cons_zero, List.setIfInBounds_toArray, List.set_cons_zero, List.set_cons_succ]
        refine Grow.wpAnyH_from (w0 := W6.drew) [0, 2, 5] [1, 3, 4, 6, 7] #[true, true, true, true, true, true, true, true, false, false, false] [(some 58, 1), (some 60, 3), (some 61, 4), (some 63, 6), (some 64, 7)] 3 (LT A1 t c1' ad n c x e (L.flatten.drop (e * 51))) (by kernel_rfl) (by kernel_rfl) (by kernel_rfl) (by decide) (by kernel_rfl) (by kernel_rfl) (by kernel_rfl) (fun _ _ => trivial) (LT.mono _ _ _ _ _ _ _ _ _) ?_ ?_
        · refine Grow.StepsD.cons [] [] rfl (by kernel_rfl) (by kernel_rfl) (fun vs lo up W hg hT K hK => ?_) ?_
          · have hgW := grown_undrew hg
            have e1 := (b76.kept hgW (by simp)).c0
            simp only [Grow.putL] at hK ⊢
            go_simp
            exact hK _ _ (World.grownBy.refl _ _) rfl
          refine Grow.StepsD.cons [] [] rfl (by kernel_rfl) (by kernel_rfl) (fun vs lo up W hg hT K hK => ?_) ?_
          · have hgW := grown_trans hgB (grown_undrew hg)
            obtain ⟨c0, c1⟩ := HB.out _ hgW
            simp only [Grow.putL] at hK ⊢
            go_simp
            exact hK _ _ (World.grownBy.refl _ _) rfl
          refine Grow.StepsD.cons [] [] rfl (by kernel_rfl) (by kernel_rfl) (fun vs lo up W hg hT K hK => ?_) ?_
          · have hgW := grown_trans hgB (grown_undrew hg)
            obtain ⟨c0, c1⟩ := HB.out _ hgW
            simp only [Grow.putL] at hK ⊢
            go_simp
            exact hK _ _ (World.grownBy.refl _ _) rfl
          refine Grow.StepsD.cons [4] [(some 61, 4)] rfl (by kernel_rfl) (by kernel_rfl) (fun vs lo up W hg hT K hK => ?_) ?_
          · have hgW := grown_trans hgB (grown_undrew hg)
            have t4 : vs 4 = .agg #[.slice (some ad) n c, .int .i64 x] := hT
            simp only [Grow.putL, t4] at hK ⊢
            go_simp
            refine (CE.out _ hgW).mono ?_; rintro r V ⟨rfl, hgx⟩
            exact hK _ _ hgx rfl
          refine Grow.StepsD.cons [3, 6] [(some 60, 3), (some 63, 6)] rfl (by kernel_rfl) (by kernel_rfl) (fun vs lo up W hg hT K hK => ?_) Grow.StepsD.nil
          · have hgW := grown_trans hgB (grown_undrew hg)
            have t3 : vs 3 = .slice (some ad) n c := hT.1
            have t6 : vs 6 = .int .i64 (e : Int) := hT.2
            simp only [Grow.putL, t3, t6] at hK ⊢
            go_simp
            refine hK _ _ (World.grownBy.refl _ _) ⟨_, _, rfl, ?_⟩
            split
            · rename_i hce
              exact fun hlen => absurd hlen (by rw [List.length_drop, hfl.out]; omega)
            · exact hRD.out _ hgW
        intro vs lo up V hgV hT hbb hap
        have hgW := grown_undrew hgV
        have hgVV := grown_trans hgB hgW
        obtain ⟨t1, t3, t4, t6, A7, c7, t7, r7⟩ := hT
        have q1 : vs 1 = .slice A1 t c1' := t1
        have q3 : vs 3 = .slice (some ad) n c := t3
        have q4 : vs 4 = .agg #[.slice (some ad) n c, .int .i64 x] := t4
        have q6 : vs 6 = .int .i64 (e : Int) := t6
        simp only [Grow.putL, q1, q3, q4, q6, t7, Act.put, List.getElem_toArray, List.getElem_cons_succ, List.getElem_cons_zero, List.setIfInBounds_toArray, List.set_cons_zero, List.set_cons_succ]
        clear hbb hap q1 q3 q4 q6 t1 t3 t4 t6 t7 hgV
        have oV := hown6.grown0 hgW
        have bV := b76.kept hgW (by simp)
        have hqV := bV.lt
        refine wpAnyH_append 8 (.tmp 58) (.tmp 64) 22 65 (by kernel_rfl) (by kernel_rfl) (q7 + 1) 36 i0 _ 51 360 Try.underlying22 hi0 hz0 hz1 hz2 rfl (by omega) A1 t c1' (L.flatten.take (t * 51)) (by kernel_rfl) oV A7 (n - e) c7 _ (L.flatten.drop (e * 51)) (by kernel_rfl) (by rw [List.length_drop, hfl.out]; omega) r7 (fun u hu => nodes_one hok.out u (List.mem_of_mem_drop hu)) (by unfold maxLen; omega) (by omega) hqV (fun _ => trivial) ?_
        intro A2 c2 w8 h1 hg8 _
        simp only [Act.put, List.getElem_toArray, List.getElem_cons_succ, List.getElem_cons_zero, List.setIfInBounds_toArray, List.set_cons_zero, List.set_cons_succ]
        refine wpAnyH_take (i := 9) (v := .pointer (some ⟨q7, 0, none⟩)) rfl (by kernel_rfl) (by kernel_rfl) (by kernel_rfl) (fun _ _ _ h => h) (Or.inl ⟨by kernel_rfl, fun V _ => by kernel_rfl⟩) trivial ?_
        simp only [Act.put, List.getElem_toArray, List.getElem_cons_succ, List.getElem_cons_zero, List.setIfInBounds_toArray, List.set_cons_zero, List.set_cons_succ]
        have b8 := bV.kept hg8 (fun e => by have := oV.row_ge q7 e.symm; omega)
        have e1 := b8.c0
        have e2 := b8.f 0
        have hgC0 := grown_new hgVV hg8 (fun g e => by have := (oV.row_ge g e).1; rw [World.size_alloc]; omega)
        have hown9 := h1.kept_ (grownBy_setCell w8 q7 0 (.slice A2 (t + (n - e)) c2)) (b := q7) b8 (by decide)
        have b9 := b8.s0 (.slice A2 (t + (n - e)) c2)
        have hgC := grown_put hgC0 (show (w.alloc (.cells #[.slice (some ad) n c, .int .i64 x] 24)).heap.size ≤ q7 by rw [World.size_alloc]; exact hq7) 0 (.slice A2 (t + (n - e)) c2)
        refine wpAnyH_ready (rs := [10]) (by kernel_rfl) (by simp) ?_
        refine AllReadyH.cons rfl (fun K hK => ?_) AllReadyH.nil
        go_simp
        refine hK.out _ _ trivial (fun _ => ?_)
        clear hK K
        refine wpAnyH_done (by kernel_rfl) ?_ _
        clear e1 e2 b8 hgC0 h1 hg8 bV oV hgVV hgW r7 hown6 b76 hgB hqV
        generalize w8.setCell ⟨q7, 0, none⟩ (.slice A2 (t + (n - e)) c2) = W9 at *
        obtain ⟨m, hm⟩ : ∃ m, t + (n - e) = m := ⟨_, rfl⟩
        rw [hm] at hown9 b9 ⊢
        have hml := Lib.hid hm
        rw [← flatten_take hL51.out, ← flatten_drop hL51.out, ← List.flatten_append] at hown9
        have hNL := Lib.hid (fun W (hg : W9.grownBy W none) => show NodesAt W W.heap.size A2 m (L.take t ++ L.drop e) from ⟨less_ok hok.out, by rw [List.length_append, List.length_take, List.length_drop, hR.out.1]; omega, (hown9.grown0 hg).reads, by omega⟩)
        have HB9 := Lib.hid (fun W (hg : W9.grownBy W none) => show ((W.cell? ⟨w.heap.size, 0, none⟩ = some (.slice (some ad) n c) ∧ W.cell? ⟨w.heap.size, 1, none⟩ = some (.int .i64 x)) ∧ W.cell? ⟨q7, 0, none⟩ = some (.slice A2 m c2) ∧ W.cell? ⟨q7, 1, none⟩ = some (.int .i64 x)) from ⟨HB.out _ (grown_trans hgC hg), (b9.kept hg (by simp)).c0, (b9.kept hg (by simp)).c1⟩)
        have hm1 : 1 ≤ m := by omega
        have hm2 : m ≤ 320 := by omega
        clear hm hown9 b9 CE hRD hec hec2 hen2
        go_wp2_with fail
        have CX := Lib.hid (fun W (hg : W9.grownBy W none) => (copy_any (some ad) n c L x W W.heap.size hok.out hR.out.1 (hN.out _ (grown_trans hgC hg)).reads (by omega)).mono (fun e w' ⟨A', c', h1, h2, h3⟩ => show ∃ A' c', e = Ending.returned (.agg #[.slice A' n c', .int .i64 x]) ∧ Own w' W.heap.size 36 51 A' n c' L.flatten ∧ W.grownBy w' none ∧ W9.grownBy w' none from ⟨A', c', h1, h2, h3, grown_trans hg h3⟩))
        refine Grow.wp_region [0, 1, 2, 3, 4, 5] #[true, true, true, true, true, true, false, false] [(some 67, 0), (some 68, 1), (some 69, 2), (some 70, 3), (some 8, 4), (some 9, 5)] 2 (OT (some ad) n c x L) (by kernel_rfl) (by kernel_rfl) (by decide) (by kernel_rfl) (by kernel_rfl) (by kernel_rfl) (OT.mono _ _ _ _ _) ?_ ?_
        · refine Grow.Steps.cons [] [] rfl (by kernel_rfl) (by kernel_rfl) (fun vs lo up W hg hT K hK => ?_) ?_
          · have hgW := grown_undrew hg
            obtain ⟨⟨e0, e1⟩, _⟩ := HB9.out _ hgW
            simp only [Grow.putL] at hK ⊢
            go_simp
            exact hK _ _ (World.grownBy.refl _ _) rfl
          refine Grow.Steps.cons [0] [(some 67, 0)] rfl (by kernel_rfl) (by kernel_rfl) (fun vs lo up W hg hT K hK => ?_) ?_
          · have hgW := grown_undrew hg
            have h0 : vs 0 = .agg #[.slice (some ad) n c, .int .i64 x] := hT
            simp only [Grow.putL, h0] at hK ⊢
            go_simp
            refine (CX.out _ hgW).mono ?_; rintro e V ⟨A', c', rfl, hown, hgx, _⟩
            obtain ⟨g, rfl, _, hg1, hg2, _⟩ := hown.cells_ (by rw [hfl.out]; omega)
            exact hK _ _ hgx ⟨g, c', rfl, hown, hg1, hg2⟩
          refine Grow.Steps.cons [] [] rfl (by kernel_rfl) (by kernel_rfl) (fun vs lo up W hg hT K hK => ?_) ?_
          · have hgW := grown_undrew hg
            obtain ⟨⟨e0, e1⟩, _⟩ := HB9.out _ hgW
            simp only [Grow.putL] at hK ⊢
            go_simp
            exact hK _ _ (World.grownBy.refl _ _) rfl
          refine Grow.Steps.cons [2, 1] [(some 68, 1), (some 69, 2)] rfl (by kernel_rfl) (by kernel_rfl) (fun vs lo up W hg hT K hK => ?_) ?_
          · have hgW := grown_undrew hg
            have h0 : vs 2 = .agg #[.slice (some ad) n c, .int .i64 x] := hT.1
            simp only [Grow.putL, h0] at hK ⊢
            go_simp
            refine (CX.out _ hgW).mono ?_; rintro e V ⟨A', c', rfl, hown, hgx, _⟩
            obtain ⟨g, rfl, _, hg1, hg2, _⟩ := hown.cells_ (by rw [hfl.out]; omega)
            exact hK _ _ hgx ⟨g, c', rfl, hown, hg1, hg2⟩
          refine Grow.Steps.cons [] [] rfl (by kernel_rfl) (by kernel_rfl) (fun vs lo up W hg hT K hK => ?_) ?_
          · simp only [Grow.putL] at hK ⊢
            go_simp
            exact hK _ _ (World.grownBy_alloc _ _ _) ⟨rfl, Two.new _ _ _ _, World.size_alloc _ _⟩
          refine Grow.Steps.cons [] [] rfl (by kernel_rfl) (by kernel_rfl) (fun vs lo up W hg hT K hK => ?_) Grow.Steps.nil
          · simp only [Grow.putL] at hK ⊢
            go_simp
            exact hK _ _ (World.grownBy_alloc _ _ _) ⟨rfl, Two.new _ _ _ _, World.size_alloc _ _⟩
        intro vs lo up V hgV hT hb hap
        have hgW := grown_undrew hgV
        obtain ⟨t0, ⟨gx, cx, t1, ox, lx1, lx2⟩, t2, ⟨gy, cy, t3, oy, ly1, ly2⟩, ⟨t4, b4, u4⟩, t5, b5, u5⟩ := hT
        have k45 := hap 4 (by simp) 5 (by simp) (by simp)
        have k13 := hap 1 (by simp) 3 (by simp) (by simp)
        have n45 : lo 4 ≠ lo 5 := by omega
        have n54 : lo 5 ≠ lo 4 := by omega
        have nxy : gx ≠ gy := by omega
        have ge1 : W9.heap.size ≤ lo 1 := (hb 1 (by simp)).1
        have ge3 : W9.heap.size ≤ lo 3 := (hb 3 (by simp)).1
        have ge4 : W9.heap.size ≤ lo 4 := (hb 4 (by simp)).1
        have ge5 : W9.heap.size ≤ lo 5 := (hb 5 (by simp)).1
        have ox' := ox.base_ ge1
        have oy' := oy.base_ ge3
        have lgx : W9.heap.size ≤ gx := by omega
        have lgy : W9.heap.size ≤ gy := by omega
        simp only [Grow.putL, t0, t1, t2, t3, t4, t5]
        generalize lo 4 = g5 at *
        generalize lo 5 = g6 at *
        clear t0 t1 t2 t3 t4 t5 hb hap k45 k13 u4 u5 lx1 lx2 ly1 ly2 hgV ge1 ge3 CX ox oy
        have e0 := b4.c0
        have e1 := b4.c1
        have f0 := b4.f 0
        have f1 := b4.f 1
        refine wpAny_ready (rs := [6]) (by kernel_rfl) (by simp) ?_
        refine AllReady.cons rfl (fun K hK => ?_) AllReady.nil
        go_simp
        refine hK _ _ ?_
        clear hK K
        have e2 := b5.c0
        have e3 := b5.c1
        have f2 := b5.f 0
        have f3 := b5.f 1
        refine wpAny_ready (rs := [7]) (by kernel_rfl) (by simp) ?_
        refine AllReady.cons rfl (fun K hK => ?_) AllReady.nil
        go_simp
        refine hK _ _ ?_
        clear hK K
        refine wpAny_done (by kernel_rfl) ?_ _
        clear e0 e1 e2 e3 f0 f1 f2 f3
        have P5 := (((b4.s0 (.slice (some ⟨gx, 0, none⟩) n cx)).s1 (.int .i64 x)).other (k := 0) n45 (.slice (some ⟨gy, 0, none⟩) n cy)).other (k := 1) n45 (.int .i64 x)
        have b5' := (b5.other (k := 0) n54 (.slice (some ⟨gx, 0, none⟩) n cx)).other (k := 1) n54 (.int .i64 x)
        have P6 := (b5'.s0 (.slice (some ⟨gy, 0, none⟩) n cy)).s1 (.int .i64 x)
        have OX := own_two4 ox' b4 b5 n45 (.slice (some ⟨gx, 0, none⟩) n cx) (.int .i64 x) (.slice (some ⟨gy, 0, none⟩) n cy) (.int .i64 x)
        have OY := own_two4 oy' b4 b5 n45 (.slice (some ⟨gx, 0, none⟩) n cx) (.int .i64 x) (.slice (some ⟨gy, 0, none⟩) n cy) (.int .i64 x)
        have hgF := grown_put (grown_put (grown_put (grown_put hgW ge4 0 (.slice (some ⟨gx, 0, none⟩) n cx)) ge4 1 (.int .i64 x)) ge5 0 (.slice (some ⟨gy, 0, none⟩) n cy)) ge5 1 (.int .i64 x)
        clear b4 b5 b5' ox' oy' hgW
        generalize (((V.setCell ⟨g5, 0, none⟩ (.slice (some ⟨gx, 0, none⟩) n cx)).setCell ⟨g5, 1, none⟩ (.int .i64 x)).setCell ⟨g6, 0, none⟩ (.slice (some ⟨gy, 0, none⟩) n cy)).setCell ⟨g6, 1, none⟩ (.int .i64 x) = W5 at *
        obtain ⟨⟨c0, c1⟩, z2, z3⟩ := HB9.out _ hgF
        have x0 := P5.c0
        have y0 := P6.c0
        have hnn : ((n : Int) != (n : Int)) = false := by simp
        go_upto_region 11 with fail
        have zk := (hN.out _ (grown_trans hgC hgF)).key_ hpn
        have kb := n_key (x := nd L p) ((hN.out _ (grown_trans hgC hgF)).nd_ok hpn)
        have hkey := Lib.hid (show keyN (nd L p) = keyN (nd L p) from rfl)
        obtain ⟨key, hkk⟩ : ∃ key, keyN (nd L p) = key := ⟨_, rfl⟩
        rw [hkk] at zk kb
        have kx := OX.cell_ (j := t * 51) (by rw [hfl.out]; omega)
        have fx := OX.frozen_ (by rw [hfl.out]; omega) rfl (t * 51)
        obtain ⟨vx, hvx⟩ : ∃ vx, L.flatten[t * 51]? = some vx := ⟨_, List.getElem?_eq_getElem (by rw [hfl.out]; omega)⟩
        rw [hvx] at kx
        have hkk' := Lib.hid hkk
        clear hvx hkk hkey
        go_still_tail 9, (by kernel_rfl)
        go_upto_region 12 with fail
        have n5x := P5.apart OX (by omega)
        have n6x := P6.apart OX (by omega)
        have n5y := P5.apart OY (by omega)
        have n6y := P6.apart OY (by omega)
        have hg6 := grown_drew (grownBy_setCell W5 gx (t * 51) (.int .i64 key))
        have OX2 := (OX.set_ (t * 51) (.int .i64 key)).grown0 (grown_drew (World.grownBy.refl (W5.setCell ⟨gx, t * 51, none⟩ (.int .i64 key)) none))
        generalize (W5.setCell ⟨gx, t * 51, none⟩ (.int .i64 key)).drew = W6' at *
        have OY2 := OY.far hg6 (Ne.symm nxy)
        have P52 := P5.kept hg6 (fun e => by cases e; exact n5x rfl)
        have P62 := P6.kept hg6 (fun e => by cases e; exact n6x rfl)
        have hgG := grown_new hgF hg6 (fun g e => by cases e; exact lgx)
        clear P5 P6 OX OY hg6 hgF c0 c1 z2 z3 x0 y0 zk kx fx
        have y0 := P62.c0
        have ky := OY2.cell_ (j := t * 51 + 1) (by rw [hfl.out]; omega)
        have fy := OY2.frozen_ (by rw [hfl.out]; omega) rfl (t * 51 + 1)
        obtain ⟨vy, hvy⟩ : ∃ vy, L.flatten[t * 51 + 1]? = some vy := ⟨_, List.getElem?_eq_getElem (by rw [hfl.out]; omega)⟩
        rw [hvy] at ky
        clear hvy
        go_upto_region 13 with fail
        have hg7 := grownBy_setCell W6' gy (t * 51 + 1) (.int .i64 0)
        have OY3 := OY2.set_ (t * 51 + 1) (.int .i64 0)
        have OX3 := OX2.far hg7 nxy
        have P53 := P52.kept hg7 (fun e => by cases e; exact n5y rfl)
        have P63 := P62.kept hg7 (fun e => by cases e; exact n6y rfl)
        have hgH := grown_put hgG lgy (t * 51 + 1) (.int .i64 0)
        clear OX2 OY2 P52 P62 hg7 hgG y0 ky fy
        generalize W6'.setCell ⟨gy, t * 51 + 1, none⟩ (.int .i64 0) = WC at *
        have hfs := flatten_set hL51.out t 0 (.int .i64 key) (by rw [hR.out.1]; exact htn) (by omega)
        rw [Nat.add_zero] at hfs
        rw [hfs] at OX3
        rw [flatten_set hL51.out t 1 (.int .i64 0) (by rw [hR.out.1]; exact htn) (by omega)] at OY3
        have hsm0 : ∀ i, i < L.length → lenN (nd L i) ≤ 5000 := fun i hi => by have := len_total (L := L) (i := i) hi; omega
        have hln := hR.out.1
        have hot : OkAll nodeLs (nd L t) := hok.out _ (List.mem_of_getElem? (nd_get (by rw [hln]; exact htn)))
        have hl51 : (nd L t).length = 51 := hot.len
        have CL := Lib.hid (fun W (hg : WC.grownBy W none) => may_yes A2 m c2 x _ W (hNL.out W (grown_trans hgH hg)) (fun i hi => less_small (by omega) hsm0 i (by rw [hln, hml.out]; exact hi)) hSl.out)
        have CT := Lib.hid (fun W (hg : WC.grownBy W none) => may_no (some ⟨gx, 0, none⟩) n cx x (L.set t ((nd L t).set 0 (.int .i64 key))) W ⟨set_ok hok.out (okAll_set nodeLs _ 0 (.int .i64) _ hot rfl ⟨key, rfl, wf_of kb.2.1 kb.2.2⟩), by rw [List.length_set]; exact hln, (OX3.grown0 hg).reads, by omega⟩ (fun i hi => set_small (by omega) hsm0 i (by rw [hln]; exact hi)) (not_twice (by rw [hln]; exact htn) (by rw [hln]; exact hpn) hpt (by rw [key_set (by omega), hkk'.out])))
        have CF := Lib.hid (fun W (hg : WC.grownBy W none) => may_no (some ⟨gy, 0, none⟩) n cy x (L.set t ((nd L t).set 1 (.int .i64 0))) W ⟨set_ok hok.out (okAll_set nodeLs _ 1 (.int .i64) _ hot rfl ⟨0, rfl, by decide⟩), by rw [List.length_set]; exact hln, (OY3.grown0 hg).reads, by omega⟩ (fun i hi => set_small (by omega) hsm0 i (by rw [hln]; exact hi)) (not_flat (by omega) (by rw [hln]; exact htn) (dep_set (by omega) 0)))
        have HC := Lib.hid (fun W (hg : WC.grownBy W none) => show (W.cell? ⟨q7, 0, none⟩ = some (.slice A2 m c2) ∧ W.cell? ⟨q7, 1, none⟩ = some (.int .i64 x)) ∧ (W.cell? ⟨g5, 0, none⟩ = some (.slice (some ⟨gx, 0, none⟩) n cx) ∧ W.cell? ⟨g5, 1, none⟩ = some (.int .i64 x)) ∧ (W.cell? ⟨g6, 0, none⟩ = some (.slice (some ⟨gy, 0, none⟩) n cy) ∧ W.cell? ⟨g6, 1, none⟩ = some (.int .i64 x)) from ⟨(HB9.out _ (grown_trans hgH hg)).2, ⟨(P53.kept hg (by simp)).c0, (P53.kept hg (by simp)).c1⟩, (P63.kept hg (by simp)).c0, (P63.kept hg (by simp)).c1⟩)
        clear OX3 OY3 P53 P63 hfs hsm0 hot hl51
        have hgo := Lib.hid (grown_trans hgC hgH)
        clear hgC hgH
        have hr := World.grownBy.refl WC none
        obtain ⟨⟨c1, c2⟩, ⟨c3, c4⟩, c5, c6⟩ := HC.out _ hr
        go_wp2_with fail
        refine (CL.out _ hr).mono ?_; rintro r v1 ⟨rfl, hk1⟩
        clear c1 c2 c3 c4 c5 c6 hr
        obtain ⟨⟨c1, c2⟩, ⟨c3, c4⟩, c5, c6⟩ := HC.out _ hk1
        go_wp2_with fail
        refine (CT.out _ hk1).mono ?_; rintro r v2 ⟨rfl, hk2⟩
        replace hk2 := grown_trans hk1 hk2
        clear c1 c2 c3 c4 c5 c6 hk1
        obtain ⟨⟨c1, c2⟩, ⟨c3, c4⟩, c5, c6⟩ := HC.out _ hk2
        go_wp2_with fail
        refine (CF.out _ hk2).mono ?_; rintro r v3 ⟨rfl, hk3⟩
        replace hk3 := grown_trans hk2 hk3
        go_wp2_with fail
        go_ret
        exact ⟨rfl, grown_below (grown_trans hg0'.out (grown_trans hgo.out hk3))⟩
end Go.Proofs.Ythbdfibolgaapaa
