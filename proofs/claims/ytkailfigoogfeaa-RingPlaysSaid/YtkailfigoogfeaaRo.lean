/- The walk of RingOwn. -/
import Derived.Test.YtkailfigoogfeaaRc
import Derived.Test.YtkailfigoogfeaaRa
import Derived.Test.YtkailfigoogfeaaRn
import Derived.Deep.RegionWith
import Derived.Deep.CutRange
import Derived.StillTailTactics
import Derived.IntWalk
import Derived.Laws.Concat
import Derived.Test.YtkailfigoogfeaaGrow
import Derived.Test.YtkailfigoogfeaaDw
namespace Go.Proofs.Ytkailfigoogfeaa
open Go Go.RowKit
theorem RingIs.far {w w' : World} {base g last b : Nat} {f : Nat → List (List Value) × Int} (h : RingIs w base g last f) (hg : w.grownBy w' (some b)) (hb : b < base) : RingIs w' base g last f := by
  obtain ⟨h0, cur, h1, h2, h3, h4⟩ := h
  refine ⟨h0, cur, by rw [hg.block g (Array.getElem?_eq_some_iff.1 h1).1 (fun e => by cases e; omega)]; exact h1, h2, h3, fun j hj => ?_⟩
  obtain ⟨A, c, a1, a2, a3, a4, a5⟩ := h4 j hj
  refine ⟨A, c, a1, a2, a3.grownBy_ hg ?_, a4, a5⟩
  cases hq : rowOf A c with
  | none => exact .inl rfl
  | some r => exact .inr (fun e => by cases e; have := (a3.row_ge _ hq).1; omega)
theorem Two.apart {w : World} {b g base n c : Nat} {u v : Value} {xs : List Value} (h : Two w b 24 u v) (ho : Own w base 59 51 (some ⟨g, 0, none⟩) n c xs) (hn : 0 < xs.length) : b ≠ g := by
  rintro rfl
  have hn0 : n ≠ 0 := by rintro rfl; have := ho.1; omega
  rcases ho.2.2.2 with h4 | ⟨g', cur, e, _, hgg, _⟩
  · have := ho.2.1; omega
  · cases e
    rw [h] at hgg
    cases hgg
theorem grown_undrew {a b : World} (h : a.drew.grownBy b none) : a.grownBy b none := ⟨h.os, h.tape, h.output, h.size, h.block⟩
theorem Two.in0 {v V : World} {t : TypeId} {u x : Value} (h : (v.alloc (.cells #[u, x] t)).grownBy V none) : Two V v.heap.size t u x := (Two.new v t u x).kept h (by simp)
theorem Two.in1 {v V : World} {o : Obj} {t : TypeId} {u x : Value} (h : ((v.alloc (.cells #[u, x] t)).alloc o).grownBy V none) : Two V v.heap.size t u x := ((Two.new v t u x).kept (World.grownBy_alloc _ o none) (by simp)).kept h (by simp)
theorem Two.in2 {v V : World} {o : Obj} {t : TypeId} {u x : Value} (h : ((v.alloc o).alloc (.cells #[u, x] t)).grownBy V none) : Two V (v.heap.size + 1) t u x := by
  have := (Two.new (v.alloc o) t u x).kept h (by simp)
  rwa [World.size_alloc] at this
/-- The two copies, and what lies around. -/
def Pair (w0 w : World) (A B : Option Addr) (n c m d : Nat) (x y : Int) (L M : List (List Value)) (g5 g6 gx gy cx cy : Nat) : Prop :=
  Two w w0.heap.size 24 (.slice A n c) (.int .i64 x) ∧ Two w (w0.heap.size + 1) 24 (.slice B m d) (.int .i64 y) ∧
  Two w g5 24 (.slice (some ⟨gx, 0, none⟩) n cx) (.int .i64 x) ∧ Two w g6 24 (.slice (some ⟨gy, 0, none⟩) m cy) (.int .i64 y) ∧
  Own w (w0.heap.size + 2) 59 51 (some ⟨gx, 0, none⟩) n cx L.flatten ∧ Own w (w0.heap.size + 2) 59 51 (some ⟨gy, 0, none⟩) m cy M.flatten ∧ gx ≠ gy ∧ w0.grownBy w none
theorem own_two4 {w : World} {base n c g5 g6 : Nat} {A : Option Addr} {xs : List Value} {p q r s : Value} (h : Own w base 59 51 A n c xs) (b5 : Two w g5 24 p q) (b6 : Two w g6 24 r s) (n56 : g5 ≠ g6) (u1 u2 u3 u4 : Value) :
    Own ((((w.setCell ⟨g5, 0, none⟩ u1).setCell ⟨g5, 1, none⟩ u2).setCell ⟨g6, 0, none⟩ u3).setCell ⟨g6, 1, none⟩ u4) base 59 51 A n c xs := by
  have h1 := h.kept_ (grownBy_setCell w g5 0 u1) (b := g5) b5 (by decide)
  have h2 := h1.kept_ (grownBy_setCell _ g5 1 u2) (b := g5) (b5.s0 u1) (by decide)
  have k6 := (b6.other (k := 0) (Ne.symm n56) u1).other (k := 1) (Ne.symm n56) u2
  have h3 := h2.kept_ (grownBy_setCell _ g6 0 u3) (b := g6) k6 (by decide)
  exact h3.kept_ (grownBy_setCell _ g6 1 u4) (b := g6) (k6.s0 u3) (by decide)
theorem flat_int {L : List (List Value)} (hL : ∀ y ∈ L, OkAll nodeLs y) {i k : Nat} (hi : i < L.length) (hk : k < 51) (hl : nodeLs[k]? = some (.int .i64)) : ∃ v, L.flatten[i * 51 + k]? = some (.int .i64 v) ∧ -9223372036854775808 ≤ v ∧ v ≤ 9223372036854775807 := by
  rw [flatten_get 51 (by omega) L (fun x hx => (hL x hx).len), show (i * 51 + k) / 51 = i by omega, show (i * 51 + k) % 51 = k by omega, List.getElem?_eq_getElem hi]
  exact node_int (hL _ (List.getElem_mem hi)) hl
theorem Own.cell_ {w : World} {base e size n cap g : Nat} {xs : List Value} (h : Own w base e size (some ⟨g, 0, none⟩) n cap xs) {j : Nat} (hj : j < xs.length) : w.cell? ⟨g, j, none⟩ = xs[j]? := by
  obtain ⟨g', hA, _, _, _, hc⟩ := h.cells_ (by omega)
  cases hA
  exact hc j hj
theorem Own.row_lt {w : World} {base e size n cap g : Nat} {xs : List Value} (h : Own w base e size (some ⟨g, 0, none⟩) n cap xs) (hn : 0 < xs.length) : base ≤ g ∧ g < w.heap.size := by
  obtain ⟨g', hA, _, h1, h2, _⟩ := h.cells_ hn
  cases hA
  exact ⟨h1, h2⟩
theorem RingIs.keeps {w w' : World} {base g last : Nat} {f : Nat → List (List Value) × Int} (h : RingIs w base g last f) {b n c : Nat} {A : Option Addr} {xs : List Value} (ho : Own w b 59 51 A n c xs) (hg : w.grownBy w' (some g)) : Own w' b 59 51 A n c xs := by
  obtain ⟨_, cur, h1, _⟩ := h
  exact ho.kept_ hg h1 (by decide)
theorem flat_text {L : List (List Value)} (hL : ∀ y ∈ L, OkAll nodeLs y) {i : Nat} (hi : i < L.length) : ∃ s : ByteArray, L.flatten[i * 51 + 50]? = some (.string s) ∧ L[i][50]? = some (.string s) := by
  rw [flatten_get 51 (by omega) L (fun x hx => (hL x hx).len), show (i * 51 + 50) / 51 = i by omega, show (i * 51 + 50) % 51 = 50 by omega, List.getElem?_eq_getElem hi]
  obtain ⟨s, h, _⟩ := node_text (hL _ (List.getElem_mem hi))
  exact ⟨s, h, h⟩
theorem Own.other_ {w w' : World} {base e size n cap g g' : Nat} {xs : List Value} (h : Own w base e size (some ⟨g, 0, none⟩) n cap xs) (hg : w.grownBy w' (some g')) (hne : g' ≠ g) : Own w' base e size (some ⟨g, 0, none⟩) n cap xs := by
  refine h.grownBy_ hg ?_
  by_cases hc : cap = 0
  · exact .inl (by simp [rowOf, hc])
  · refine .inr ?_
    simp only [rowOf, hc, if_false, Option.map_some, ne_eq, Option.some.injEq]
    exact fun e => hne e.symm
/-- What stands at the head of each turn. -/
def OwnPost (w wr : World) (base g : Nat) (f : Nat → List (List Value) × Int) (A : Option Addr) (n c : Nat) (x : Int) (B : Option Addr) (m d : Nat) (y : Int) : Prop :=
  RingIs wr base g 2 f ∧ Two wr w.heap.size 24 (.slice A n c) (.int .i64 x) ∧ Two wr (w.heap.size + 1) 24 (.slice B m d) (.int .i64 y) ∧ w.grownBy wr none
theorem get_at {w : World} {base g v n : Nat} {f : Nat → List (List Value) × Int} {L : List (List Value)} {x : Int} (h : RingIs w base g 2 f) (h1 : 1 ≤ v) (h2 : v ≤ 2) (hf : f (v % 4) = (L, x)) (hl : L.length = n) (u : Int) (hu : u = (v : Int)) :
    Calls Try.prog 10 #[.pointer (some ⟨g, 0, none⟩), .int .i64 u] w fun e w' => ∃ A', e = .returned (.tuple #[.agg #[.slice A' n n, .int .i64 x], .int .i64 0]) ∧ Own w' w.heap.size 59 51 A' n n L.flatten ∧ w.grownBy w' none := by
  subst hu
  have hfo : firstOf 2 = 1 := rfl
  have := get_yes w base g 2 v f h (by omega) (by omega) (by rw [hfo]; exact h1) h2
  rw [hf] at this
  rw [← hl]
  exact this
theorem same_self (A1 : Option Addr) (n c1 : Nat) (L : List (List Value)) (x : Int) (A2 : Option Addr) (n2 c2 : Nat) (w : World) (h1 : ∀ y ∈ L, OkAll nodeLs y) (l1 : L.length = n) (r1 : Reads w w.heap.size A1 L.flatten) (r2 : Reads w w.heap.size A2 L.flatten) (hn : n ≤ 100000 ∧ n2 = n := by omega) :
    Calls Try.prog 11 #[.agg #[.slice A1 n c1, .int .i64 x], .agg #[.slice A2 n2 c2, .int .i64 x]] w fun e w' => e = .returned (.bool true) ∧ w.grownBy w' none := by
  obtain ⟨hn, rfl⟩ := hn
  have := dsame_any A1 n2 c1 L x A2 n2 c2 L x w h1 h1 l1 l1 r1 r2 hn hn
  have hdd : docEq L x L x = true := by unfold docEq; rw [(nodesEq_iff h1 h1).2 rfl]; simp
  rw [hdd] at this
  exact this
/-- What each operation of region 5 yields. -/
def OT (base : Nat) (A : Option Addr) (n c : Nat) (x : Int) (L : List (List Value)) (B : Option Addr) (m d : Nat) (y : Int) (M : List (List Value)) : Nat → Value → Nat → Nat → World → Prop
  | 0, v, _, _, _ => v = .agg #[.slice A n c, .int .i64 x]
  | 1, v, lo, hi, w => ∃ g c', v = .agg #[.slice (some ⟨g, 0, none⟩) n c', .int .i64 x] ∧ Own w lo 59 51 (some ⟨g, 0, none⟩) n c' L.flatten ∧ lo ≤ g ∧ g < hi
  | 2, v, _, _, _ => v = .agg #[.slice B m d, .int .i64 y]
  | 3, v, lo, hi, w => ∃ g c', v = .agg #[.slice (some ⟨g, 0, none⟩) m c', .int .i64 y] ∧ Own w lo 59 51 (some ⟨g, 0, none⟩) m c' M.flatten ∧ lo ≤ g ∧ g < hi
  | 4, v, lo, hi, w => v = .pointer (some ⟨lo, 0, none⟩) ∧ Two w lo 24 (.slice none 0 0) (.int .i64 0) ∧ hi = lo + 1
  | 5, v, lo, hi, w => v = .pointer (some ⟨lo, 0, none⟩) ∧ Two w lo 24 (.slice none 0 0) (.int .i64 0) ∧ hi = lo + 1
  | _, _, _, _, _ => True
theorem OT.mono (base : Nat) (A : Option Addr) (n c : Nat) (x : Int) (L : List (List Value)) (B : Option Addr) (m d : Nat) (y : Int) (M : List (List Value)) : ∀ i v lo hi w w', OT base A n c x L B m d y M i v lo hi w → w.grownBy w' none → OT base A n c x L B m d y M i v lo hi w'
  | 0, _, _, _, _, _, h, _ => h
  | 1, _, _, _, _, _, ⟨g, c', h1, h2, h3⟩, hg => ⟨g, c', h1, h2.grown0 hg, h3⟩
  | 2, _, _, _, _, _, h, _ => h
  | 3, _, _, _, _, _, ⟨g, c', h1, h2, h3⟩, hg => ⟨g, c', h1, h2.grown0 hg, h3⟩
  | 4, _, _, _, _, _, ⟨h1, h2, h3⟩, hg => ⟨h1, h2.kept hg (by simp), h3⟩
  | 5, _, _, _, _, _, ⟨h1, h2, h3⟩, hg => ⟨h1, h2.kept hg (by simp), h3⟩
  | _ + 6, _, _, _, _, _, _, _ => trivial
set_option maxRecDepth 100000 in
set_option maxHeartbeats 4000000 in
theorem RingOwn_walk (w : World) (A : Option Addr) (n c : Nat) (L : List (List Value)) (x : Int) (_wx : (Lit.int .i64 x).wf = true) (R : IsNodes w A n c L) (_ : SmallTexts L) (B : Option Addr) (m d : Nat) (M : List (List Value)) (y : Int) (_wy : (Lit.int .i64 y).wf = true) (S : IsNodes w B m d M)
    (HT0 : SmallTexts M) :
    Calls Try.prog 6 #[.agg #[.slice A n c, .int .i64 x], .agg #[.slice B m d, .int .i64 y]] w fun e w' => e = .returned (.bool true) ∧ Below w.heap.size w w' := by
  have HT : ∀ z ∈ M, ∀ s : ByteArray, z[50]? = some (.string s) → s.size ≤ 9223372036854775806 := fun z hz s hs => Nat.le_trans (HT0 z hz s hs) (by omega)
  clear HT0
  have hlenA := R.len_
  have hlenB := S.len_
  obtain ⟨hL1, hL2, hL3⟩ := R.size_
  obtain ⟨hM1, hM2, hM3⟩ := S.size_
  have hrA : Reads w w.heap.size A L.flatten := R.2.2.2.2
  have hrB : Reads w w.heap.size B M.flatten := S.2.2.2.2
  have CG := Lib.hid (fun W (hg : w.grownBy W none) => great_any A n c L x W hL2 hL1 ((hrA.grown0 hg).more hg.size) (by omega))
  have CH := Lib.hid (fun W (hg : w.grownBy W none) => great_any B m d M y W hM2 hM1 ((hrB.grown0 hg).more hg.size) (by omega))
  have bA := (Two.new w 24 (.slice A n c) (.int .i64 x)).kept (World.grownBy_alloc _ (.cells #[.slice B m d, .int .i64 y] 24) none) (by simp)
  have bB := Two.new (w.alloc (.cells #[.slice A n c, .int .i64 x] 24)) 24 (.slice B m d) (.int .i64 y)
  rw [World.size_alloc] at bB
  have hgW := grown_trans (World.grownBy_alloc w (.cells #[.slice A n c, .int .i64 x] 24) none) (World.grownBy_alloc _ (.cells #[.slice B m d, .int .i64 y] 24) none)
  have hW2 : ((w.alloc (.cells #[.slice A n c, .int .i64 x] 24)).alloc (.cells #[.slice B m d, .int .i64 y] 24)).heap.size = w.heap.size + 2 := by simp
  generalize hW : (w.alloc (.cells #[.slice A n c, .int .i64 x] 24)).alloc (.cells #[.slice B m d, .int .i64 y] 24) = W0 at *
  have hW' := Lib.hid hW
  clear R S hW
  go_enter Try.func6, Try.ntmps6
  go_wp2_with fail
  rw [hW'.out]
  refine (rawake_any _).mono ?_; rintro e w1 ⟨rfl, hg1⟩
  have bA1 := bA.kept hg1 (by simp)
  have bB1 := bB.kept hg1 (by simp)
  have hgA := grown_trans hgW hg1
  have d0 := bA1.c0
  have d1 := bA1.c1
  have hs2 := hg1.size
  rw [hW2] at hs2
  clear bA bB hgW hg1 hW2
  go_wp2_with fail
  refine (CG.out _ hgA).mono ?_; rintro e w2 ⟨b, rfl, hb, hg2⟩
  have bA2 := bA1.kept hg2 (by simp)
  have bB2 := bB1.kept hg2 (by simp)
  have hgC := grown_trans hgA hg2
  have hs3 := Nat.le_trans hs2 hg2.size
  clear bA1 bB1 hgA hg2 CG d0 d1 hs2
  cases b with
  | true =>
    go_wp2_with fail
    go_ret
    exact ⟨rfl, grown_below hgC⟩
  | false =>
    have hn := hb rfl
    clear hb
    have d0 := bB2.c0
    have d1 := bB2.c1
    go_wp2_with fail
    refine (CH.out _ hgC).mono ?_; rintro e w3 ⟨b, rfl, hb, hg3⟩
    have bA3 := bA2.kept hg3 (by simp)
    have bB3 := bB2.kept hg3 (by simp)
    have hgD := grown_trans hgC hg3
    have hs4 := Nat.le_trans hs3 hg3.size
    clear bA2 bB2 hgC hg3 CH d0 d1 hs3
    have d0 := bA3.c0
    have d1 := bA3.c1
    have d2 := bB3.c0
    have d3 := bB3.c1
    cases b with
    | true =>
      go_wp2_with fail
      go_ret
      exact ⟨rfl, grown_below hgD⟩
    | false =>
      have hm := hb rfl
      clear hb
      rcases Nat.eq_zero_or_pos n with hn0 | hn0
      · subst hn0
        go_wp2_with fail
        go_ret
        exact ⟨rfl, grown_below hgD⟩
      · have hne : ((n : Int) == 0) = false := by simp; omega
        rcases Nat.eq_zero_or_pos m with hm0 | hm0
        · subst hm0
          go_wp2_with fail
          go_ret
          exact ⟨rfl, grown_below hgD⟩
        · have hme : ((m : Int) == 0) = false := by simp; omega
          have gD := grown_drew (World.grownBy.refl w3 none)
          have CX := Lib.hid (fun W (hg : w3.grownBy W none) => (copy_any A n c L x W w.heap.size hL2 hL1 (hrA.grown0 (grown_trans hgD hg)) (by omega)).mono (fun e w' ⟨A', c', h1, h2, h3⟩ => show ∃ A' c', e = Ending.returned (.agg #[.slice A' n c', .int .i64 x]) ∧ Own w' W.heap.size 59 51 A' n c' L.flatten ∧ W.grownBy w' none ∧ w3.grownBy w' none from ⟨A', c', h1, h2, h3, grown_trans hg h3⟩))
          have CY := Lib.hid (fun W (hg : w3.grownBy W none) => (copy_any B m d M y W w.heap.size hM2 hM1 (hrB.grown0 (grown_trans hgD hg)) (by omega)).mono (fun e w' ⟨A', c', h1, h2, h3⟩ => show ∃ A' c', e = Ending.returned (.agg #[.slice A' m c', .int .i64 y]) ∧ Own w' W.heap.size 59 51 A' m c' M.flatten ∧ W.grownBy w' none ∧ w3.grownBy w' none from ⟨A', c', h1, h2, h3, grown_trans hg h3⟩))
          go_wp2_with fail
          refine Grow.wp_region [0, 1, 2, 3, 4, 5] #[true, true, true, true, true, true, false, false] [(some 35, 0), (some 36, 1), (some 37, 2), (some 38, 3), (some 5, 4), (some 6, 5)] 2 (OT w.heap.size A n c x L B m d y M) (by kernel_rfl) (by kernel_rfl) (by decide) (by kernel_rfl) (by kernel_rfl) (by kernel_rfl) (OT.mono _ _ _ _ _ _ _ _ _ _ _) ?_ ?_
          · refine Grow.Steps.cons [] [] rfl (by kernel_rfl) (by kernel_rfl) (fun vs lo up W hg hT K hK => ?_) ?_
            · have hgW := grown_undrew hg
              have e0 := (bA3.kept hgW (by simp)).c0
              have e1 := (bA3.kept hgW (by simp)).c1
              simp only [Grow.putL] at hK ⊢
              go_simp
              exact hK _ _ (World.grownBy.refl _ _) rfl
            refine Grow.Steps.cons [0] [(some 35, 0)] rfl (by kernel_rfl) (by kernel_rfl) (fun vs lo up W hg hT K hK => ?_) ?_
            · have hgW := grown_undrew hg
              have h0 : vs 0 = .agg #[.slice A n c, .int .i64 x] := hT
              simp only [Grow.putL, h0] at hK ⊢
              go_simp
              refine (CX.out _ hgW).mono ?_; rintro e V ⟨A', c', rfl, hown, hgx, _⟩
              obtain ⟨g, rfl, _, hg1, hg2, _⟩ := hown.cells_ (by rw [hL3]; omega)
              exact hK _ _ hgx ⟨g, c', rfl, hown, hg1, hg2⟩
            refine Grow.Steps.cons [] [] rfl (by kernel_rfl) (by kernel_rfl) (fun vs lo up W hg hT K hK => ?_) ?_
            · have hgW := grown_undrew hg
              have e0 := (bB3.kept hgW (by simp)).c0
              have e1 := (bB3.kept hgW (by simp)).c1
              simp only [Grow.putL] at hK ⊢
              go_simp
              exact hK _ _ (World.grownBy.refl _ _) rfl
            refine Grow.Steps.cons [2, 1] [(some 36, 1), (some 37, 2)] rfl (by kernel_rfl) (by kernel_rfl) (fun vs lo up W hg hT K hK => ?_) ?_
            · have hgW := grown_undrew hg
              have h0 : vs 2 = .agg #[.slice B m d, .int .i64 y] := hT.1
              simp only [Grow.putL, h0] at hK ⊢
              go_simp
              refine (CY.out _ hgW).mono ?_; rintro e V ⟨A', c', rfl, hown, hgx, _⟩
              obtain ⟨g, rfl, _, hg1, hg2, _⟩ := hown.cells_ (by rw [hM3]; omega)
              exact hK _ _ hgx ⟨g, c', rfl, hown, hg1, hg2⟩
            refine Grow.Steps.cons [] [] rfl (by kernel_rfl) (by kernel_rfl) (fun vs lo up W hg hT K hK => ?_) ?_
            · simp only [Grow.putL] at hK ⊢
              go_simp
              exact hK _ _ (World.grownBy_alloc _ _ _) ⟨rfl, Two.new _ _ _ _, World.size_alloc _ _⟩
            refine Grow.Steps.cons [] [] rfl (by kernel_rfl) (by kernel_rfl) (fun vs lo up W hg hT K hK => ?_) Grow.Steps.nil
            · simp only [Grow.putL] at hK ⊢
              go_simp
              exact hK _ _ (World.grownBy_alloc _ _ _) ⟨rfl, Two.new _ _ _ _, World.size_alloc _ _⟩
          intro vs lo up V hgV hT hb hap
          have hgW := grown_undrew hgV
          obtain ⟨t0, ⟨gx, cx, t1, ox, lx1, lx2⟩, t2, ⟨gy, cy, t3, oy, ly1, ly2⟩, ⟨t4, b4, u4⟩, t5, b5, u5⟩ := hT
          have k45 := hap 4 (by simp) 5 (by simp) (by simp)
          have k13 := hap 1 (by simp) 3 (by simp) (by simp)
          have n45 : lo 4 ≠ lo 5 := by omega
          have n54 : lo 5 ≠ lo 4 := by omega
          have nxy : gx ≠ gy := by omega
          have ge1 : w.heap.size + 2 ≤ lo 1 := Nat.le_trans hs4 (hb 1 (by simp)).1
          have ge3 : w.heap.size + 2 ≤ lo 3 := Nat.le_trans hs4 (hb 3 (by simp)).1
          have ge4 : w.heap.size + 2 ≤ lo 4 := Nat.le_trans hs4 (hb 4 (by simp)).1
          have ge5 : w.heap.size + 2 ≤ lo 5 := Nat.le_trans hs4 (hb 5 (by simp)).1
          have bAV := bA3.kept hgW (by simp)
          have bBV := bB3.kept hgW (by simp)
          have ox' := ox.base_ ge1
          have oy' := oy.base_ ge3
          have hgE := grown_trans hgD hgW
          simp only [Grow.putL, t0, t1, t2, t3, t4, t5]
          generalize lo 4 = g5 at *
          generalize lo 5 = g6 at *
          clear t0 t1 t2 t3 t4 t5 hb hap k45 k13 u4 u5 lx1 lx2 ly1 ly2 hgV hgW ge1 ge3 CX CY ox oy
          have e0 := b4.c0
          have e1 := b4.c1
          have f0 := b4.f 0
          have f1 := b4.f 1
          refine wpAny_ready (rs := [6]) (by kernel_rfl) (by simp) ?_
          refine AllReady.cons rfl (fun K hK => ?_) AllReady.nil
          go_simp
          refine hK _ _ ?_
          clear hK K
          have e2 := b5.c0
          have e3 := b5.c1
          have f2 := b5.f 0
          have f3 := b5.f 1
          refine wpAny_ready (rs := [7]) (by kernel_rfl) (by simp) ?_
          refine AllReady.cons rfl (fun K hK => ?_) AllReady.nil
          go_simp
          refine hK _ _ ?_
          clear hK K
          refine wpAny_done (by kernel_rfl) ?_ _
          clear e0 e1 e2 e3 f0 f1 f2 f3
          have P5 := (((b4.s0 (.slice (some ⟨gx, 0, none⟩) n cx)).s1 (.int .i64 x)).other (k := 0) n45 (.slice (some ⟨gy, 0, none⟩) m cy)).other (k := 1) n45 (.int .i64 y)
          have b5' := (b5.other (k := 0) n54 (.slice (some ⟨gx, 0, none⟩) n cx)).other (k := 1) n54 (.int .i64 x)
          have P6 := (b5'.s0 (.slice (some ⟨gy, 0, none⟩) m cy)).s1 (.int .i64 y)
          have hl5 : w.heap.size ≤ g5 := by omega
          have hl6 : w.heap.size ≤ g6 := by omega
          have PA := (((bAV.other (b' := g5) (k := 0) (by omega) (.slice (some ⟨gx, 0, none⟩) n cx)).other (b' := g5) (k := 1) (by omega) (.int .i64 x)).other (b' := g6) (k := 0) (by omega) (.slice (some ⟨gy, 0, none⟩) m cy)).other (b' := g6) (k := 1) (by omega) (.int .i64 y)
          have PB := (((bBV.other (b' := g5) (k := 0) (by omega) (.slice (some ⟨gx, 0, none⟩) n cx)).other (b' := g5) (k := 1) (by omega) (.int .i64 x)).other (b' := g6) (k := 0) (by omega) (.slice (some ⟨gy, 0, none⟩) m cy)).other (b' := g6) (k := 1) (by omega) (.int .i64 y)
          have OX := own_two4 ox' b4 b5 n45 (.slice (some ⟨gx, 0, none⟩) n cx) (.int .i64 x) (.slice (some ⟨gy, 0, none⟩) m cy) (.int .i64 y)
          have OY := own_two4 oy' b4 b5 n45 (.slice (some ⟨gx, 0, none⟩) n cx) (.int .i64 x) (.slice (some ⟨gy, 0, none⟩) m cy) (.int .i64 y)
          have hgF := grown_put (grown_put (grown_put (grown_put hgE hl5 0 (.slice (some ⟨gx, 0, none⟩) n cx)) hl5 1 (.int .i64 x)) hl6 0 (.slice (some ⟨gy, 0, none⟩) m cy)) hl6 1 (.int .i64 y)
          clear b4 b5 b5' bAV bBV hgE bA3 bB3 ox' oy' hl5 hl6 gD hgD d0 d1 d2 d3
          generalize (((V.setCell ⟨g5, 0, none⟩ (.slice (some ⟨gx, 0, none⟩) n cx)).setCell ⟨g5, 1, none⟩ (.int .i64 x)).setCell ⟨g6, 0, none⟩ (.slice (some ⟨gy, 0, none⟩) m cy)).setCell ⟨g6, 1, none⟩ (.int .i64 y) = W5 at *
          have CN := Lib.hid (new_any W5 (some ⟨gx, 0, none⟩) n cx L x hL2 hL1 (by omega) OX.reads)
          have x0 := P5.c0
          have x1 := P5.c1
          go_wp2_with fail
          refine CN.out.mono ?_; rintro e W6 ⟨g, rfl, hR6, hg6⟩
          clear CN x0 x1
          have y0 := (P6.kept hg6 (by simp)).c0
          have y1 := (P6.kept hg6 (by simp)).c1
          have CP := Lib.hid (push_any W6 W5.heap.size g 1 _ (some ⟨gy, 0, none⟩) m cy M y hR6 (by omega) hg6.size (by omega) hM2 hM1 (by omega) (hR6.after (OY.grown0 hg6)))
          go_wp2_with fail
          refine CP.out.mono ?_; rintro e W7 ⟨rfl, hR7, hg7⟩
          have hge := hR7.ge
          have l5 := P5.lt
          have l6 := P6.lt
          have Q5 := (P5.kept hg6 (by simp)).kept hg7 (fun e => by cases e; omega)
          have Q6 := (P6.kept hg6 (by simp)).kept hg7 (fun e => by cases e; omega)
          have QA := (PA.kept hg6 (by simp)).kept hg7 (fun e => by cases e; omega)
          have QB := (PB.kept hg6 (by simp)).kept hg7 (fun e => by cases e; omega)
          have hOX := hR6.keeps (OX.grown0 hg6) hg7
          have hOY := hR6.keeps (OY.grown0 hg6) hg7
          have hgG := grown_new (grown_trans hgF hg6) hg7 (fun e h => by cases h; omega)
          have hlx := (OX.row_lt (by rw [hL3]; omega))
          have hly := (OY.row_lt (by rw [hM3]; omega))
          have hgeF := hgF.size
          clear CP y0 y1 hR6 OX OY P5 P6 PA PB hgF hg6 hg7
          obtain ⟨key, hk0, _, _⟩ := flat_int hL2 (i := 0) (k := 0) (by omega) (by omega) rfl
          have kx := hOX.cell_ (j := 0) (by rw [hL3]; omega)
          rw [show (0 * 51 + 0) = 0 from rfl] at hk0
          rw [hk0] at kx
          have fx := hOX.frozen_ (by rw [hL3]; omega) rfl 0
          have q0 := Q5.c0
          clear hk0
          have hn' : (0 : Int) < (n : Int) := by omega
          go_wp2_with fail
          go_still_tail 10, (by kernel_rfl)
          go_wp2_with fail
          have hg8 := grown_drew (grownBy_setCell W7 gx 0 (.int .i64 (bits .xor .i64 key 1)))
          generalize (W7.setCell ⟨gx, 0, none⟩ (.int .i64 (bits .xor .i64 key 1))).drew = W8 at *
          have nx6 := Q6.apart hOX (by rw [hL3]; omega)
          have hR8 := hR7.far hg8 hlx.2
          have Q6' := Q6.kept hg8 (fun e => nx6 (by cases e; rfl))
          have QA' := QA.kept hg8 (fun e => by cases e; omega)
          have QB' := QB.kept hg8 (fun e => by cases e; omega)
          have hOY' := hOY.other_ hg8 nxy
          have hgH := grown_new hgG hg8 (fun e h => by cases h; omega)
          clear kx fx q0 hn' hOX hOY Q5 Q6 QA QB hR7 hg8 hgG
          obtain ⟨tx, ht0, ht1⟩ := flat_text hM2 (i := m - 1) (by omega)
          have ht2 := HT _ (List.getElem_mem (h := (by omega : m - 1 < M.length))) tx
          have ky := hOY'.cell_ (j := (m - 1) * 51 + 50) (by rw [hM3]; omega)
          rw [ht0] at ky
          have fy := hOY'.frozen_ (by rw [hM3]; omega) rfl ((m - 1) * 51 + 50)
          have q0 := Q6'.c0
          have hm1 : (0 : Int) ≤ (m : Int) - 1 := by omega
          have hm2 : (m : Int) - 1 < (m : Int) := by omega
          have hm5 : (1 : Int) ≤ (m : Int) := by omega
          have hm6 : 1 ≤ m := by omega
          have hm3 : ((m : Int) - 1).toNat = m - 1 := by omega
          have hm4 : IntKind.i64.wrap ((m : Int) - 1) = (m : Int) - 1 := IntWalk.i64_in _ (by omega)
          have ht3 : tx.size + 1 ≤ 9223372036854775807 := by
            have := ht2 ht1
            omega
          have hadd := fun W => run_string_add_sum (P := Try.prog) (w := W) tx ⟨#[33]⟩ (by show tx.size + 1 ≤ _; exact ht3)
          clear ht0 ht2 ht1
          go_still_tail 18, (by kernel_rfl)
          go_wp2_with fail
          have hg9 := grown_drew (grownBy_setCell W8 gy ((m - 1) * 51 + 50) (.string (tx ++ ⟨#[33]⟩)))
          generalize (W8.setCell ⟨gy, (m - 1) * 51 + 50, none⟩ (.string (tx ++ ⟨#[33]⟩))).drew = W9 at *
          have hR9 := hR8.far hg9 hly.2
          have QA9 := QA'.kept hg9 (fun e => by cases e; omega)
          have QB9 := QB'.kept hg9 (fun e => by cases e; omega)
          have hgI := grown_new hgH hg9 (fun e h => by cases h; omega)
          obtain ⟨f2, hf2⟩ : ∃ f2, f2 = upd (upd (fun _ => ([], 0)) 1 (L, x)) ((1 + 1) % 4) (M, y) := ⟨_, rfl⟩
          rw [← hf2] at hR9
          have F1 := Lib.hid (show f2 (1 % 4) = (L, x) by rw [hf2]; rfl)
          have F2 := Lib.hid (show f2 (2 % 4) = (M, y) by rw [hf2]; rfl)
          have HOP : OwnPost w W9 W5.heap.size g f2 A n c x B m d y := ⟨hR9, QA9, QB9, hgI⟩
          have HOP' := Lib.hid HOP
          clear hf2 HOP hR9 QA9 QB9 hgI ky fy q0 hm1 hm2 hm3 hm4 hm5 hm6 ht3 hadd hg9 hR8 Q6' QA' QB' hOY' hgH hge l5 l6 hlx hly
          go_wp2_with fail
          go_loopw [8, 9, 10, 11, 12, 13, 14] (fun i _ _ _ _ _ _ wr => ∃ k : Nat, k ≤ 2 ∧ i = .int .i64 (k : Int) ∧ OwnPost w wr W5.heap.size g f2 A n c x B m d y) (fun i _ _ _ _ _ _ _ => 3 - (intOf i).toNat)
          case atStart => exact ⟨0, by omega, rfl, HOP'.out⟩
          case round =>
            obtain ⟨k, hk, rfl, HP⟩ := hrel
            clear HOP'
            obtain ⟨wo, rfl⟩ : ∃ wo : World, wo = wr := ⟨_, rfl⟩
            obtain ⟨hR, QA, QB, hgw⟩ := HP
            by_cases hlt : k < 2
            · have CG1 := Lib.hid (fun V (hg : wo.grownBy V none) => get_at (hR.grown0 hg) (v := 1) (by omega) (by omega) F1.out hL1 1 rfl)
              have CG2 := Lib.hid (fun V (hg : wo.grownBy V none) => get_at (hR.grown0 hg) (v := 2) (by omega) (by omega) F2.out hM1 2 rfl)
              have CSA := Lib.hid (fun V A' (hg : wo.grownBy V none) (ho : Reads V V.heap.size A' L.flatten) => same_self A' n n L x A n c V hL2 hL1 ho ((hrA.grown0 (grown_trans hgw hg)).more (grown_trans hgw hg).size) (by omega))
              have CSB := Lib.hid (fun V A' (hg : wo.grownBy V none) (ho : Reads V V.heap.size A' M.flatten) => same_self A' m m M y B m d V hM2 hM1 ho ((hrB.grown0 (grown_trans hgw hg)).more (grown_trans hgw hg).size) (by omega))
              have HP' := Lib.hid (show OwnPost w wo W5.heap.size g f2 A n c x B m d y from ⟨hR, QA, QB, hgw⟩)
              clear hR hgw
              go_wp2_with fail
              refine (CG1.out _ (World.grownBy.refl _ _)).mono ?_; rintro e V1 ⟨A1, rfl, ho1, hv1⟩
              have b1 := Two.new V1 24 (.slice A1 n n) (.int .i64 x)
              have hgB := grown_trans hv1 (World.grownBy_alloc V1 (.cells #[.slice A1 n n, .int .i64 x] 24) none)
              obtain ⟨gp, rfl, _, hp1, hp2, _⟩ := ho1.cells_ (by rw [hL3]; omega)
              go_wp2_with fail
              refine (CG2.out _ hgB).mono ?_; rintro e V2 ⟨A2, rfl, ho2, hv2⟩
              have b2 := Two.new V2 24 (.slice A2 m m) (.int .i64 y)
              have b1' := (b1.kept hv2 (by simp)).kept (World.grownBy_alloc V2 (.cells #[.slice A2 m m, .int .i64 y] 24) none) (by simp)
              have hv1C := grown_trans (grown_trans (World.grownBy_alloc V1 (.cells #[.slice (some ⟨gp, 0, none⟩) n n, .int .i64 x] 24) none) hv2) (World.grownBy_alloc V2 (.cells #[.slice A2 m m, .int .i64 y] 24) none)
              have hgC := grown_trans hv1 hv1C
              have ho1C := ho1.grown0 hv1C
              have ho2C := ho2.alloc (.cells #[.slice A2 m m, .int .i64 y] 24)
              obtain ⟨gq, rfl, _, hq1, hq2, _⟩ := ho2.cells_ (by rw [hM3]; omega)
              have hl1 := b1'.lt
              have hl2 := b2.lt
              have hsz1 := hgB.size
              have hszv1 := hv1.size
              have hszv2 := hv2.size
              rw [World.size_alloc] at hsz1 hszv2
              have hq3 := hq1
              rw [World.size_alloc] at hq3
              have QAC := QA.kept hgC (by simp)
              have QBC := QB.kept hgC (by simp)
              have hlA := QA.lt
              have hlB := QB.lt
              have CA := Lib.hid (CSA.out _ _ hgC ho1C.reads)
              clear b1 hgB hv1 hv1C ho1 ho2 hv2 CG1 CG2 QA QB CSA
              have x0 := b1'.c0
              have x1 := b1'.c1
              have x2 := QAC.c0
              have x3 := QAC.c1
              go_wp2_with fail
              refine CA.out.mono ?_; rintro e V4 ⟨rfl, hg4⟩
              have hgD := grown_trans hgC hg4
              have b1D := b1'.kept hg4 (by simp)
              have b2D := b2.kept hg4 (by simp)
              have ho1D := ho1C.grown0 hg4
              have ho2D := ho2C.grown0 hg4
              have QBD := QBC.kept hg4 (by simp)
              have CB := Lib.hid (CSB.out _ _ hgD ho2D.reads)
              clear x0 x1 x2 x3 CA hgC b1' b2 ho1C ho2C QAC QBC hg4 CSB
              have x0 := b2D.c0
              have x1 := b2D.c1
              have x2 := QBD.c0
              have x3 := QBD.c1
              go_wp2_with fail
              refine CB.out.mono ?_; rintro e V5 ⟨rfl, hg5⟩
              have hgE := grown_trans hgD hg5
              have b1E := b1D.kept hg5 (by simp)
              have b2E := b2D.kept hg5 (by simp)
              have ho1E := ho1D.grown0 hg5
              have ho2E := ho2D.grown0 hg5
              clear x0 x1 x2 x3 CB hgD b1D b2D ho1D ho2D QBD hg5
              go_wp2_with fail
              go_loopw [13] (fun i wi => ∃ k : Nat, k ≤ n ∧ i = .int .i64 (k : Int) ∧ (∃ xs, Own wi wo.heap.size 59 51 (some ⟨gp, 0, none⟩) n n xs) ∧ V5.grownBy wi (some gp)) (fun i _ => n - (intOf i).toNat)
              case atStart => exact ⟨0, by omega, rfl, ⟨_, ho1E⟩, World.grownBy.refl _ _⟩
              case round =>
                obtain ⟨k1, hk1, rfl, ⟨xs, hox⟩, hgi⟩ := hrel
                have bb := b1E.kept hgi (fun e => by cases e; omega)
                have z0 := bb.c0
                by_cases hlt1 : k1 < n
                · have hlen := hox.1
                  obtain ⟨v, hv⟩ : ∃ v, xs[k1 * 51 + 1]? = some v := ⟨_, List.getElem?_eq_getElem (by omega)⟩
                  have z1 := hox.cell_ (j := k1 * 51 + 1) (by omega)
                  rw [hv] at z1
                  have z2 := hox.frozen_ (by omega) rfl (k1 * 51 + 1)
                  have hNew := Lib.hid (hox.set_ (k1 * 51 + 1) (.int .i64 (-1)))
                  have hgN := Lib.hid (grown_trans hgi (grownBy_setCell _ gp (k1 * 51 + 1) (.int .i64 (-1))))
                  clear hv hlen hox hgi
                  go_wp2_with fail
                  go_roundw
                  case rel => exact ⟨k1 + 1, by omega, by go_num, ⟨_, hNew.out⟩, hgN.out⟩
                  case measure => simp [intOf]; omega
                · have b2F := b2E.kept hgi (fun e => by cases e; omega)
                  have nqp : gp ≠ gq := by omega
                  have ho2F := ho2E.other_ hgi nqp
                  clear hox bb b1E b2E ho1E ho2E
                  obtain ⟨V6, rfl⟩ : ∃ V6 : World, V6 = wr := ⟨_, rfl⟩
                  go_wp2_with fail
                  clear z0
                  go_loopw [14] (fun i wi => ∃ k : Nat, k ≤ m ∧ i = .int .i64 (k : Int) ∧ (∃ xs, Own wi wo.heap.size 59 51 (some ⟨gq, 0, none⟩) m m xs) ∧ V6.grownBy wi (some gq)) (fun i _ => m - (intOf i).toNat)
                  case atStart => exact ⟨0, by omega, rfl, ⟨_, ho2F.base_ (by rw [World.size_alloc]; omega)⟩, World.grownBy.refl _ _⟩
                  case round =>
                    obtain ⟨k2, hk2, rfl, ⟨xs, hox⟩, hgj⟩ := hrel
                    have bb := b2F.kept hgj (fun e => by cases e; omega)
                    have z0 := bb.c0
                    by_cases hlt2 : k2 < m
                    · have hlen := hox.1
                      obtain ⟨v, hv⟩ : ∃ v, xs[k2 * 51 + 1]? = some v := ⟨_, List.getElem?_eq_getElem (by omega)⟩
                      have z1 := hox.cell_ (j := k2 * 51 + 1) (by omega)
                      rw [hv] at z1
                      have z2 := hox.frozen_ (by omega) rfl (k2 * 51 + 1)
                      have hNew := Lib.hid (hox.set_ (k2 * 51 + 1) (.int .i64 (-1)))
                      have hgN := Lib.hid (grown_trans hgj (grownBy_setCell _ gq (k2 * 51 + 1) (.int .i64 (-1))))
                      clear hv hlen hox hgj
                      go_wp2_with fail
                      go_roundw
                      case rel => exact ⟨k2 + 1, by omega, by go_num, ⟨_, hNew.out⟩, hgN.out⟩
                      case measure => simp [intOf]; omega
                    · have hgK := grown_new (grown_new hgE hgi (fun e h => by cases h; omega)) hgj (fun e h => by cases h; omega)
                      clear hox bb b2F ho2F hgi hgj
                      go_wp2_with fail
                      go_roundw
                      case rel => exact ⟨k + 1, by omega, by go_num, HP'.out.1.grown0 hgK, HP'.out.2.1.kept hgK (by simp), HP'.out.2.2.1.kept hgK (by simp), grown_trans HP'.out.2.2.2 hgK⟩
                      case measure => simp [intOf]; omega
            · clear hR QA QB
              go_wp2_with fail
              go_ret
              exact ⟨rfl, grown_below hgw⟩
end Go.Proofs.Ytkailfigoogfeaa
