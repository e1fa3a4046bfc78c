/- The mutations: a style set, a text set. -/
import Derived.Test.YtjnbfgogmhfbiaaVi
namespace Go.Proofs.Ytjnbfgogmhfbiaa
open Go Go.RowKit
theorem flatten_set {L : List (List Value)} (h : ∀ y ∈ L, y.length = 51) : ∀ (i k : Nat) (v : Value), i < L.length → k < 51 → L.flatten.set (i * 51 + k) v = (L.set i ((nd L i).set k v)).flatten := by
  induction L with
  | nil => intro i k v hi _; simp at hi
  | cons y r ih =>
    intro i k v hi hk
    have hy := h y (by simp)
    cases i with
    | zero =>
      simp only [List.flatten_cons, List.set_cons_zero, Nat.zero_mul, Nat.zero_add]
      rw [List.set_append_left _ _ (by omega)]
      rfl
    | succ i =>
      simp only [List.flatten_cons, List.set_cons_succ]
      rw [List.set_append_right _ _ (by omega), show (i + 1) * 51 + k - y.length = i * 51 + k by omega, ih (fun z hz => h z (by simp [hz])) i k v (by simpa using hi) hk]
      rfl
theorem okAll_set : ∀ (ls : List Lf) (cs : List Value) (k : Nat) (l : Lf) (v : Value), OkAll ls cs → ls[k]? = some l → l.ok v → OkAll ls (cs.set k v)
  | [], _, _, _, _, _, h, _ => by simp at h
  | a :: r, _, 0, l, v, ⟨c, cs, e, h1, h2⟩, hl, hv => by
    subst e
    simp only [List.getElem?_cons_zero, Option.some.injEq] at hl
    subst hl
    exact ⟨v, cs, rfl, hv, h2⟩
  | a :: r, _, k + 1, l, v, ⟨c, cs, e, h1, h2⟩, hl, hv => by
    subst e
    exact ⟨c, _, rfl, h1, okAll_set r cs k l v h2 (by simpa using hl) hv⟩
theorem okAll_append : ∀ {l1 l2 : List Lf} {x y : List Value}, OkAll l1 x → OkAll l2 y → OkAll (l1 ++ l2) (x ++ y)
  | [], _, _, _, h, h2 => by cases h; exact h2
  | a :: r, _, _, _, ⟨c, cs, e, h1, h2⟩, h3 => by subst e; exact ⟨c, _, rfl, h1, okAll_append h2 h3⟩
theorem withSty_ok {z y : List Value} (hz : OkAll nodeLs z) (hy : OkAll nodeLs y) : OkAll nodeLs (withSty z y) := by
  have h := okAll_append (okAll_append (okAll_take 3 _ _ hz) (styN_ok hy)) (okAll_drop 50 _ _ hz)
  exact h
theorem okAll_text {y : List Value} (hy : OkAll nodeLs y) : ∃ s : ByteArray, y[50]? = some (.string s) ∧ s.size = lenN y ∧ s.size ≤ maxLen := by
  obtain ⟨s, h1, h2, h3⟩ := n_text hy
  exact ⟨s, h1, h2, by unfold maxLen; omega⟩
theorem withText_ok {z y : List Value} (hz : OkAll nodeLs z) (hy : OkAll nodeLs y) : OkAll nodeLs (withText z y) := by
  obtain ⟨s, h1, _, h2⟩ := okAll_text hy
  unfold withText
  rw [h1]
  exact okAll_set nodeLs z 50 .str _ hz rfl ⟨s, rfl, h2⟩
theorem set_ok {L : List (List Value)} (h : ∀ y ∈ L, OkAll nodeLs y) {i : Nat} {z : List Value} (hz : OkAll nodeLs z) : ∀ y ∈ L.set i z, OkAll nodeLs y := fun y hy => by
  rcases List.mem_or_eq_of_mem_set hy with h1 | h1
  · exact h y h1
  · rw [h1]; exact hz
theorem nd_ok_ {L : List (List Value)} (h : ∀ y ∈ L, OkAll nodeLs y) {i : Nat} (hi : i < L.length) : OkAll nodeLs (nd L i) := h _ (List.mem_of_getElem? (nd_get hi))
theorem layL_flatten {i : Nat} : ∀ (vs : List Value) (o : Nat) (L : List (List Value)), (∀ y ∈ L, y.length = 51) → i < L.length → o + vs.length ≤ 51 → layL L.flatten (i * 51 + o) vs = (L.set i (layL (nd L i) o vs)).flatten
  | [], o, L, h, hi, _ => by
    have : L.set i (nd L i) = L := by
      unfold nd
      rw [List.getElem?_eq_getElem hi]
      simp
    show L.flatten = (L.set i (nd L i)).flatten
    rw [this]
  | v :: r, o, L, h, hi, ho => by
    simp only [List.length_cons] at ho
    have hl : (nd L i).length = 51 := h _ (List.mem_of_getElem? (nd_get hi))
    have h' : ∀ y ∈ L.set i ((nd L i).set o v), y.length = 51 := fun y hy => by
      rcases List.mem_or_eq_of_mem_set hy with h1 | h1
      · exact h y h1
      · rw [h1, List.length_set]; exact hl
    rw [layL, flatten_set h i o v hi (by omega), Nat.add_assoc, layL_flatten r (o + 1) _ h' (by simpa using hi) (by omega), List.set_set, nd_set_same hi]
    rfl
theorem DocAt.some_ {w : World} {B p n c i : Nat} {A : Option Addr} {L : List (List Value)} {x : Int} (h : DocAt w B p A n c L x) (hi : i < n) : ∃ g, A = some ⟨g, 0, none⟩ ∧ rowOf A c = some g ∧ B ≤ g := by
  obtain ⟨g, h1, h2, h3, _⟩ := h.own.cells_ (by rw [h.own.len]; omega)
  exact ⟨g, h1, h2, h3⟩
theorem DocAt.at_ {w : World} {B p n c i g : Nat} {L : List (List Value)} {x : Int} (h : DocAt w B p (some ⟨g, 0, none⟩) n c L x) (hi : i < n) (k : Nat) (hk : k < 51) : w.cell? ⟨g, i * 51 + k, none⟩ = (nd L i)[k]? ∧ w.frozen? ⟨g, i * 51 + k, none⟩ = false := by
  obtain ⟨g', h1, _, _, _, hc⟩ := h.own.cells_ (by rw [h.own.len]; omega)
  cases h1
  refine ⟨?_, h.own.frozen_ (by rw [h.own.len]; omega) rfl _⟩
  rw [hc _ (by rw [h.own.len]; omega), flatten_get 51 (by omega) L (fun y hy => (h.ok y hy).len), show (i * 51 + k) / 51 = i by omega, show (i * 51 + k) % 51 = k by omega]
  unfold nd
  cases hh : L[i]? with
  | none =>
    have := h.len
    rw [List.getElem?_eq_none_iff] at hh
    omega
  | some y => rfl
theorem len51 {L : List (List Value)} (h : ∀ y ∈ L, OkAll nodeLs y) : ∀ y ∈ L, y.length = 51 := fun y hy => (h y hy).len
set_option maxRecDepth 100000 in
set_option maxHeartbeats 2000000 in
theorem style_any (B p : Nat) (A : Option Addr) (n k : Nat) (L : List (List Value)) (x : Int) (c : Chg) (w : World) (hD : DocAt w B p A n k L x) (hc : c.ok) :
    Calls Try.prog 33 #[.pointer (some ⟨p, 0, none⟩), .agg c.cells] w (OpPost w B p (rowOf A k) (styleL L x c.key c.y)) := by
  have hD' := Lib.hid hD
  have hc' := Lib.hid hc
  have hf := hD.few
  have hnc := hD.own.2.1
  have hcm : k ≤ 9223372036854775807 := by have := hD.own.2.2.1; unfold maxLen at this; exact this
  have hg0 := World.grownBy_alloc w (.cells c.cells 34) none
  have HR := chg_box w c
  have HD := Lib.hid (fun W (hg : (w.alloc (.cells c.cells 34)).grownBy W none) => hD.grown (grown_trans hg0 hg))
  have CP := Lib.hid (fun W (hg : (w.alloc (.cells c.cells 34)).grownBy W none) => place_any A n k L x c.key W (HD.out W hg).nodes)
  have hr := World.grownBy.refl (w.alloc (.cells c.cells 34)) none
  have e1 := (HR.out _ hr).at 1
  rw [Chg.c1] at e1
  obtain ⟨c0, c1⟩ := (HD.out _ hr).cells
  have hg0' := Lib.hid hg0
  clear hD hg0 hc
  go_enter Try.func33, Try.ntmps33
  go_wp2_with fail
  generalize hW0 : w.alloc (.cells c.cells 34) = W0 at *
  go_still_tail 5, (by kernel_rfl)
  change wpList _ _ _ _ _ W0.drew
  have hr2 := grown_drew (World.grownBy.refl W0 none)
  go_wp2_with fail
  refine (CP.out _ hr2).mono ?_; rintro r w1 ⟨hres, hg1⟩
  replace hg1 := grown_trans hr2 hg1
  clear c0 c1 e1 hr hr2 CP
  rcases hres with ⟨hf1, rfl⟩ | ⟨hf1, rfl⟩
  · obtain ⟨u, hu, hul, _⟩ := findI_spec hf1
    rw [hu]
    have hun : u < n := by have := hD'.out.len; omega
    obtain ⟨g, rfl, hrow, _⟩ := hD'.out.some_ hun
    have hspec := Lib.hid (show styleL L x c.key c.y = if kindN (nd L u) = 0 then (if styB c.y then .ok (L.set u (withSty (nd L u) c.y), x) else .error 60) else .error 70 by
      unfold styleL
      rw [if_pos (by omega), hu]
      rfl)
    have D1 := HD.out _ hg1
    obtain ⟨c0, c1⟩ := D1.cells
    have zk := (D1.at_ hun 2 (by omega)).1
    rw [(n_kind (nd_ok_ D1.ok (by rw [D1.len]; exact hun))).1] at zk
    clear hu hf1 D1 hul
    by_cases hk : kindN (nd L u) = 0
    · have hk' := Lib.hid hk
      have d1 : (kindN (nd L u) == 0) = true := by simp [hk]
      rw [hk] at zk
      clear hk d1
      go_wp2_with fail
      refine (must_yes 70 w1).mono ?_; rintro r w2 ⟨rfl, rfl⟩
      have R1 := HR.out _ hg1
      go_wp2_with (refine wpList_value rfl (exec_load (T := 30) (x := .tmp 22) (a := ⟨w.heap.size, 7, none⟩) rfl (by kernel_rfl) (chg_style R1 hc'.out)) ?_; simp only [Act.put, List.setIfInBounds_toArray, List.set_cons_zero, List.set_cons_succ])
      refine (stymay_node hc'.out.y w2).mono ?_; rintro r w3 ⟨rfl, hg3⟩
      replace hg1 := grown_trans hg1 hg3
      clear hg3 R1
      cases hs : styB c.y with
      | false =>
        have hs' := Lib.hid hs
        clear hs
        go_wp2_with fail
        refine (must_no 60 w3).mono ?_; rintro r w4 ⟨rfl, rfl⟩
        go_wp2_with fail
        refine ⟨rfl, ?_⟩
        rw [hspec.out, if_pos hk'.out, if_neg (by rw [hs'.out]; simp)]
        exact (OpPost.err rfl (HD.out _ hg1) (Mut.ofGrown hg1 (.inl rfl))).widen hg0'.out
      | true =>
        have hs' := Lib.hid hs
        clear hs
        go_wp2_with fail
        refine (must_yes 60 w3).mono ?_; rintro r w4 ⟨rfl, rfl⟩
        clear c0 c1 zk
        have R1 := (HR.out _ hg1).kept0 (grown_drew (World.grownBy.refl _ none))
        have D1 := HD.out _ (grown_drew hg1)
        obtain ⟨c0, c1⟩ := (HD.out _ hg1).cells
        have i1 : (0 : Int) ≤ (u : Int) := by omega
        have i2 : (u : Int) < (n : Int) := by omega
        go_wp2_with fail
        refine wp_region_still_tail 10 (by kernel_rfl) (by kernel_rfl) ?_
        simp only [List.take_succ_cons, List.take_zero, List.drop_succ_cons, List.drop_zero]
        change wpStill _ _ w4.drew _ _ _
        have c0' : w4.drew.cell? ⟨p, 0, none⟩ = some (.slice (some ⟨g, 0, none⟩) n k) := c0
        iterate 7 still_step
        refine wpStill_value (by kernel_rfl) (exec_load (T := 30) (x := .tmp 32) (a := ⟨w.heap.size, 7, none⟩) rfl (by kernel_rfl) (chg_style R1 hc'.out)) ?_
        simp only [Act.put, List.setIfInBounds_toArray, List.set_cons_zero, List.set_cons_succ]
        repeat still_step
        refine wpStill_nil ?_
        refine wpList_skip (by rfl) (exec_store_many (T := 30) (x := .tmp 35) (y := .tmp 33) (g := g) (off := u * 51 + 3) (ds := styN c.y) (by rfl) (by kernel_rfl) (by kernel_rfl) (by rw [styN_len hc'.out.y]; exact infoSty) (sty_one hc'.out.y)
          (fun j hj => by
            rw [styN_len hc'.out.y] at hj
            rw [Nat.add_assoc]
            show (w4.drew.cell? _).isSome = true
            rw [(D1.at_ hun (3 + j) (by omega)).1, List.getElem?_eq_getElem (by rw [(nd_ok_ D1.ok (by rw [D1.len]; exact hun)).len, nodeLs_len]; omega)]
            rfl)
          (fun j hj => by
            rw [styN_len hc'.out.y] at hj
            rw [Nat.add_assoc]
            exact (D1.at_ hun (3 + j) (by omega)).2)) ?_
        simp only [Act.put, List.setIfInBounds_toArray, List.set_cons_zero, List.set_cons_succ]
        have hul : u < L.length := by rw [D1.len]; exact hun
        have hfin : OpPost w B p (rowOf (some ⟨g, 0, none⟩) k) (styleL L x c.key c.y) (.returned (.tuple #[])) (w4.drew.setCells g (u * 51 + 3) (styN c.y)) := by
          rw [hspec.out, if_pos hk'.out, if_pos hs'.out]
          have hnd := nd_ok_ D1.ok hul
          have ho := D1.own.setCells (styN c.y) (u * 51 + 3) _ _
          rw [layL_flatten (styN c.y) 3 L (len51 D1.ok) hul (by rw [styN_len hc'.out.y]; omega), layL_sty _ _ hnd.len (styN_len hc'.out.y)] at ho
          refine (OpPost.fine rfl ⟨D1.two.kept (grownBy_setCells _ _ _) (fun e => D1.row_ne (by rw [hrow, e])), ho, set_ok D1.ok (withSty_ok hnd hc'.out.y), D1.few⟩ ((Mut.ofGrown (grown_drew hg1) (.inl rfl)).trans (Mut.ofGrown (grownBy_setCells _ _ _) (.inr (.inr hrow.symm))) (.inl rfl))).widen hg0'.out
        have hfin' := Lib.hid hfin
        clear hfin D1 R1 hul
        go_wp2_with fail
        go_end0
        exact hfin'.out
    · have hk' := Lib.hid hk
      have d1 : (kindN (nd L u) == 0) = false := by simpa using hk
      clear hk
      go_wp2_with fail
      refine (must_no 70 w1).mono ?_; rintro r w2 ⟨rfl, rfl⟩
      go_wp2_with fail
      refine ⟨rfl, ?_⟩
      rw [hspec.out, if_neg hk'.out]
      exact (OpPost.err rfl (HD.out _ hg1) (Mut.ofGrown hg1 (.inl rfl))).widen hg0'.out
  · go_wp2_with fail
    refine ⟨rfl, ?_⟩
    unfold styleL
    rw [if_neg (by omega)]
    exact (OpPost.err rfl (HD.out _ hg1) (Mut.ofGrown hg1 (.inl rfl))).widen hg0'.out
set_option maxRecDepth 100000 in
set_option maxHeartbeats 2000000 in
theorem text_any (B p : Nat) (A : Option Addr) (n k : Nat) (L : List (List Value)) (x : Int) (c : Chg) (w : World) (hD : DocAt w B p A n k L x) (hc : c.ok) :
    Calls Try.prog 35 #[.pointer (some ⟨p, 0, none⟩), .agg c.cells] w (OpPost w B p (rowOf A k) (textL L x c.key c.y)) := by
  have hD' := Lib.hid hD
  have hc' := Lib.hid hc
  have hf := hD.few
  have hnc := hD.own.2.1
  have hcm : k ≤ 9223372036854775807 := by have := hD.own.2.2.1; unfold maxLen at this; exact this
  have hg0 := World.grownBy_alloc w (.cells c.cells 34) none
  have HR := chg_box w c
  have HD := Lib.hid (fun W (hg : (w.alloc (.cells c.cells 34)).grownBy W none) => hD.grown (grown_trans hg0 hg))
  have CP := Lib.hid (fun W (hg : (w.alloc (.cells c.cells 34)).grownBy W none) => place_any A n k L x c.key W (HD.out W hg).nodes)
  have hr := World.grownBy.refl (w.alloc (.cells c.cells 34)) none
  have e1 := (HR.out _ hr).at 1
  rw [Chg.c1] at e1
  obtain ⟨c0, c1⟩ := (HD.out _ hr).cells
  have hg0' := Lib.hid hg0
  clear hD hg0 hc
  go_enter Try.func35, Try.ntmps35
  go_wp2_with fail
  generalize hW0 : w.alloc (.cells c.cells 34) = W0 at *
  go_still_tail 5, (by kernel_rfl)
  change wpList _ _ _ _ _ W0.drew
  have hr2 := grown_drew (World.grownBy.refl W0 none)
  go_wp2_with fail
  refine (CP.out _ hr2).mono ?_; rintro r w1 ⟨hres, hg1⟩
  replace hg1 := grown_trans hr2 hg1
  clear c0 c1 e1 hr hr2 CP
  rcases hres with ⟨hf1, rfl⟩ | ⟨hf1, rfl⟩
  · obtain ⟨u, hu, hul, _⟩ := findI_spec hf1
    rw [hu]
    have hun : u < n := by have := hD'.out.len; omega
    obtain ⟨g, rfl, hrow, _⟩ := hD'.out.some_ hun
    have hspec := Lib.hid (show textL L x c.key c.y = if kindN (nd L u) = 1 then .ok (L.set u (withText (nd L u) c.y), x) else .error 70 by
      unfold textL
      rw [if_pos (by omega), hu]
      rfl)
    have D1 := HD.out _ hg1
    obtain ⟨c0, c1⟩ := D1.cells
    have zk := (D1.at_ hun 2 (by omega)).1
    rw [(n_kind (nd_ok_ D1.ok (by rw [D1.len]; exact hun))).1] at zk
    clear hu hf1 D1 hul
    by_cases hk : kindN (nd L u) = 1
    · have hk' := Lib.hid hk
      rw [hk] at zk
      clear hk
      go_wp2_with fail
      refine (must_yes 70 w1).mono ?_; rintro r w2 ⟨rfl, rfl⟩
      obtain ⟨s, hs1, hs2, hs3⟩ := okAll_text hc'.out.y
      have R1 := (HR.out _ hg1).at 54
      rw [show 54 = 4 + 50 by rfl, Chg.cy, hs1] at R1
      have D1 := HD.out _ hg1
      have i1 : (0 : Int) ≤ (u : Int) := by omega
      have i2 : (u : Int) < (n : Int) := by omega
      have hul : u < L.length := by rw [D1.len]; exact hun
      have hnd := nd_ok_ D1.ok hul
      have z1 := (D1.at_ hun 50 (by omega)).1
      obtain ⟨vv, hvv⟩ : ∃ vv, (nd L u)[50]? = some vv := ⟨_, List.getElem?_eq_getElem (by rw [hnd.len, nodeLs_len]; omega)⟩
      rw [hvv] at z1
      have z2 := (D1.at_ hun 50 (by omega)).2
      have hfin : OpPost w B p (rowOf (some ⟨g, 0, none⟩) k) (textL L x c.key c.y) (.returned (.tuple #[])) (w2.drew.setCell ⟨g, u * 51 + 50, none⟩ (.string s)) := by
        rw [hspec.out, if_pos hk'.out]
        have D2 := HD.out _ (grown_drew hg1)
        have ho := D2.own.set_ (u * 51 + 50) (.string s)
        rw [flatten_set (len51 D2.ok) u 50 (.string s) hul (by omega)] at ho
        have hw : withText (nd L u) c.y = (nd L u).set 50 (.string s) := by unfold withText; rw [hs1]; rfl
        rw [hw]
        refine (OpPost.fine rfl ⟨D2.two.kept (grownBy_setCell _ _ _ _) (fun e => D2.row_ne (by rw [hrow, e])), ho, set_ok D2.ok (hw ▸ withText_ok hnd hc'.out.y), D2.few⟩ ((Mut.ofGrown (grown_drew hg1) (.inl rfl)).trans (Mut.ofGrown (grownBy_setCell _ _ _ _) (.inr (.inr hrow.symm))) (.inl rfl))).widen hg0'.out
      have hfin' := Lib.hid hfin
      clear hfin D1 hul hnd hs1 hs2 hs3 zk hvv
      go_wp2_with fail
      go_still_tail 10, (by kernel_rfl)
      change wpList _ _ _ _ _ w2.drew
      go_wp2_with fail
      go_end0
      exact hfin'.out
    · have hk' := Lib.hid hk
      have d1 : (kindN (nd L u) == 1) = false := by simpa using hk
      clear hk
      go_wp2_with fail
      refine (must_no 70 w1).mono ?_; rintro r w2 ⟨rfl, rfl⟩
      go_wp2_with fail
      refine ⟨rfl, ?_⟩
      rw [hspec.out, if_neg hk'.out]
      exact (OpPost.err rfl (HD.out _ hg1) (Mut.ofGrown hg1 (.inl rfl))).widen hg0'.out
  · go_wp2_with fail
    refine ⟨rfl, ?_⟩
    unfold textL
    rw [if_neg (by omega)]
    exact (OpPost.err rfl (HD.out _ hg1) (Mut.ofGrown hg1 (.inl rfl))).widen hg0'.out
end Go.Proofs.Ytjnbfgogmhfbiaa
