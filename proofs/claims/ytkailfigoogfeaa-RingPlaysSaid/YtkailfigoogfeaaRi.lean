/- RingPlays: both rings. -/
import Derived.Test.YtkailfigoogfeaaRh
import Derived.Test.YtkailfigoogfeaaRa
import Derived.Deep.CutBlock
namespace Go.Proofs.Ytkailfigoogfeaa
open Go Go.RowKit
theorem DocR.base_ {w : World} {base base' g M : Nat} {dl : List DV} (h : DocR w base g M dl) (hb : base' ≤ base) : DocR w base' g M dl := by
  obtain ⟨⟨h1, h2, h3⟩, h4, h5, A, c, h6, h7, h8⟩ := h
  exact ⟨⟨by omega, h2, h3⟩, h4, fun d hd => ⟨(h5 d hd).1, (h5 d hd).2.base_ hb⟩, A, c, h6, h7.base_ hb, h8⟩
/-- The program's ring and the document's, of the same documents. -/
def RP (w0 : World) (g g2 : Nat) (its : List (List (List Value) × Int)) (w : World) : Prop :=
  w0.grownBy w none ∧ 1 ≤ its.length ∧ its.length ≤ 30 ∧ ∃ f dl, dl.map DV.it = its ∧ RingIs w w0.heap.size g its.length f ∧ (∀ v, firstOf its.length ≤ v → v ≤ its.length → its[v - 1]? = some (f (v % 4))) ∧ DocR w w0.heap.size g2 w.heap.size dl
def gotD (its : List (List (List Value) × Int)) (v : Int) : List (List Value) × Int := if ((firstOf its.length : Nat) : Int) ≤ v ∧ v ≤ (its.length : Int) then (its[v.toNat - 1]?).getD ([], 0) else ([], 0)
def gotE (its : List (List (List Value) × Int)) (v : Int) : Int := if ((firstOf its.length : Nat) : Int) ≤ v ∧ v ≤ (its.length : Int) then 0 else 260
section
variable {w0 w w' : World} {g g2 : Nat} {its : List (List (List Value) × Int)}
theorem RP.grown0 (h : RP w0 g g2 its w) (hg : w.grownBy w' none) : RP w0 g g2 its w' := by
  obtain ⟨h1, h2, h3, f, dl, h4, h5, h6, h7⟩ := h
  exact ⟨grown_trans h1 hg, h2, h3, f, dl, h4, h5.grown0 hg, h6, (h7.grown0 hg).more⟩
theorem RP.got (h : RP w0 g g2 its w) (v : Int) : (∀ y ∈ (gotD its v).1, OkAll nodeLs y) ∧ (gotD its v).1.length ≤ 100000 := by
  obtain ⟨h1, h2, h3, f, dl, h4, h5, h6, h7⟩ := h
  unfold gotD
  split
  · cases hq : its[v.toNat - 1]? with
    | none => exact ⟨by simp, by simp⟩
    | some p =>
      rw [← h4, List.getElem?_map] at hq
      obtain ⟨d, hd, rfl⟩ := Option.map_eq_some_iff.1 hq
      exact (h7.2.2.1 d (List.mem_of_getElem? hd)).1
  · exact ⟨by simp, by simp⟩
theorem rp_get (h : RP w0 g g2 its w) (v : Int) :
    Calls Try.prog 10 #[.pointer (some ⟨g, 0, none⟩), .int .i64 v] w fun e w' => ∃ A' c', e = .returned (.tuple #[.agg #[.slice A' (gotD its v).1.length c', .int .i64 (gotD its v).2], .int .i64 (gotE its v)]) ∧ Own w' w.heap.size 59 51 A' (gotD its v).1.length c' (gotD its v).1.flatten ∧ w.grownBy w' none := by
  obtain ⟨h1, h2, h3, f, dl, h4, h5, h6, h7⟩ := h
  by_cases hv : ((firstOf its.length : Nat) : Int) ≤ v ∧ v ≤ (its.length : Int)
  · obtain ⟨u, rfl⟩ := Int.eq_ofNat_of_zero_le (Int.le_trans (Int.natCast_nonneg _) hv.1)
    have hu1 : firstOf its.length ≤ u := by omega
    have hu2 : u ≤ its.length := by omega
    have e1 : gotD its u = f (u % 4) := by
      unfold gotD
      rw [if_pos hv, Int.toNat_natCast, h6 u hu1 hu2]
      rfl
    have e2 : gotE its u = 0 := if_pos hv
    rw [e1, e2]
    refine (get_yes w _ g _ u f h5 h2 (by omega) hu1 hu2).mono ?_
    rintro e w' ⟨A', rfl, ho, hg⟩
    exact ⟨A', _, rfl, ho, hg⟩
  · have e1 : gotD its v = ([], 0) := if_neg hv
    have e2 : gotE its v = 260 := if_neg hv
    rw [e1, e2]
    refine (get_none w _ g _ v f h5 h2 (by omega) (by omega)).mono ?_
    rintro e w' ⟨rfl, hg⟩
    exact ⟨none, 0, rfl, Own.nil_ _ _ _ _ _, hg⟩
theorem rp_rget (h : RP w0 g g2 its w) (v : Int) :
    Calls Try.prog 20 #[.pointer (some ⟨g2, 0, none⟩), .int .i64 v] w fun e w' => ∃ A' c', e = .returned (.tuple #[.agg #[.slice A' (gotD its v).1.length c', .int .i64 (gotD its v).2], .int .i64 (gotE its v)]) ∧ Own w' w.heap.size 59 51 A' (gotD its v).1.length c' (gotD its v).1.flatten ∧ w.grownBy w' none := by
  obtain ⟨h1, h2, h3, f, dl, h4, h5, h6, h7⟩ := h
  have hl : dl.length = its.length := by rw [← h4, List.length_map]
  by_cases hv : ((firstOf its.length : Nat) : Int) ≤ v ∧ v ≤ (its.length : Int)
  · obtain ⟨u, rfl⟩ := Int.eq_ofNat_of_zero_le (Int.le_trans (Int.natCast_nonneg _) hv.1)
    have hu1 : firstOf its.length ≤ u := by omega
    have hu2 : u ≤ its.length := by omega
    have hf : firstOf its.length = max 1 (its.length - 3) := if_neg (by omega)
    obtain ⟨d, hd⟩ : ∃ d, dl[u - 1]? = some d := ⟨_, List.getElem?_eq_getElem (by omega)⟩
    have e1 : gotD its u = (d.L, d.x) := by
      unfold gotD
      rw [if_pos hv, Int.toNat_natCast, ← h4, List.getElem?_map, hd]
      rfl
    have e2 : gotE its u = 0 := if_pos hv
    rw [e1, e2]
    exact rget_yes w _ g2 _ u dl d h7 (by omega) (by rw [hl]; exact hu1) (by omega) hd
  · have e1 : gotD its v = ([], 0) := if_neg hv
    have e2 : gotE its v = 260 := if_neg hv
    rw [e1, e2]
    refine (rget_none w _ g2 _ dl v h7 (by omega) (by rw [hl]; omega)).mono ?_
    rintro e w' ⟨rfl, hg⟩
    exact ⟨none, 0, rfl, Own.nil_ _ _ _ _ _, hg⟩
theorem rp_first (h : RP w0 g g2 its w) : Calls Try.prog 12 #[.pointer (some ⟨g, 0, none⟩)] w fun e w' => e = .returned (.int .i64 ((firstOf its.length : Nat) : Int)) ∧ w = w' := by
  obtain ⟨h1, h2, h3, f, dl, h4, h5, h6, h7⟩ := h
  exact first_any w _ g _ f h5 h2 (by omega)
theorem rp_last (h : RP w0 g g2 its w) : Calls Try.prog 13 #[.pointer (some ⟨g, 0, none⟩)] w fun e w' => e = .returned (.int .i64 (its.length : Int)) ∧ w = w' := by
  obtain ⟨h1, h2, h3, f, dl, h4, h5, h6, h7⟩ := h
  exact last_any w _ g _ f h5
theorem rp_rfirst (h : RP w0 g g2 its w) : Calls Try.prog 18 #[.pointer (some ⟨g2, 0, none⟩)] w fun e w' => e = .returned (.int .i64 ((firstOf its.length : Nat) : Int)) ∧ w = w' := by
  obtain ⟨h1, h2, h3, f, dl, h4, h5, h6, h7⟩ := h
  have hl : dl.length = its.length := by rw [← h4, List.length_map]
  have := rfirst_any w _ g2 _ dl h7 (by omega)
  rwa [hl] at this
theorem rp_rlast (h : RP w0 g g2 its w) : Calls Try.prog 19 #[.pointer (some ⟨g2, 0, none⟩)] w fun e w' => e = .returned (.int .i64 (its.length : Int)) ∧ w = w' := by
  obtain ⟨h1, h2, h3, f, dl, h4, h5, h6, h7⟩ := h
  have hl : dl.length = its.length := by rw [← h4, List.length_map]
  have := rlast_any w _ g2 _ dl h7
  rwa [hl] at this
theorem firstOf_pos (n : Nat) (h : 1 ≤ n) : 1 ≤ firstOf n ∧ firstOf n ≤ n ∧ n ≤ firstOf n + 3 := by
  have : firstOf n = max 1 (n - 3) := if_neg (by omega)
  omega
/-- Both are made. -/
theorem RP.made {w1 w2 : World} {d : DV} {L : List (List Value)} {x : Int} (hg : w0.grownBy w none) (hR : RingIs w w1.heap.size g 1 (upd (fun _ => ([], 0)) 1 (L, x))) (h1 : w0.heap.size ≤ w1.heap.size) (hD : DocR w w2.heap.size g2 w.heap.size [d]) (h2 : w0.heap.size ≤ w2.heap.size) (hd : d.it = (L, x)) : RP w0 g g2 [(L, x)] w :=
  ⟨hg, by simp, by simp, _, [d], by simp [hd], hR.base_ h1, fun v hv1 hv2 => by
    have := firstOf_pos 1 (by omega)
    simp only [List.length_singleton] at hv1 hv2
    obtain rfl : v = 1 := by omega
    rw [upd_same]
    rfl, hD.base_ h2⟩
/-- Between the two pushes. -/
def RQ (w0 : World) (g g2 : Nat) (its : List (List (List Value) × Int)) (D : List (List Value) × Int) (M : Nat) (w : World) : Prop :=
  w0.grownBy w none ∧ 1 ≤ its.length ∧ its.length ≤ 29 ∧ ∃ f dl, dl.map DV.it = its ∧ RingIs w w0.heap.size g (its.length + 1) f ∧ (∀ v, firstOf (its.length + 1) ≤ v → v ≤ its.length + 1 → (its ++ [D])[v - 1]? = some (f (v % 4))) ∧ DocR w w0.heap.size g2 M dl
theorem rp_push {wr : World} (h : RP w0 g g2 its wr) (hg0 : wr.grownBy w none) (hl : its.length ≤ 29) (A : Option Addr) (n c : Nat) (L : List (List Value)) (x : Int) (b : Nat) (hL : ∀ y ∈ L, OkAll nodeLs y) (hLn : L.length = n) (hn : n ≤ 100000) (ho : Own w b 59 51 A n c L.flatten) :
    Calls Try.prog 9 #[.pointer (some ⟨g, 0, none⟩), .agg #[.slice A n c, .int .i64 x]] w fun e w' => e = .returned (.tuple #[.int .i64 ((its.length : Int) + 1), .int .i64 0]) ∧ RQ w0 g g2 its (L, x) wr.heap.size w' ∧ w.grownBy w' (some g) ∧ Own w' b 59 51 A n c L.flatten := by
  obtain ⟨h1, h2, h3, f, dl, h4, h5, h6, h7⟩ := h
  have h5 := h5.grown0 hg0
  have h7 := h7.grown0 hg0
  have h1 := grown_trans h1 hg0
  refine (push_any w _ g _ f A n c L x h5 h2 h1.size (by omega) hL hLn hn (fun W hg => (h5.keeps ho hg).reads)).mono ?_
  rintro e w' ⟨rfl, hR, hg⟩
  have h5' := h5
  obtain ⟨hge, cur, hcur, _⟩ := h5'
  refine ⟨by go_num, ⟨grown_new h1 hg (fun r e => by cases e; exact hge), h2, hl, _, dl, h4, hR, fun v hv1 hv2 => ?_, h7.ring hg hcur⟩, hg, h5.keeps ho hg⟩
  have hp := firstOf_pos its.length h2
  have hp1 := firstOf_pos (its.length + 1) (by omega)
  by_cases e : v = its.length + 1
  · subst e
    rw [upd_same, Nat.add_sub_cancel, List.getElem?_append_right (Nat.le_refl _)]
    simp
  · have e1 : firstOf its.length = max 1 (its.length - 3) := if_neg (by omega)
    have e2 : firstOf (its.length + 1) = max 1 (its.length + 1 - 3) := if_neg (by omega)
    rw [upd_ne _ _ (by omega), List.getElem?_append_left (by omega)]
    exact h6 v (by omega) (by omega)
theorem rq_push {D : List (List Value) × Int} {M : Nat} (h : RQ w0 g g2 its D M w) (A : Option Addr) (n c : Nat) (B : Nat) (hL : ∀ y ∈ D.1, OkAll nodeLs y) (hLn : D.1.length = n) (hn : n ≤ 100000) (hr : Reads w B A D.1.flatten) :
    Calls Try.prog 17 #[.pointer (some ⟨g2, 0, none⟩), .agg #[.slice A n c, .int .i64 D.2]] w fun e w' => e = .returned (.int .i64 ((its.length : Int) + 1)) ∧ RP w0 g g2 (its ++ [D]) w' ∧ Past w0.heap.size M w w' := by
  obtain ⟨h1, h2, h3, f, dl, h4, h5, h6, h7⟩ := h
  have hl : dl.length = its.length := by rw [← h4, List.length_map]
  refine (rpush_any w _ g2 M dl A n c D.1 D.2 B h7 (by omega) hL hLn hn hr).mono ?_
  rintro e w' ⟨d, rfl, hd, hD, hP⟩
  refine ⟨by rw [hl], ⟨hP.grown h1 (Nat.le_refl _), by simp, by simp; omega, f, dl ++ [d], by rw [List.map_append, h4, List.map_singleton, hd], ?_, ?_, hD⟩, hP⟩
  · rw [List.length_append, List.length_singleton]
    exact hP.ring h5
  · rw [List.length_append, List.length_singleton]
    exact h6
end
end Go.Proofs.Ytkailfigoogfeaa
