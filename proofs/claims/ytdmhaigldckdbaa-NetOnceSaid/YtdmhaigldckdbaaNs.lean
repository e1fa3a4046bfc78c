/- A flight in memory of its own; Send. -/
import Derived.Test.YtdmhaigldckdbaaNt
import Derived.Test.YtdmhaigldckdbaaRowg
import Derived.Deep.RegionHeld3
import Derived.Outline
namespace Go.Proofs.Ytdmhaigldckdbaa
open Go Go.RowKit
theorem Row.two {w : World} {g : Nat} {T : TypeId} {u v : Value} (h : Row w g T #[u, v]) : w.cell? ⟨g, 0, none⟩ = some u ∧ w.cell? ⟨g, 1, none⟩ = some v := ⟨h.at 0, h.at 1⟩
set_option maxHeartbeats 1000000 in
theorem own_flight (to : Int) (A : Option Addr) (n c : Nat) (l : List Nat) (w : World) (B : Nat) (hl : l.length = n) (hr : Reads w B A (l.map byte)) (hn : n ≤ 1000000) :
    Calls Try.prog 27 #[.agg #[.int .i64 to, .slice A n c]] w fun e w' => ∃ A' c', e = .returned (.agg #[.int .i64 to, .slice A' n c']) ∧ Own w' w.heap.size 5 1 A' n c' (l.map byte) ∧ w.grownBy w' none := by
  have CC := Lib.hid (fun W (hg : w.grownBy W none) => clone_any A n c l W B hl (hr.grown0 hg) hn)
  have b1 := (Row.new w 33 #[.int .i64 to, .slice A n c]).kept0 (World.grownBy_alloc _ (.cells #[.int .i64 0, .slice none 0 0] 33) none)
  have b2 := Row.new (w.alloc (.cells #[.int .i64 to, .slice A n c] 33)) 33 #[.int .i64 0, .slice none 0 0]
  rw [World.size_alloc] at b2
  have hg0 := grown_trans (World.grownBy_alloc w (.cells #[.int .i64 to, .slice A n c] 33) none) (World.grownBy_alloc _ (.cells #[.int .i64 0, .slice none 0 0] 33) none)
  obtain ⟨c0, c1⟩ := b1.two
  generalize hW : (w.alloc (.cells #[.int .i64 to, .slice A n c] 33)).alloc (.cells #[.int .i64 0, .slice none 0 0] 33) = W at *
  have hW' := Lib.hid hW
  clear hW hl hr
  generalize l.map byte = xs at *
  go_enter Try.func27, Try.ntmps27
  go_wp2_with fail
  rw [hW'.out]
  refine (CC.out _ hg0).mono ?_; rintro e w1 ⟨A1, c2, rfl, hown, hg1⟩
  replace b1 := b1.kept0 hg1
  replace b2 := b2.kept0 hg1
  have e0 := b1.two.1
  have e1 := b1.two.2
  have e2 := b1.free 1
  have e3 := b2.two.1
  have e4 := b2.two.2
  have e5 := b2.free 0
  have e6 := b2.free 1
  clear c0 c1
  go_wp2_with fail
  have hne : w.heap.size + 1 ≠ w.heap.size := by omega
  have f2 := ((b2.keptNe (grownBy_setCell w1 w.heap.size 1 (.slice A1 n c2)) hne).set 0 (.int .i64 to)).set 1 (.slice A1 n c2)
  have g0 := f2.at 0
  have g1 := f2.at 1
  simp only [List.setIfInBounds_toArray, List.set_cons_zero, List.set_cons_succ, List.getElem?_toArray, List.getElem?_cons_zero, List.getElem?_cons_succ] at g0 g1
  have hgF := grown_new (grown_new (grown_new (grown_trans hg0 hg1) (grownBy_setCell w1 w.heap.size 1 (.slice A1 n c2)) (fun e h => by cases h; omega)) (grownBy_setCell _ (w.heap.size + 1) 0 (.int .i64 to)) (fun e h => by cases h; omega)) (grownBy_setCell _ (w.heap.size + 1) 1 (.slice A1 n c2)) (fun e h => by cases h; omega)
  have hoF := ((hown.kept_ (grownBy_setCell w1 w.heap.size 1 (.slice A1 n c2)) (b := w.heap.size) b1 (by decide)).kept_ (grownBy_setCell _ (w.heap.size + 1) 0 (.int .i64 to)) (b := w.heap.size + 1) (b2.keptNe (grownBy_setCell w1 w.heap.size 1 (.slice A1 n c2)) hne) (by decide)).kept_ (grownBy_setCell _ (w.heap.size + 1) 1 (.slice A1 n c2)) (b := w.heap.size + 1) ((b2.keptNe (grownBy_setCell w1 w.heap.size 1 (.slice A1 n c2)) hne).set 0 (.int .i64 to)) (by decide)
  generalize ((w1.setCell ⟨w.heap.size, 1, none⟩ (.slice A1 n c2)).setCell ⟨w.heap.size + 1, 0, none⟩ (.int .i64 to)).setCell ⟨w.heap.size + 1, 1, none⟩ (.slice A1 n c2) = w5 at *
  exact bodyPost_ret (v := .agg #[.int .i64 to, .slice A1 n c2]) (by simp [results, Try.results27, go_sem, g0, g1]) rfl ⟨A1, c2, rfl, hoF.base_ hg0.size, hgF⟩
/-- A row stays where only another row of the call's own, of another type, is written. -/
theorem Own.kept_row {w w' : World} {base base' e e' size size' n cap n' cap' : Nat} {A A' : Option Addr} {xs ys : List Value} (h : Own w base e size A n cap xs) (hr : Own w base' e' size' A' n' cap' ys) (hne : e' ≠ e) (hg : w.grownBy w' (rowOf A' cap')) : Own w' base e size A n cap xs := by
  by_cases hc : cap' = 0
  · have : rowOf A' cap' = none := by simp [rowOf, hc]
    rw [this] at hg
    exact h.grown0 hg
  · rcases hr.2.2.2 with h4 | ⟨g, cur, rfl, _, hgg, _⟩
    · exact absurd h4 hc
    · have : rowOf (some (⟨g, 0, none⟩ : Addr)) cap' = some g := by simp [rowOf, hc]
      rw [this] at hg
      exact h.kept_ hg hgg hne
theorem heap_kept_row {w w' : World} {base' e' size' n' cap' g : Nat} {A' : Option Addr} {ys : List Value} {o : Array Value} {T : TypeId} (h : w.heap[g]? = some (.cells o T (0, 0))) (hr : Own w base' e' size' A' n' cap' ys) (hne : e' ≠ T) (hg : w.grownBy w' (rowOf A' cap')) : w'.heap[g]? = some (.cells o T (0, 0)) := by
  rw [hg.block g (Array.getElem?_eq_some_iff.1 h).1 (fun e => ?_)]
  · exact h
  · by_cases hc : cap' = 0
    · simp [rowOf, hc] at e
    · rcases hr.2.2.2 with h4 | ⟨k, cur, rfl, _, hgg, _⟩
      · exact hc h4
      · simp [rowOf, hc] at e
        subst e
        rw [h] at hgg
        cases hgg
        exact hne rfl
theorem rowF_snoc (fl : List Flt) (f : Flt) : rowF (fl ++ [f]) = rowF fl ++ f.cells := by simp [rowF]
/-- What a call on a net leaves. -/
def Step (w w' : World) (base g : Nat) (fl fl' : List Flt) : Prop := NetIs w' base g fl' ∧ But (Foot w g fl) w w' ∧ ∀ b, Foot w' g fl' b → Foot w g fl b ∨ w.heap.size ≤ b
theorem NetIs.add {w V w8 : World} {base g : Nat} {fl : List Flt} (h : NetIs w base g fl) {A0 : Option Addr} {c0 : Nat} (h0 : w.heap[g]? = some (.cells #[.bool true, .slice A0 fl.length c0] 45 (0, 0))) (hR : Own w base 33 2 A0 fl.length c0 (rowF fl))
    (hV : w.grownBy V none) (f : Flt) (hf : f.ok) (hn : fl.length < 64) {b1 : Nat} (hb1 : w.heap.size ≤ b1) (ho : Own V b1 5 1 f.A f.bs.length f.cap (f.bs.map byte))
    {A1 : Option Addr} {c1 : Nat} (h1 : Own w8 base 33 2 A1 (fl.length + 1) c1 (rowF fl ++ f.cells)) (hg8 : V.grownBy w8 (rowOf A0 c0)) (hA : A1 = A0 ∧ c1 = c0 ∨ A1 = some ⟨V.heap.size, 0, none⟩) :
    Step w (w8.setCell ⟨g, 1, none⟩ (.slice A1 (fl.length + 1) c1)) base g fl (fl ++ [f]) := by
  obtain ⟨k1, k2, ⟨k3, k4⟩, _⟩ := h
  have hgl := (Array.getElem?_eq_some_iff.1 h0).1
  have hRV := hR.grown0 hV
  have h0V : V.heap[g]? = some (.cells #[.bool true, .slice A0 fl.length c0] 45 (0, 0)) := by rw [hV.block g hgl (by simp)]; exact h0
  have h08 := heap_kept_row h0V hRV (by decide) hg8
  have hg9 := grownBy_setCell w8 g 1 (.slice A1 (fl.length + 1) c1)
  have hfresh : ∀ b, f.row = some b → w.heap.size ≤ b := fun b hb => Nat.le_trans hb1 (ho.row_ge b hb).1
  have hold : ∀ x ∈ fl, ∀ b, x.row = some b → b < w.heap.size := fun x hx b hb => ((k3 x hx).2.row_ge b hb).2
  refine ⟨⟨k1, by simp; omega, ⟨fun x hx => ?_, ?_⟩, A1, c1, ?_, ?_⟩, ?_, ?_⟩
  · rcases List.mem_append.1 hx with hx | hx
    · exact ⟨(k3 x hx).1, (((k3 x hx).2.grown0 hV).kept_row hRV (by decide) hg8).kept_ hg9 h08 (by decide)⟩
    · rw [List.mem_singleton.1 hx]
      exact ⟨hf, ((ho.kept_row hRV (by decide) hg8).kept_ hg9 h08 (by decide)).base_ (by omega)⟩
  · rw [List.pairwise_append]
    refine ⟨k4, List.pairwise_singleton _ _, fun x hx y hy => ?_⟩
    rw [List.mem_singleton.1 hy]
    cases hxr : x.row with
    | none => exact .inl rfl
    | some b =>
      refine .inr fun e => ?_
      have a1 := hold x hx b hxr
      have a2 := hfresh b e.symm
      omega
  · have := heap_setCell_same w8 g 1 _ _ (.slice A1 (fl.length + 1) c1) h08
    rw [this]
    simp
  · have := h1.kept_ hg9 h08 (by decide)
    rw [rowF_snoc]
    simpa using this
  · refine (But.of_grown (F := Foot w g fl) hV (fun b e => by cases e)).trans (G := Foot w g fl) ((But.of_grown hg8 (fun b e => .inr (.inl ⟨A0, c0, h0, e⟩))).trans (G := Foot w g fl) (But.of_grown hg9 (fun b e => by cases e; exact .inl rfl)) (fun i hi => .inl hi)) (fun i hi => .inl hi)
  · rintro b (rfl | ⟨A', c', q1, q2⟩ | ⟨x, hx, q⟩)
    · exact .inl (.inl rfl)
    · rw [heap_setCell_same w8 g 1 _ _ (.slice A1 (fl.length + 1) c1) h08] at q1
      simp only [List.setIfInBounds_toArray, List.set_cons_succ, List.set_cons_zero, Option.some.injEq, Obj.cells.injEq, Array.mk.injEq, List.cons.injEq, Value.slice.injEq, and_true, true_and] at q1
      obtain ⟨rfl, _, rfl⟩ := q1
      rcases hA with ⟨rfl, rfl⟩ | rfl
      · exact .inl (.inr (.inl ⟨_, _, h0, q2⟩))
      · right
        by_cases hc : c1 = 0
        · simp [rowOf, hc] at q2
        · simp [rowOf, hc] at q2
          rw [← q2]
          exact hV.size
    · rcases List.mem_append.1 hx with hx | hx
      · exact .inl (.inr (.inr ⟨x, hx, q⟩))
      · rw [List.mem_singleton.1 hx] at q
        exact .inr (hfresh b q)
end Go.Proofs.Ytdmhaigldckdbaa
