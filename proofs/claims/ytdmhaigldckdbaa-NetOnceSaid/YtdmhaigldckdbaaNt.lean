/- A net in memory: its block, its row of flights, each flight's bytes. -/
import Derived.Test.YtdmhaigldckdbaaNk
import Derived.Test.YtdmhaigldckdbaaRow
namespace Go.Proofs.Ytdmhaigldckdbaa
open Go Go.RowKit
/-- A row stays where only a block of another type is written. -/
theorem Own.kept_ {w w' : World} {base e size n cap : Nat} {A : Option Addr} {xs : List Value} (h : Own w base e size A n cap xs) {b : Nat} (hg : w.grownBy w' (some b)) {cur : Array Value} {t : TypeId} {fr : Nat × Nat} (hb : w.heap[b]? = some (.cells cur t fr)) (hne : t ≠ e) : Own w' base e size A n cap xs := by
  refine h.grownBy_ hg ?_
  by_cases hc : cap = 0
  · exact .inl (by simp [rowOf, hc])
  · refine .inr fun he => ?_
    rcases h.2.2.2 with h4 | ⟨g, cur', rfl, _, hgg, _⟩
    · exact hc h4
    · simp [rowOf, hc] at he
      subst he
      rw [hgg] at hb
      cases hb
      exact hne rfl
/-- A flight as it lies. -/
structure Flt where
  to : Int
  A : Option Addr
  cap : Nat
  bs : List Nat
def Flt.cells (f : Flt) : List Value := [.int .i64 f.to, .slice f.A f.bs.length f.cap]
def Flt.ok (f : Flt) : Prop := f.bs.length ≤ 128 ∧ Byt f.bs ∧ -1 ≤ f.to ∧ f.to ≤ 5
def Flt.row (f : Flt) : Option Nat := rowOf f.A f.cap
/-- What is told of a flight. -/
def Flt.it (f : Flt) : Int × List Nat := (f.to, f.bs)
def rowF (fl : List Flt) : List Value := (fl.map Flt.cells).flatten
theorem rowF_len : ∀ (fl : List Flt), (rowF fl).length = fl.length * 2
  | [] => rfl
  | f :: r => by
    have := rowF_len r
    simp only [rowF, List.map_cons, List.flatten_cons, List.length_append, List.length_cons] at this ⊢
    rw [this]
    simp [Flt.cells]
    omega
/-- Flights whose bytes are the net's own, each in a block of its own. -/
def Owned (w : World) (base : Nat) (fl : List Flt) : Prop :=
  (∀ f ∈ fl, f.ok ∧ Own w base 5 1 f.A f.bs.length f.cap (f.bs.map byte)) ∧ fl.Pairwise (fun f h => f.row = none ∨ f.row ≠ h.row)
def NetIs (w : World) (base g : Nat) (fl : List Flt) : Prop :=
  base ≤ g ∧ fl.length ≤ 64 ∧ Owned w base fl ∧ ∃ A c, w.heap[g]? = some (.cells #[.bool true, .slice A fl.length c] 45 (0, 0)) ∧ Own w base 33 2 A fl.length c (rowF fl)
/-- The blocks that a net's calls may write. -/
def Foot (w : World) (g : Nat) (fl : List Flt) (b : Nat) : Prop :=
  b = g ∨ (∃ A c, w.heap[g]? = some (.cells #[.bool true, .slice A fl.length c] 45 (0, 0)) ∧ rowOf A c = some b) ∨ ∃ f ∈ fl, f.row = some b
/-- All but some blocks are as they were. -/
def But (F : Nat → Prop) (w w' : World) : Prop := w'.os = w.os ∧ w'.tape = w.tape ∧ w'.output = w.output ∧ w.heap.size ≤ w'.heap.size ∧ ∀ i : Nat, i < w.heap.size → ¬ F i → w'.heap[i]? = w.heap[i]?
theorem But.refl (F : Nat → Prop) (w : World) : But F w w := ⟨rfl, rfl, rfl, Nat.le_refl _, fun _ _ _ => rfl⟩
theorem But.of_grown {F : Nat → Prop} {w w' : World} {row : Option Nat} (h : w.grownBy w' row) (hF : ∀ b, row = some b → F b) : But F w w' :=
  ⟨h.os, h.tape, h.output, h.size, fun i hi hn => h.block i hi (fun e => hn (hF i e.symm))⟩
theorem But.trans {F G : Nat → Prop} {a b c : World} (h : But F a b) (k : But G b c) (hG : ∀ i, G i → F i ∨ a.heap.size ≤ i) : But F a c :=
  ⟨k.1.trans h.1, k.2.1.trans h.2.1, k.2.2.1.trans h.2.2.1, Nat.le_trans h.2.2.2.1 k.2.2.2.1, fun i hi hn => (k.2.2.2.2 i (Nat.lt_of_lt_of_le hi h.2.2.2.1) (fun hg => by rcases hG i hg with h1 | h1; exact hn h1; omega)).trans (h.2.2.2.2 i hi hn)⟩
theorem But.below {F : Nat → Prop} {w w' : World} {B : Nat} (h : But F w w') (hF : ∀ i, F i → B ≤ i) (hB : B ≤ w.heap.size) : Below B w w' :=
  ⟨h.1, h.2.1, h.2.2.1, h.2.2.2.1, fun i hi => h.2.2.2.2 i (by omega) (fun hf => by have := hF i hf; omega)⟩
theorem Own.but {F : Nat → Prop} {w w' : World} {base e size n cap : Nat} {A : Option Addr} {xs : List Value} (h : Own w base e size A n cap xs) (hb : But F w w') (hF : ∀ b, rowOf A cap = some b → ¬ F b) : Own w' base e size A n cap xs := by
  obtain ⟨h1, h2, h3, h4⟩ := h
  refine ⟨h1, h2, h3, ?_⟩
  rcases h4 with h4 | ⟨g, cur, rfl, hbg, hgg, r⟩
  · exact .inl h4
  · by_cases hc : cap = 0
    · exact .inl hc
    · refine .inr ⟨g, cur, rfl, hbg, ?_, r⟩
      rw [hb.2.2.2.2 g (Array.getElem?_eq_some_iff.1 hgg).1 (hF g (by simp [rowOf, hc]))]
      exact hgg
theorem Owned.grown0 {w w' : World} {base : Nat} {fl : List Flt} (h : Owned w base fl) (hg : w.grownBy w' none) : Owned w' base fl :=
  ⟨fun f hf => ⟨(h.1 f hf).1, (h.1 f hf).2.grown0 hg⟩, h.2⟩
theorem NetIs.grown0 {w w' : World} {base g : Nat} {fl : List Flt} (h : NetIs w base g fl) (hg : w.grownBy w' none) : NetIs w' base g fl := by
  obtain ⟨h1, h2, h3, A, c, h4, h5⟩ := h
  exact ⟨h1, h2, h3.grown0 hg, A, c, by rw [hg.block g (Array.getElem?_eq_some_iff.1 h4).1 (by simp)]; exact h4, h5.grown0 hg⟩
theorem NetIs.lt {w : World} {base g : Nat} {fl : List Flt} (h : NetIs w base g fl) : g < w.heap.size := by
  obtain ⟨_, _, _, A, c, h4, _⟩ := h
  exact (Array.getElem?_eq_some_iff.1 h4).1
theorem NetIs.foot_ge {w : World} {base g : Nat} {fl : List Flt} (h : NetIs w base g fl) : ∀ b, Foot w g fl b → base ≤ b ∧ b < w.heap.size := by
  intro b hb
  have hlt := h.lt
  obtain ⟨h1, h2, h3, A, c, h4, h5⟩ := h
  rcases hb with rfl | ⟨A', c', h6, h7⟩ | ⟨f, hf, h7⟩
  · exact ⟨h1, hlt⟩
  · rw [h4] at h6
    cases h6
    exact h5.row_ge b h7
  · exact (h3.1 f hf).2.row_ge b h7
theorem Foot.grown0 {w w' : World} {g : Nat} {fl : List Flt} {b : Nat} (hl : g < w.heap.size) (hg : w.grownBy w' none) (h : Foot w' g fl b) : Foot w g fl b := by
  rcases h with rfl | ⟨A', c', h6, h7⟩ | h7
  · exact .inl rfl
  · exact .inr (.inl ⟨A', c', by rw [← hg.block g hl (by simp)]; exact h6, h7⟩)
  · exact .inr (.inr h7)
/-- New: a net with nothing in it. -/
theorem new_any (w : World) : Calls Try.prog 10 #[] w fun e w' => ∃ g, e = .returned (.pointer (some ⟨g, 0, none⟩)) ∧ NetIs w' w.heap.size g [] ∧ w.grownBy w' none := by
  go_enter Try.func10, Try.ntmps10
  go_wp2
  go_ret
  exact ⟨_, rfl, ⟨Nat.le_refl _, by simp, ⟨by simp, List.Pairwise.nil⟩, none, 0, heap_alloc_new w _, Own.nil_ _ _ _ _ _⟩, World.grownBy_alloc _ _ _⟩
theorem none_net (w : World) (base g : Nat) (fl : List Flt) (h : NetIs w base g fl) :
    Calls Try.prog 26 #[.pointer (some ⟨g, 0, none⟩)] w fun e w' => e = .returned (.bool false) ∧ w = w' := by
  obtain ⟨_, _, _, A, c, h4, _⟩ := h
  have hc : w.cell? ⟨g, 0, none⟩ = some (.bool true) := by rw [cell_of_row w g 0 _ _ _ h4]; rfl
  clear h4
  go_enter Try.func26, Try.ntmps26
  go_wp2
  go_ret
  exact ⟨rfl, rfl⟩
theorem full_net (w : World) (base g : Nat) (fl : List Flt) (h : NetIs w base g fl) :
    Calls Try.prog 30 #[.pointer (some ⟨g, 0, none⟩)] w fun e w' => e = .returned (.bool (decide (fl.length = 64))) ∧ w = w' := by
  obtain ⟨_, hl, _, A, c, h4, _⟩ := h
  have hc : w.cell? ⟨g, 1, none⟩ = some (.slice A fl.length c) := by rw [cell_of_row w g 1 _ _ _ h4]; rfl
  have hv := Lib.hid (show decide (fl.length = 64) = decide ((64 : Int) ≤ (fl.length : Int)) by rw [decide_eq_decide]; omega)
  clear h4
  rw [hv.out]
  go_enter Try.func30, Try.ntmps30
  go_wp2
  go_ret
  exact ⟨rfl, rfl⟩
theorem pick_net (w : World) (base g : Nat) (fl : List Flt) (k : Int) (h : NetIs w base g fl) (hn : 0 < fl.length) :
    Calls Try.prog 28 #[.pointer (some ⟨g, 0, none⟩), .int .i64 k] w fun e w' => e = .returned (.tuple #[.int .i64 ((place k fl.length : Nat) : Int), .int .i64 0]) ∧ w = w' := by
  have C := Lib.hid (none_net w base g fl h)
  obtain ⟨_, hl, _, A, c, h4, _⟩ := h
  have hc : w.cell? ⟨g, 1, none⟩ = some (.slice A fl.length c) := by rw [cell_of_row w g 1 _ _ _ h4]; rfl
  have CO := Lib.hid (of_some w A fl.length c k hn (by omega))
  clear h4
  go_enter Try.func28, Try.ntmps28
  go_wp2_with fail
  refine C.out.mono ?_; rintro e w1 ⟨rfl, rfl⟩
  go_wp2_with fail
  refine CO.out.mono ?_; rintro e w1 ⟨rfl, rfl⟩
  go_wp2
  go_ret2
  exact ⟨rfl, rfl⟩
theorem pick_empty (w : World) (base g : Nat) (k : Int) (h : NetIs w base g []) :
    Calls Try.prog 28 #[.pointer (some ⟨g, 0, none⟩), .int .i64 k] w fun e w' => e = .returned (.tuple #[.int .i64 0, .int .i64 300]) ∧ w = w' := by
  have C := Lib.hid (none_net w base g [] h)
  obtain ⟨_, hl, _, A, c, h4, _⟩ := h
  have hc : w.cell? ⟨g, 1, none⟩ = some (.slice A 0 c) := by rw [cell_of_row w g 1 _ _ _ h4]; rfl
  have CO := Lib.hid (of_none w A c k)
  clear h4
  go_enter Try.func28, Try.ntmps28
  go_wp2_with fail
  refine C.out.mono ?_; rintro e w1 ⟨rfl, rfl⟩
  go_wp2_with fail
  refine CO.out.mono ?_; rintro e w1 ⟨rfl, rfl⟩
  go_wp2
  go_ret2
  exact ⟨rfl, rfl⟩
theorem infoU8 : (Try.prog.info? 5).map (fun i => (i.zero, i.size, i.bytes)) = some (some (.int .u8 0), 1, 1) := by kernel_rfl
/-- Bytes in memory of their own. -/
theorem clone_any (A : Option Addr) (n c : Nat) (l : List Nat) (w : World) (B : Nat) (hl : l.length = n) (hr : Reads w B A (l.map byte)) (hn : n ≤ 1000000) :
    Calls Try.prog 36 #[.slice A n c] w fun e w' => ∃ A' c', e = .returned (.slice A' n c') ∧ Own w' w.heap.size 5 1 A' n c' (l.map byte) ∧ w.grownBy w' none := by
  obtain ⟨i0, hi0, hz0, hz1, hz2⟩ := info_parts infoU8
  have h1 : ∀ u ∈ l.map byte, u.oneCell' = true := fun u hu => by
    obtain ⟨x, _, rfl⟩ := List.mem_map.1 hu
    rfl
  have hlm := Lib.hid (show (l.map byte).length = n * 1 by simp [hl])
  cases A with
  | none =>
    have hn0 : n = 0 := by
      rcases Nat.eq_zero_or_pos n with h | h
      · exact h
      · obtain ⟨ad, h2, _⟩ := hr (by rw [List.length_map]; omega)
        cases h2
    subst hn0
    have hl0 : l = [] := List.eq_nil_of_length_eq_zero hl
    subst hl0
    have hnil := fun W => Lib.run_eql_slice_nil (P := Try.prog) W 27 5 none 0 c 0 0 Try.underlying27
    go_enter Try.func36, Try.ntmps36
    go_wp2
    go_ret
    exact ⟨none, 0, rfl, Own.nil_ _ _ _ _ _, World.grownBy.refl _ _⟩
  | some ad =>
    have hnil := fun W => Lib.run_eql_slice_nil (P := Try.prog) W 27 5 (some ad) n c 0 0 Try.underlying27
    generalize l.map byte = xs at *
    clear hl
    have hg0 := World.grownBy_alloc w (.cells #[] 5) none
    go_enter Try.func36, Try.ntmps36
    go_wp2_with (at_builtin; refine wpList_append_Own rfl (.tmp 5) (.tmp 6) _ rfl w.heap.size 5 i0 _ 1 1 Try.underlying27 hi0 hz0 hz1 hz2 rfl (by omega) _ 0 0 [] rfl (Own.nil_ _ _ _ _ _) (some ad) n c B xs rfl hlm.out (hr.alloc _) h1 (by simp only [maxLen]; omega) (by omega) hg0.size ?_; intro A' c' w1 hown1 hg1 _)
    go_ret
    exact ⟨A', c', by simp, by simpa using hown1, grown_trans hg0 hg1⟩
end Go.Proofs.Ytdmhaigldckdbaa
