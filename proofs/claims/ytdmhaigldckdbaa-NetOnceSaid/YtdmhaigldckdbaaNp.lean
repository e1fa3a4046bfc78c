/- A net of the law's own, with the bytes of what was taken. -/
import Derived.Test.YtdmhaigldckdbaaNo
import Derived.Test.YtdmhaigldckdbaaNm
namespace Go.Proofs.Ytdmhaigldckdbaa
open Go Go.RowKit
/-- Bytes that are the law's own and no more the net's. -/
def Kept (w0 w : World) (g : Nat) (fl : List Flt) (A : Option Addr) (c : Nat) (l : List Nat) : Prop :=
  Own w w0.heap.size 5 1 A l.length c (l.map byte) ∧ ∀ b, rowOf A c = some b → ¬ Foot w g fl b
theorem Kept.step {w0 w w' : World} {g : Nat} {fl fl' : List Flt} {A : Option Addr} {c : Nat} {l : List Nat} (h : Kept w0 w g fl A c l) (s : Step w w' w0.heap.size g fl fl') : Kept w0 w' g fl' A c l := by
  refine ⟨h.1.but s.2.1 h.2, fun b hb hf => ?_⟩
  rcases s.2.2 b hf with h1 | h1
  · exact h.2 b hb h1
  · have := (h.1.row_ge b hb).2
    omega
theorem NetIs.foot0 {w w' : World} {base g : Nat} {fl : List Flt} (h : NetIs w base g fl) (hg : w.grownBy w' none) (b : Nat) (hf : Foot w' g fl b) : Foot w g fl b := by
  rcases hf with rfl | ⟨A, c, h1, h2⟩ | h1
  · exact .inl rfl
  · refine .inr (.inl ⟨A, c, ?_, h2⟩)
    rw [← hg.block g h.lt (by simp)]
    exact h1
  · exact .inr (.inr h1)
theorem Kept.grown0 {w0 w w' : World} {g base : Nat} {fl : List Flt} {A : Option Addr} {c : Nat} {l : List Nat} (h : Kept w0 w g fl A c l) (hn : NetIs w base g fl) (hg : w.grownBy w' none) : Kept w0 w' g fl A c l :=
  ⟨h.1.grown0 hg, fun b hb hf => h.2 b hb (hn.foot0 hg b hf)⟩
def AtK (w0 : World) (g : Nat) (its : List (Int × List Nat)) (K : List (Option Addr × Nat × List Nat)) (B : List (Nat × TypeId × Array Value)) (w : World) : Prop :=
  w0.grownBy w none ∧ ∃ fl, fl.map Flt.it = its ∧ NetIs w w0.heap.size g fl ∧ (∀ k ∈ K, Kept w0 w g fl k.1 k.2.1 k.2.2) ∧ ∀ k ∈ B, Row w k.1 k.2.1 k.2.2 ∧ ¬ Foot w g fl k.1
theorem AtK.grown0 {w0 w w' : World} {g : Nat} {its : List (Int × List Nat)} {K : List (Option Addr × Nat × List Nat)} {B : List (Nat × TypeId × Array Value)} (h : AtK w0 g its K B w) (hg : w.grownBy w' none) : AtK w0 g its K B w' := by
  obtain ⟨h1, fl, h2, h3, h4, h5⟩ := h
  exact ⟨grown_trans h1 hg, fl, h2, h3.grown0 hg, fun k hk => (h4 k hk).grown0 h3 hg, fun k hk => ⟨(h5 k hk).1.kept0 hg, fun hf => (h5 k hk).2 (h3.foot0 hg _ hf)⟩⟩
theorem AtK.box {w0 w : World} {g : Nat} {its : List (Int × List Nat)} {K : List (Option Addr × Nat × List Nat)} {B : List (Nat × TypeId × Array Value)} (h : AtK w0 g its K B w) (T : TypeId) (cs : Array Value) : AtK w0 g its K (⟨w.heap.size, T, cs⟩ :: B) (w.alloc (.cells cs T)) := by
  have hg := World.grownBy_alloc w (.cells cs T) none
  obtain ⟨h1, fl, h2, h3, h4, h5⟩ := h
  refine ⟨grown_trans h1 hg, fl, h2, h3.grown0 hg, fun k hk => (h4 k hk).grown0 h3 hg, fun k hk => ?_⟩
  rcases List.mem_cons.1 hk with rfl | hk
  · exact ⟨Row.new w T cs, fun hf => by have := (h3.foot_ge _ (h3.foot0 hg _ hf)).2; simp at this⟩
  · exact ⟨(h5 k hk).1.kept0 hg, fun hf => (h5 k hk).2 (h3.foot0 hg _ hf)⟩
theorem At.toK {w0 w : World} {g : Nat} {its : List (Int × List Nat)} (h : At w0 g its w) : AtK w0 g its [] [] w := by
  obtain ⟨h1, fl, h2, h3⟩ := h
  exact ⟨h1, fl, h2, h3, by simp, by simp⟩
theorem AtK.toAt {w0 w : World} {g : Nat} {its : List (Int × List Nat)} {K : List (Option Addr × Nat × List Nat)} {B : List (Nat × TypeId × Array Value)} (h : AtK w0 g its K B w) : At w0 g its w := by
  obtain ⟨h1, fl, h2, h3, _⟩ := h
  exact ⟨h1, fl, h2, h3⟩
theorem atK_take (w0 w : World) (g : Nat) (its : List (Int × List Nat)) (K : List (Option Addr × Nat × List Nat)) (B : List (Nat × TypeId × Array Value)) (k : Int) (h : AtK w0 g its K B w) (hp : 0 < its.length) (x : Int × List Nat) (hx : its[place k its.length]? = some x) :
    Calls Try.prog 12 #[.pointer (some ⟨g, 0, none⟩), .int .i64 k] w fun e w' => ∃ A c, e = .returned (.tuple #[.agg #[.int .i64 x.1, .slice A x.2.length c], .int .i64 0]) ∧ AtK w0 g (its.eraseIdx (place k its.length)) (⟨A, c, x.2⟩ :: K) B w' := by
  obtain ⟨h1, fl, h2, h3, h4, h5⟩ := h
  subst h2
  rw [List.length_map] at hp hx ⊢
  rw [List.getElem?_map] at hx
  obtain ⟨f, hf, rfl⟩ := Option.map_eq_some_iff.1 hx
  refine (take_ok w _ g fl k h3 hp f hf).mono ?_
  rintro e w' ⟨rfl, hs, hfr⟩
  refine ⟨_, _, rfl, (At.step h1 h3 hs).1, fl.eraseIdx (place k fl.length), by simp [List.eraseIdx_eq_take_drop_succ, List.map_take, List.map_drop], hs.1, fun y hy => ?_, fun y hy => ?_⟩
  · rcases List.mem_cons.1 hy with rfl | hy
    · exact hfr
    · exact (h4 y hy).step hs
  · obtain ⟨r1, r2⟩ := h5 y hy
    refine ⟨?_, fun hf => ?_⟩
    · show w'.heap[y.1]? = _
      rw [hs.2.1.2.2.2.2 y.1 r1.lt r2]
      exact r1
    · rcases hs.2.2 _ hf with h6 | h6
      · exact r2 h6
      · have := r1.lt
        omega
theorem atK_tnone (w0 w : World) (g : Nat) (K : List (Option Addr × Nat × List Nat)) (B : List (Nat × TypeId × Array Value)) (k : Int) (h : AtK w0 g [] K B w) :
    Calls Try.prog 12 #[.pointer (some ⟨g, 0, none⟩), .int .i64 k] w fun e w' => e = .returned (.tuple #[.agg #[.int .i64 0, .slice none 0 0], .int .i64 300]) ∧ AtK w0 g [] K B w' := by
  have h' := h
  obtain ⟨h1, fl, h2, h3, _⟩ := h
  obtain rfl : fl = [] := List.map_eq_nil_iff.1 h2
  refine (take_empty w _ g k h3).mono ?_
  rintro e w' ⟨rfl, hg⟩
  exact ⟨rfl, h'.grown0 hg⟩
theorem at_spoil (w0 w : World) (g : Nat) (its : List (Int × List Nat)) (k bit : Int) (h : At w0 g its w) (hp : 0 < its.length) (x : Int × List Nat) (hx : its[place k its.length]? = some x) (hb : x.2 ≠ []) :
    Calls Try.prog 16 #[.pointer (some ⟨g, 0, none⟩), .int .i64 k, .int .i64 bit] w fun e w' => e = .returned (.int .i64 0) ∧ At w0 g (its.set (place k its.length) (x.1, flipL x.2 (place bit (8 * x.2.length)))) w' := by
  obtain ⟨h1, fl, h2, h3⟩ := h
  subst h2
  rw [List.length_map] at hp hx ⊢
  rw [List.getElem?_map] at hx
  obtain ⟨f, hf, rfl⟩ := Option.map_eq_some_iff.1 hx
  refine (spoil_ok w _ g fl k bit h3 hp f hf hb).mono ?_
  rintro e w' ⟨rfl, hs⟩
  refine ⟨rfl, ?_⟩
  have := At.step h1 h3 hs
  rwa [List.map_set] at this
/-- All that fly, as they lie in a row of the law's own. -/
theorem at_all2 (w0 w : World) (g : Nat) (its : List (Int × List Nat)) (h : At w0 g its w) :
    Calls Try.prog 11 #[.pointer (some ⟨g, 0, none⟩)] w fun e w' => ∃ A c out, e = .returned (.slice A its.length c) ∧ out.map Flt.it = its ∧ Outs w out A its.length c w' ∧ At w0 g its w' := by
  have h' := h
  obtain ⟨h1, fl, h2, h3⟩ := h
  refine (all_any w _ g fl h3).mono ?_
  rintro e w' ⟨A, c, out, rfl, ho, hO⟩
  have hl : its.length = fl.length := by rw [← h2, List.length_map]
  rw [hl]
  exact ⟨A, c, out, rfl, ho.trans h2, hO, h'.grown0 hO.1⟩
end Go.Proofs.Ytdmhaigldckdbaa
