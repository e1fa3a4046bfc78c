/- A net of the law's own, by what is told of its flights. -/
import Derived.Test.YtdmhaigldckdbaaNh
namespace Go.Proofs.Ytdmhaigldckdbaa
open Go Go.RowKit
/-- A net that was made since 'w0', with these flights. -/
def At (w0 : World) (g : Nat) (its : List (Int × List Nat)) (w : World) : Prop := w0.grownBy w none ∧ ∃ fl, fl.map Flt.it = its ∧ NetIs w w0.heap.size g fl
theorem At.grown0 {w0 w w' : World} {g : Nat} {its : List (Int × List Nat)} (h : At w0 g its w) (hg : w.grownBy w' none) : At w0 g its w' := by
  obtain ⟨h1, fl, h2, h3⟩ := h
  exact ⟨grown_trans h1 hg, fl, h2, h3.grown0 hg⟩
theorem At.step {w0 w w' : World} {g : Nat} {fl fl' : List Flt} (h : w0.grownBy w none) (hn : NetIs w w0.heap.size g fl) (s : Step w w' w0.heap.size g fl fl') : At w0 g (fl'.map Flt.it) w' := by
  refine ⟨?_, fl', rfl, s.1⟩
  obtain ⟨_, ⟨b1, b2, b3, b4, b5⟩, _⟩ := s
  refine ⟨b1.trans h.os, b2.trans h.tape, b3.trans h.output, Nat.le_trans h.size b4, fun i hi hne => ?_⟩
  rw [b5 i (Nat.lt_of_lt_of_le hi h.size) (fun hf => by have := (hn.foot_ge i hf).1; omega)]
  exact h.block i hi hne
theorem At.lt {w0 w : World} {g : Nat} {its : List (Int × List Nat)} (h : At w0 g its w) : w0.heap.size ≤ g ∧ g < w.heap.size := by
  obtain ⟨_, fl, _, h3⟩ := h
  exact ⟨h3.1, h3.lt⟩
theorem at_new (w0 w : World) (hg : w0.grownBy w none) : Calls Try.prog 10 #[] w fun e w' => ∃ g, e = .returned (.pointer (some ⟨g, 0, none⟩)) ∧ At w0 g [] w' := by
  refine (new_any w).mono ?_
  rintro e w' ⟨g, rfl, h1, h2⟩
  exact ⟨g, rfl, grown_trans hg h2, [], rfl, Nat.le_trans hg.size h1.1, h1.2.1, ⟨by simp, List.Pairwise.nil⟩, by
    obtain ⟨_, _, _, A, c, h4, h5⟩ := h1
    exact ⟨A, c, h4, h5.base_ hg.size⟩⟩
theorem at_sarg (w0 w : World) (g : Nat) (its : List (Int × List Nat)) (to : Int) (v : Value) (h : At w0 g its w) (ht : to < -1 ∨ 5 < to) :
    Calls Try.prog 14 #[.pointer (some ⟨g, 0, none⟩), .agg #[.int .i64 to, v]] w fun e w' => e = .returned (.int .i64 2) ∧ At w0 g its w' := by
  have h' := h
  obtain ⟨h1, fl, h2, h3⟩ := h
  refine (send_arg w _ g fl to v h3 ht).mono ?_
  rintro e w' ⟨rfl, hg⟩
  exact ⟨rfl, h'.grown0 hg⟩
theorem at_slong (w0 w : World) (g : Nat) (its : List (Int × List Nat)) (to : Int) (A : Option Addr) (n c : Nat) (h : At w0 g its w) (ht : -1 ≤ to ∧ to ≤ 5) (hn : 128 < n) (hn2 : n ≤ 1000000) :
    Calls Try.prog 14 #[.pointer (some ⟨g, 0, none⟩), .agg #[.int .i64 to, .slice A n c]] w fun e w' => e = .returned (.int .i64 3) ∧ At w0 g its w' := by
  have h' := h
  obtain ⟨h1, fl, h2, h3⟩ := h
  refine (send_long w _ g fl to A n c h3 ht hn hn2).mono ?_
  rintro e w' ⟨rfl, hg⟩
  exact ⟨rfl, h'.grown0 hg⟩
theorem at_sfull (w0 w : World) (g : Nat) (its : List (Int × List Nat)) (to : Int) (A : Option Addr) (n c : Nat) (h : At w0 g its w) (ht : -1 ≤ to ∧ to ≤ 5) (hn : n ≤ 128) (hl : its.length = 64) :
    Calls Try.prog 14 #[.pointer (some ⟨g, 0, none⟩), .agg #[.int .i64 to, .slice A n c]] w fun e w' => e = .returned (.int .i64 4) ∧ At w0 g its w' := by
  have h' := h
  obtain ⟨h1, fl, h2, h3⟩ := h
  refine (send_full w _ g fl to A n c h3 ht hn (by rw [← hl, ← h2, List.length_map])).mono ?_
  rintro e w' ⟨rfl, hg⟩
  exact ⟨rfl, h'.grown0 hg⟩
theorem at_send (w0 w : World) (g : Nat) (its : List (Int × List Nat)) (to : Int) (A : Option Addr) (n c : Nat) (l : List Nat) (B : Nat) (h : At w0 g its w) (hn : its.length < 64) (ht : -1 ≤ to ∧ to ≤ 5) (hl : l.length = n) (hl8 : n ≤ 128) (hb : Byt l) (hr : Reads w B A (l.map byte)) :
    Calls Try.prog 14 #[.pointer (some ⟨g, 0, none⟩), .agg #[.int .i64 to, .slice A n c]] w fun e w' => e = .returned (.int .i64 0) ∧ At w0 g (its ++ [(to, l)]) w' := by
  obtain ⟨h1, fl, h2, h3⟩ := h
  subst h2
  rw [List.length_map] at hn
  refine (send_ok w _ g fl to A n c l B h3 hn ht hl hl8 hb hr).mono ?_
  rintro e w' ⟨rfl, f, hf, hs⟩
  refine ⟨rfl, ?_⟩
  have := At.step h1 h3 hs
  rwa [List.map_append, List.map_singleton, hf] at this
theorem at_send0 (w0 w : World) (g : Nat) (its : List (Int × List Nat)) (to : Int) (h : At w0 g its w) (hn : its.length < 64) (ht : -1 ≤ to ∧ to ≤ 5) :
    Calls Try.prog 14 #[.pointer (some ⟨g, 0, none⟩), .agg #[.int .i64 to, .slice none 0 0]] w fun e w' => e = .returned (.int .i64 0) ∧ At w0 g (its ++ [(to, [])]) w' :=
  at_send w0 w g its to none 0 0 [] 0 h hn ht rfl (by omega) (by simp [Byt]) Reads.nil_
theorem at_copy (w0 w : World) (g : Nat) (its : List (Int × List Nat)) (k : Int) (h : At w0 g its w) (hn : its.length < 64) (hp : 0 < its.length) (x : Int × List Nat) (hx : its[place k its.length]? = some x) :
    Calls Try.prog 13 #[.pointer (some ⟨g, 0, none⟩), .int .i64 k] w fun e w' => e = .returned (.int .i64 0) ∧ At w0 g (its ++ [x]) w' := by
  obtain ⟨h1, fl, h2, h3⟩ := h
  subst h2
  rw [List.length_map] at hn hp hx
  rw [List.getElem?_map] at hx
  obtain ⟨f, hf, rfl⟩ := Option.map_eq_some_iff.1 hx
  refine (copy_ok w _ g fl k h3 hn hp f hf).mono ?_
  rintro e w' ⟨rfl, f', hf', hs⟩
  refine ⟨rfl, ?_⟩
  have := At.step h1 h3 hs
  rwa [List.map_append, List.map_singleton, hf'] at this
theorem at_cfull (w0 w : World) (g : Nat) (its : List (Int × List Nat)) (k : Int) (h : At w0 g its w) (hl : its.length = 64) :
    Calls Try.prog 13 #[.pointer (some ⟨g, 0, none⟩), .int .i64 k] w fun e w' => e = .returned (.int .i64 4) ∧ At w0 g its w' := by
  have h' := h
  obtain ⟨h1, fl, h2, h3⟩ := h
  refine (copy_full w _ g fl k h3 (by rw [← hl, ← h2, List.length_map])).mono ?_
  rintro e w' ⟨rfl, rfl⟩
  exact ⟨rfl, h'⟩
/-- Bytes of the law's own, that the net does not write. -/
def Told (w0 : World) (g : Nat) (w : World) (A : Option Addr) (c : Nat) (l : List Nat) : Prop := Own w w0.heap.size 5 1 A l.length c (l.map byte) ∧ ∀ fl, NetIs w w0.heap.size g fl → ∀ b, rowOf A c = some b → ¬ Foot w g fl b
theorem at_take (w0 w : World) (g : Nat) (its : List (Int × List Nat)) (k : Int) (h : At w0 g its w) (hp : 0 < its.length) (x : Int × List Nat) (hx : its[place k its.length]? = some x) :
    Calls Try.prog 12 #[.pointer (some ⟨g, 0, none⟩), .int .i64 k] w fun e w' => ∃ A c, e = .returned (.tuple #[.agg #[.int .i64 x.1, .slice A x.2.length c], .int .i64 0]) ∧ At w0 g (its.eraseIdx (place k its.length)) w' := by
  obtain ⟨h1, fl, h2, h3⟩ := h
  subst h2
  rw [List.length_map] at hp hx ⊢
  rw [List.getElem?_map] at hx
  obtain ⟨f, hf, rfl⟩ := Option.map_eq_some_iff.1 hx
  refine (take_ok w _ g fl k h3 hp f hf).mono ?_
  rintro e w' ⟨rfl, hs, _⟩
  refine ⟨_, _, rfl, ?_⟩
  have := At.step h1 h3 hs
  rwa [show (fl.eraseIdx (place k fl.length)).map Flt.it = (fl.map Flt.it).eraseIdx (place k fl.length) by simp [List.eraseIdx_eq_take_drop_succ, List.map_take, List.map_drop]] at this
theorem at_tnone (w0 w : World) (g : Nat) (k : Int) (h : At w0 g [] w) :
    Calls Try.prog 12 #[.pointer (some ⟨g, 0, none⟩), .int .i64 k] w fun e w' => e = .returned (.tuple #[.agg #[.int .i64 0, .slice none 0 0], .int .i64 300]) ∧ At w0 g [] w' := by
  have h' := h
  obtain ⟨h1, fl, h2, h3⟩ := h
  obtain rfl : fl = [] := List.map_eq_nil_iff.1 h2
  refine (take_empty w _ g k h3).mono ?_
  rintro e w' ⟨rfl, hg⟩
  exact ⟨rfl, h'.grown0 hg⟩
theorem to_ok (w0 w : World) (g : Nat) (its : List (Int × List Nat)) (k : Int) (h : At w0 g its w) (hp : 0 < its.length) (x : Int × List Nat) (hx : its[place k its.length]? = some x) :
    Calls Try.prog 25 #[.pointer (some ⟨g, 0, none⟩), .int .i64 k] w fun e w' => e = .returned (.int .i64 x.1) ∧ At w0 g (its.eraseIdx (place k its.length)) w' := by
  have CT := Lib.hid (at_take w0 w g its k h hp x hx)
  clear h hx
  generalize its.eraseIdx (place k its.length) = its' at *
  go_enter Try.func25, Try.ntmps25
  go_wp2_with fail
  refine CT.out.mono ?_; rintro e w1 ⟨A, c, rfl, h1⟩
  go_wp2_with fail
  go_ret
  exact ⟨rfl, h1.grown0 (World.grownBy_alloc _ _ _)⟩
theorem to_none (w0 w : World) (g : Nat) (k : Int) (h : At w0 g [] w) :
    Calls Try.prog 25 #[.pointer (some ⟨g, 0, none⟩), .int .i64 k] w fun e w' => e = .returned (.int .i64 (-9)) ∧ At w0 g [] w' := by
  have CT := Lib.hid (at_tnone w0 w g k h)
  clear h
  go_enter Try.func25, Try.ntmps25
  go_wp2_with fail
  refine CT.out.mono ?_; rintro e w1 ⟨rfl, h1⟩
  go_wp2_with fail
  go_ret
  exact ⟨rfl, h1.grown0 (World.grownBy_alloc _ _ _)⟩
end Go.Proofs.Ytdmhaigldckdbaa
