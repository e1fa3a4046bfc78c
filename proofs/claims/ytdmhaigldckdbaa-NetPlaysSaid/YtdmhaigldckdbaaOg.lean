/- What is done to the two nets, by what is told. -/
import Derived.Test.YtdmhaigldckdbaaOf
namespace Go.Proofs.Ytdmhaigldckdbaa
open Go Go.RowKit
def Joint (w0 : World) (g g2 : Nat) (i1 i2 : List (Int × List Nat)) (K : List (Option Addr × Nat × List Nat)) (B : List (Nat × TypeId × Array Value)) (w : World) : Prop :=
  ∃ fl dl, fl.map Flt.it = i1 ∧ dl.map Flt.it = i2 ∧ JointF w0 g g2 fl dl K B w
theorem Joint.grown0 {w0 w w' : World} {g g2 : Nat} {i1 i2 : List (Int × List Nat)} {K : List (Option Addr × Nat × List Nat)} {B : List (Nat × TypeId × Array Value)} (h : Joint w0 g g2 i1 i2 K B w) (hg : w.grownBy w' none) : Joint w0 g g2 i1 i2 K B w' := by
  obtain ⟨fl, dl, h1, h2, h3⟩ := h
  exact ⟨fl, dl, h1, h2, h3.grown0 hg⟩
theorem Joint.box {w0 w : World} {g g2 : Nat} {i1 i2 : List (Int × List Nat)} {K : List (Option Addr × Nat × List Nat)} {B : List (Nat × TypeId × Array Value)} (h : Joint w0 g g2 i1 i2 K B w) (T : TypeId) (cs : Array Value) (hT : Else T) : Joint w0 g g2 i1 i2 K (⟨w.heap.size, T, cs⟩ :: B) (w.alloc (.cells cs T)) := by
  obtain ⟨fl, dl, h1, h2, h3⟩ := h
  exact ⟨fl, dl, h1, h2, h3.box T cs hT⟩
theorem Joint.keep {w0 w w' : World} {g g2 : Nat} {i1 i2 : List (Int × List Nat)} {K : List (Option Addr × Nat × List Nat)} {B : List (Nat × TypeId × Array Value)} (h : Joint w0 g g2 i1 i2 K B w) (hg : w.grownBy w' none) (A : Option Addr) (c : Nat) (l : List Nat) {b1 : Nat} (hb1 : w.heap.size ≤ b1) (ho : Own w' b1 5 1 A l.length c (l.map byte)) :
    Joint w0 g g2 i1 i2 (⟨A, c, l⟩ :: K) B w' := by
  obtain ⟨fl, dl, h1, h2, h3⟩ := h
  exact ⟨fl, dl, h1, h2, h3.keep hg A c l hb1 ho⟩
theorem Joint.write {w0 w w' : World} {g g2 c : Nat} {i1 i2 : List (Int × List Nat)} {A : Option Addr} {l : List Nat} {K : List (Option Addr × Nat × List Nat)} {B : List (Nat × TypeId × Array Value)} (h : Joint w0 g g2 i1 i2 (⟨A, c, l⟩ :: K) B w) (hg : w.grownBy w' (rowOf A c)) : Joint w0 g g2 i1 i2 [] B w' := by
  obtain ⟨fl, dl, h1, h2, h3⟩ := h
  exact ⟨fl, dl, h1, h2, h3.write hg⟩
theorem Joint.told {w0 w : World} {g g2 : Nat} {i1 i2 : List (Int × List Nat)} {K : List (Option Addr × Nat × List Nat)} {B : List (Nat × TypeId × Array Value)} (h : Joint w0 g g2 i1 i2 K B w) {A : Option Addr} {c : Nat} {l : List Nat} (hk : (⟨A, c, l⟩ : Option Addr × Nat × List Nat) ∈ K) : Own w w0.heap.size 5 1 A l.length c (l.map byte) := by
  obtain ⟨fl, dl, h1, h2, h3⟩ := h
  exact (h3.2.2.2.2.1 _ hk).1.1
theorem Joint.row {w0 w : World} {g g2 : Nat} {i1 i2 : List (Int × List Nat)} {K : List (Option Addr × Nat × List Nat)} {B : List (Nat × TypeId × Array Value)} (h : Joint w0 g g2 i1 i2 K B w) {b : Nat} {T : TypeId} {cs : Array Value} (hk : (⟨b, T, cs⟩ : Nat × TypeId × Array Value) ∈ B) : Row w b T cs := by
  obtain ⟨fl, dl, h1, h2, h3⟩ := h
  exact (h3.2.2.2.2.2 _ hk).1
theorem Joint.less {w0 w : World} {g g2 : Nat} {i1 i2 : List (Int × List Nat)} {K : List (Option Addr × Nat × List Nat)} {B : List (Nat × TypeId × Array Value)} (h : Joint w0 g g2 i1 i2 K B w) : Joint w0 g g2 i1 i2 [] [] w := by
  obtain ⟨fl, dl, h1, h2, j1, j2, j3, j4, j5, j6⟩ := h
  exact ⟨fl, dl, h1, h2, j1, j2, j3, j4, fun k hk => (nomatch hk), fun k hk => (nomatch hk)⟩
theorem Joint.grown {w0 w : World} {g g2 : Nat} {i1 i2 : List (Int × List Nat)} {K : List (Option Addr × Nat × List Nat)} {B : List (Nat × TypeId × Array Value)} (h : Joint w0 g g2 i1 i2 K B w) : w0.grownBy w none := by
  obtain ⟨fl, dl, h1, h2, h3⟩ := h
  exact h3.1
theorem Joint.lens {w0 w : World} {g g2 : Nat} {i1 i2 : List (Int × List Nat)} {K : List (Option Addr × Nat × List Nat)} {B : List (Nat × TypeId × Array Value)} (h : Joint w0 g g2 i1 i2 K B w) : i1.length ≤ 64 ∧ i2.length ≤ 64 := by
  obtain ⟨fl, dl, rfl, rfl, h3⟩ := h
  rw [List.length_map, List.length_map]
  exact ⟨h3.2.1.2.1, h3.2.2.1.2.1⟩
/-- What each call answers, and what flies then. -/
def sendC (its : List (Int × List Nat)) (to : Int) (l : List Nat) : Int := if to < -1 ∨ 5 < to then 2 else if 128 < l.length then 3 else if its.length = 64 then 4 else 0
def sendI (its : List (Int × List Nat)) (to : Int) (l : List Nat) : List (Int × List Nat) := if sendC its to l = 0 then its ++ [(to, l)] else its
def copyC (its : List (Int × List Nat)) : Int := if its.length = 0 then 300 else if its.length = 64 then 4 else 0
def copyI (its : List (Int × List Nat)) (k : Int) : List (Int × List Nat) := match its[place k its.length]? with
  | some x => if its.length = 64 then its else its ++ [x]
  | none => its
def spoilC (its : List (Int × List Nat)) : Int := if its.length = 0 then 300 else 0
def spoilI (its : List (Int × List Nat)) (k bit : Int) : List (Int × List Nat) := match its[place k its.length]? with
  | some x => its.set (place k its.length) (x.1, flipB x.2 bit)
  | none => its
section
variable {w0 w : World} {g g2 : Nat} {i1 i2 : List (Int × List Nat)} {K : List (Option Addr × Nat × List Nat)} {B : List (Nat × TypeId × Array Value)}
theorem j_send (h : Joint w0 g g2 i1 i2 K B w) (to : Int) (A : Option Addr) (n c : Nat) (l : List Nat) (Bd : Nat) (hl : l.length = n) (hn : n ≤ 1000000) (hb : Byt l) (hr : Reads w Bd A (l.map byte)) :
    Calls Try.prog 14 #[.pointer (some ⟨g, 0, none⟩), .agg #[.int .i64 to, .slice A n c]] w fun e w' => e = .returned (.int .i64 (sendC i1 to l)) ∧ Joint w0 g g2 (sendI i1 to l) i2 K B w' := by
  obtain ⟨fl, dl, rfl, rfl, h⟩ := h
  have hle := h.2.1.2.1
  by_cases c1 : to < -1 ∨ 5 < to
  · have e : sendC (fl.map Flt.it) to l = 2 := by unfold sendC; rw [if_pos c1]
    unfold sendI
    rw [e, if_neg (by omega)]
    refine (send_arg w _ g fl to (.slice A n c) h.2.1 c1).mono ?_
    rintro e w' ⟨rfl, hg⟩
    exact ⟨rfl, fl, dl, rfl, rfl, h.grown0 hg⟩
  · by_cases c2 : 128 < n
    · have e : sendC (fl.map Flt.it) to l = 3 := by unfold sendC; rw [if_neg c1, if_pos (by omega)]
      unfold sendI
      rw [e, if_neg (by omega)]
      refine (send_long w _ g fl to A n c h.2.1 (by omega) c2 hn).mono ?_
      rintro e w' ⟨rfl, hg⟩
      exact ⟨rfl, fl, dl, rfl, rfl, h.grown0 hg⟩
    · by_cases c3 : fl.length = 64
      · have e : sendC (fl.map Flt.it) to l = 4 := by unfold sendC; rw [if_neg c1, if_neg (by omega), if_pos (by rw [List.length_map]; exact c3)]
        unfold sendI
        rw [e, if_neg (by omega)]
        refine (send_full w _ g fl to A n c h.2.1 (by omega) (by omega) c3).mono ?_
        rintro e w' ⟨rfl, hg⟩
        exact ⟨rfl, fl, dl, rfl, rfl, h.grown0 hg⟩
      · have e : sendC (fl.map Flt.it) to l = 0 := by unfold sendC; rw [if_neg c1, if_neg (by omega), if_neg (by rw [List.length_map]; exact c3)]
        unfold sendI
        rw [e, if_pos rfl]
        refine (send_ok w _ g fl to A n c l Bd h.2.1 (by omega) (by omega) hl (by omega) hb hr).mono ?_
        rintro e w' ⟨rfl, f, hf, hs⟩
        exact ⟨rfl, fl ++ [f], dl, by rw [List.map_append, List.map_singleton, hf], rfl, h.step hs⟩
theorem j_rsend (h : Joint w0 g g2 i1 i2 K B w) (to : Int) (A : Option Addr) (n c : Nat) (l : List Nat) (Bd : Nat) (hl : l.length = n) (hn : n ≤ 1000000) (hb : Byt l) (hr : Reads w Bd A (l.map byte)) :
    Calls Try.prog 24 #[.pointer (some ⟨g2, 0, none⟩), .agg #[.int .i64 to, .slice A n c]] w fun e w' => e = .returned (.int .i64 (sendC i2 to l)) ∧ Joint w0 g g2 i1 (sendI i2 to l) K B w' := by
  obtain ⟨fl, dl, rfl, rfl, h⟩ := h
  have hle := h.2.2.1.2.1
  by_cases c1 : sendC (dl.map Flt.it) to l = 0
  · unfold sendI
    rw [c1, if_pos rfl]
    unfold sendC at c1
    split at c1
    · cases c1
    · split at c1
      · cases c1
      · split at c1
        · cases c1
        · rename_i c1 c2 c3
          rw [List.length_map] at c3
          refine (rsend_ok w _ g2 dl to A n c l Bd h.2.2.1 (by omega) (by omega) hl (by omega) hb hr).mono ?_
          rintro e w' ⟨rfl, f, hf, hs⟩
          exact ⟨rfl, fl, dl ++ [f], rfl, by rw [List.map_append, List.map_singleton, hf], h.dstep hs⟩
  · unfold sendI
    rw [if_neg c1]
    refine (rsend_no w _ g2 dl to A n c h.2.2.1 hn (sendC (dl.map Flt.it) to l) ?_).mono ?_
    · unfold sendC at c1 ⊢
      rw [List.length_map] at c1 ⊢
      split
      · rename_i c1
        exact .inl ⟨c1, rfl⟩
      · rename_i d1
        rw [if_neg d1] at c1
        refine .inr ⟨by omega, ?_⟩
        split
        · exact .inl ⟨by omega, rfl⟩
        · rename_i d2
          rw [if_neg d2] at c1
          split
          · exact .inr ⟨by omega, by assumption, rfl⟩
          · rename_i d3
            rw [if_neg d3] at c1
            exact absurd rfl c1
    · rintro e w' ⟨rfl, hg⟩
      exact ⟨rfl, fl, dl, rfl, rfl, h.grown0 hg⟩
theorem j_copy (h : Joint w0 g g2 i1 i2 K B w) (k : Int) :
    Calls Try.prog 13 #[.pointer (some ⟨g, 0, none⟩), .int .i64 k] w fun e w' => e = .returned (.int .i64 (copyC i1)) ∧ Joint w0 g g2 (copyI i1 k) i2 K B w' := by
  obtain ⟨fl, dl, rfl, rfl, h⟩ := h
  have hle := h.2.1.2.1
  unfold copyC copyI
  rw [List.length_map, List.getElem?_map]
  by_cases c0 : fl.length = 0
  · obtain rfl := List.eq_nil_of_length_eq_zero c0
    refine (copy_empty w _ g k h.2.1).mono ?_
    rintro e w' ⟨rfl, rfl⟩
    exact ⟨rfl, [], dl, rfl, rfl, h⟩
  · obtain ⟨x, hx⟩ : ∃ x, fl[place k fl.length]? = some x := ⟨_, List.getElem?_eq_getElem (place_lt _ (by omega))⟩
    rw [if_neg c0, hx]
    simp only [Option.map_some]
    by_cases c3 : fl.length = 64
    · rw [if_pos c3, if_pos c3]
      refine (copy_full w _ g fl k h.2.1 c3).mono ?_
      rintro e w' ⟨rfl, rfl⟩
      exact ⟨rfl, fl, dl, rfl, rfl, h⟩
    · rw [if_neg c3, if_neg c3]
      refine (copy_ok w _ g fl k h.2.1 (by omega) (by omega) x hx).mono ?_
      rintro e w' ⟨rfl, f, hf, hs⟩
      exact ⟨rfl, fl ++ [f], dl, by rw [List.map_append, List.map_singleton, hf], rfl, h.step hs⟩
theorem j_rcopy (h : Joint w0 g g2 i1 i2 K B w) (k : Int) :
    Calls Try.prog 21 #[.pointer (some ⟨g2, 0, none⟩), .int .i64 k] w fun e w' => e = .returned (.int .i64 (copyC i2)) ∧ Joint w0 g g2 i1 (copyI i2 k) K B w' := by
  obtain ⟨fl, dl, rfl, rfl, h⟩ := h
  have hle := h.2.2.1.2.1
  unfold copyC copyI
  rw [List.length_map, List.getElem?_map]
  by_cases c0 : dl.length = 0
  · obtain rfl := List.eq_nil_of_length_eq_zero c0
    refine (rcopy_empty w _ g2 k h.2.2.1).mono ?_
    rintro e w' ⟨rfl, rfl⟩
    exact ⟨rfl, fl, [], rfl, rfl, h⟩
  · obtain ⟨x, hx⟩ : ∃ x, dl[place k dl.length]? = some x := ⟨_, List.getElem?_eq_getElem (place_lt _ (by omega))⟩
    rw [if_neg c0, hx]
    simp only [Option.map_some]
    by_cases c3 : dl.length = 64
    · rw [if_pos c3, if_pos c3]
      refine (rcopy_full w _ g2 dl k h.2.2.1 c3).mono ?_
      rintro e w' ⟨rfl, hg⟩
      exact ⟨rfl, fl, dl, rfl, rfl, h.grown0 hg⟩
    · rw [if_neg c3, if_neg c3]
      refine (rcopy_ok w _ g2 dl k h.2.2.1 (by omega) (by omega) x hx).mono ?_
      rintro e w' ⟨rfl, f, hf, hs⟩
      exact ⟨rfl, fl, dl ++ [f], rfl, by rw [List.map_append, List.map_singleton, hf], h.dstep hs⟩
theorem j_spoil (h : Joint w0 g g2 i1 i2 K B w) (k bit : Int) :
    Calls Try.prog 16 #[.pointer (some ⟨g, 0, none⟩), .int .i64 k, .int .i64 bit] w fun e w' => e = .returned (.int .i64 (spoilC i1)) ∧ Joint w0 g g2 (spoilI i1 k bit) i2 K B w' := by
  obtain ⟨fl, dl, rfl, rfl, h⟩ := h
  unfold spoilC spoilI
  rw [List.length_map, List.getElem?_map]
  by_cases c0 : fl.length = 0
  · obtain rfl := List.eq_nil_of_length_eq_zero c0
    refine (spoil_empty w _ g k bit h.2.1).mono ?_
    rintro e w' ⟨rfl, rfl⟩
    exact ⟨rfl, [], dl, rfl, rfl, h⟩
  · obtain ⟨x, hx⟩ : ∃ x, fl[place k fl.length]? = some x := ⟨_, List.getElem?_eq_getElem (place_lt _ (by omega))⟩
    rw [if_neg c0, hx]
    simp only [Option.map_some]
    by_cases c1 : x.bs = []
    · refine (spoil_nil w _ g fl k bit h.2.1 (by omega) x hx c1).mono ?_
      rintro e w' ⟨rfl, hg⟩
      refine ⟨rfl, fl, dl, ?_, rfl, h.grown0 hg⟩
      rw [show ((x.it.1, flipB x.it.2 bit) : Int × List Nat) = x.it by
        show (x.to, flipB x.bs bit) = (x.to, x.bs)
        rw [c1]
        rfl, ← List.map_set]
      exact (set_map Flt.it fl _ x x hx rfl).symm
    · refine (spoil_ok w _ g fl k bit h.2.1 (by omega) x hx c1).mono ?_
      rintro e w' ⟨rfl, hs⟩
      refine ⟨rfl, _, dl, ?_, rfl, h.step hs⟩
      rw [List.map_set]
      congr 1
      show (x.to, flipL x.bs (place bit (8 * x.bs.length))) = (x.to, flipB x.bs bit)
      unfold flipB
      rw [if_neg (fun e => c1 (List.eq_nil_of_length_eq_zero e)), spot_place]
theorem j_rspoil (h : Joint w0 g g2 i1 i2 K B w) (k bit : Int) (wb : (Lit.int .i64 bit).wf = true) :
    Calls Try.prog 22 #[.pointer (some ⟨g2, 0, none⟩), .int .i64 k, .int .i64 bit] w fun e w' => e = .returned (.int .i64 (spoilC i2)) ∧ Joint w0 g g2 i1 (spoilI i2 k bit) K B w' := by
  obtain ⟨fl, dl, rfl, rfl, h⟩ := h
  unfold spoilC spoilI
  rw [List.length_map, List.getElem?_map]
  by_cases c0 : dl.length = 0
  · obtain rfl := List.eq_nil_of_length_eq_zero c0
    refine (rspoil_empty w _ g2 k bit h.2.2.1).mono ?_
    rintro e w' ⟨rfl, rfl⟩
    exact ⟨rfl, fl, [], rfl, rfl, h⟩
  · obtain ⟨x, hx⟩ : ∃ x, dl[place k dl.length]? = some x := ⟨_, List.getElem?_eq_getElem (place_lt _ (by omega))⟩
    rw [if_neg c0, hx]
    simp only [Option.map_some]
    refine (rspoil_ok w _ g2 dl k bit wb h.2.2.1 (by omega) x hx).mono ?_
    rintro e w' ⟨rfl, f, hf, hs⟩
    refine ⟨rfl, fl, _, rfl, ?_, h.dstep hs⟩
    rw [List.map_set, hf]
    rfl
theorem j_tnone (h : Joint w0 g g2 [] i2 K B w) (k : Int) :
    Calls Try.prog 12 #[.pointer (some ⟨g, 0, none⟩), .int .i64 k] w fun e w' => e = .returned (.tuple #[.agg #[.int .i64 0, .slice none 0 0], .int .i64 300]) ∧ Joint w0 g g2 [] i2 K B w' := by
  obtain ⟨fl, dl, h0, rfl, h⟩ := h
  obtain rfl : fl = [] := List.map_eq_nil_iff.1 h0
  refine (take_empty w _ g k h.2.1).mono ?_
  rintro e w' ⟨rfl, hg⟩
  exact ⟨rfl, [], dl, rfl, rfl, h.grown0 hg⟩
theorem j_rtnone (h : Joint w0 g g2 i1 [] K B w) (k : Int) :
    Calls Try.prog 18 #[.pointer (some ⟨g2, 0, none⟩), .int .i64 k] w fun e w' => e = .returned (.tuple #[.agg #[.int .i64 0, .slice none 0 0], .int .i64 300]) ∧ Joint w0 g g2 i1 [] K B w' := by
  obtain ⟨fl, dl, rfl, h0, h⟩ := h
  obtain rfl : dl = [] := List.map_eq_nil_iff.1 h0
  refine (rtake_empty w _ g2 k h.2.2.1).mono ?_
  rintro e w' ⟨rfl, hg⟩
  exact ⟨rfl, fl, [], rfl, rfl, h.grown0 hg⟩
theorem erase_map (fl : List Flt) (p : Nat) : (fl.eraseIdx p).map Flt.it = (fl.map Flt.it).eraseIdx p := by simp [List.eraseIdx_eq_take_drop_succ, List.map_take, List.map_drop]
theorem j_take (h : Joint w0 g g2 i1 i2 K B w) (k : Int) (hp : 0 < i1.length) (x : Int × List Nat) (hx : i1[place k i1.length]? = some x) :
    Calls Try.prog 12 #[.pointer (some ⟨g, 0, none⟩), .int .i64 k] w fun e w' => ∃ A c, e = .returned (.tuple #[.agg #[.int .i64 x.1, .slice A x.2.length c], .int .i64 0]) ∧ x.2.length ≤ 128 ∧ Byt x.2 ∧ Joint w0 g g2 (i1.eraseIdx (place k i1.length)) i2 (⟨A, c, x.2⟩ :: K) B w' := by
  obtain ⟨fl, dl, rfl, rfl, h⟩ := h
  rw [List.length_map] at hp hx ⊢
  rw [List.getElem?_map] at hx
  obtain ⟨f, hf, rfl⟩ := Option.map_eq_some_iff.1 hx
  have hm := List.mem_of_getElem? hf
  have hok := (h.2.1.2.2.1.1 f hm).1
  refine (take_ok w _ g fl k h.2.1 hp f hf).mono ?_
  rintro e w' ⟨rfl, hs, hfr⟩
  exact ⟨_, _, rfl, hok.1, hok.2.1, _, dl, erase_map _ _, rfl, h.take hs hm hfr⟩
theorem j_rtake (h : Joint w0 g g2 i1 i2 K B w) (k : Int) (hp : 0 < i2.length) (x : Int × List Nat) (hx : i2[place k i2.length]? = some x) :
    Calls Try.prog 18 #[.pointer (some ⟨g2, 0, none⟩), .int .i64 k] w fun e w' => ∃ A c, e = .returned (.tuple #[.agg #[.int .i64 x.1, .slice A x.2.length c], .int .i64 0]) ∧ Own w' w0.heap.size 5 1 A x.2.length c (x.2.map byte) ∧ Joint w0 g g2 i1 (i2.eraseIdx (place k i2.length)) K B w' := by
  obtain ⟨fl, dl, rfl, rfl, h⟩ := h
  rw [List.length_map] at hp hx ⊢
  rw [List.getElem?_map] at hx
  obtain ⟨f, hf, rfl⟩ := Option.map_eq_some_iff.1 hx
  have hm := List.mem_of_getElem? hf
  have ho := (h.2.2.1.2.2.1 f hm).2
  refine (rtake_ok w _ g2 dl k h.2.2.1 hp f hf).mono ?_
  rintro e w' ⟨rfl, hs⟩
  exact ⟨_, _, rfl, ho.dblk hs.2.1, fl, _, rfl, erase_map _ _, h.dstep hs⟩
theorem j_all (h : Joint w0 g g2 i1 i2 K B w) :
    Calls Try.prog 11 #[.pointer (some ⟨g, 0, none⟩)] w fun e w' => ∃ A c out, e = .returned (.slice A i1.length c) ∧ out.map Flt.it = i1 ∧ Outs w out A i1.length c w' ∧ Joint w0 g g2 i1 i2 K B w' := by
  have h' := h
  obtain ⟨fl, dl, rfl, rfl, h⟩ := h
  refine (all_any w _ g fl h.2.1).mono ?_
  rintro e w' ⟨A, c, out, rfl, ho, hO⟩
  rw [List.length_map]
  exact ⟨A, c, out, rfl, ho, hO, h'.grown0 hO.1⟩
end
end Go.Proofs.Ytdmhaigldckdbaa
