/- The walks of a row of words: the program's, the document's. -/
import Derived.Test.YthijicpfihpkfaaCc
import Derived.Test.YthijicpfihpkfaaGa
import Derived.Test.YthijicpfihpkfaaWq
namespace Go.Proofs.Ythijicpfihpkfaa
open Go Go.RowKit
theorem Own.other_ {w : World} {base e size n cap base2 e2 size2 n2 cap2 : Nat} {A A2 : Option Addr} {xs xs2 : List Value} (h : Own w base e size A n cap xs) (h2 : Own w base2 e2 size2 A2 n2 cap2 xs2) (hne : e ≠ e2) :
    rowOf A cap = none ∨ rowOf A cap ≠ rowOf A2 cap2 := by
  by_cases hc : cap = 0
  · exact .inl (by simp [rowOf, hc])
  refine .inr fun he => ?_
  rcases h.2.2.2 with h4 | ⟨g, cur, rfl, hb, hgg, _⟩
  · exact hc h4
  rcases h2.2.2.2 with h4 | ⟨g2, cur2, rfl, hb2, hgg2, _⟩
  · simp [rowOf, hc, h4] at he
  · by_cases hc2 : cap2 = 0
    · simp [rowOf, hc, hc2] at he
    · simp [rowOf, hc, hc2] at he
      subst he
      rw [hgg] at hgg2
      simp only [Option.some.injEq, Obj.cells.injEq] at hgg2
      exact hne hgg2.2.1
theorem Reads.w64_ {w : World} {B : Nat} {A : Option Addr} {l : List Nat} (h : Reads w B A (l.map w64)) {k : Nat} (hk : k < l.length) :
    ∃ ad, A = some ad ∧ ad.block < B ∧ w.cell? (ad.add k) = some (.int .u64 ((nth l k : Nat) : Int)) := by
  obtain ⟨ad, e, hb, hc⟩ := h.at_ (k := k) (by simpa using hk)
  exact ⟨ad, e, hb, by rw [hc, nth_getElem hk]; simp [w64]⟩
/-- Slices of the call's own, each a row of bytes. -/
def Ents (w : World) (base : Nat) (vs : List Value) (ls : List (List Nat)) : Prop :=
  vs.length = ls.length ∧ ∀ j, j < ls.length → ∃ A c, vs[j]? = some (.slice A (ls.getD j []).length c) ∧ Own w base 5 1 A (ls.getD j []).length c ((ls.getD j []).map byte)
theorem Ents.keep {w w' : World} {base : Nat} {vs : List Value} {ls : List (List Nat)} (h : Ents w base vs ls) {row : Option Nat} (hg : w.grownBy w' row)
    (hr : ∀ (A : Option Addr) (n c : Nat) (xs : List Value), Own w base 5 1 A n c xs → rowOf A c = none ∨ rowOf A c ≠ row) : Ents w' base vs ls :=
  ⟨h.1, fun j hj => by
    obtain ⟨A, c, h1, h2⟩ := h.2 j hj
    exact ⟨A, c, h1, h2.grownBy_ hg (hr _ _ _ _ h2)⟩⟩
theorem Ents.grown0 {w w' : World} {base : Nat} {vs : List Value} {ls : List (List Nat)} (h : Ents w base vs ls) (hg : w.grownBy w' none) : Ents w' base vs ls :=
  h.keep hg (fun A n c xs _ => by cases rowOf A c <;> simp)
theorem Ents.snoc {w : World} {base : Nat} {vs : List Value} {ls : List (List Nat)} (h : Ents w base vs ls) {A : Option Addr} {c : Nat} {l : List Nat} (ho : Own w base 5 1 A l.length c (l.map byte)) :
    Ents w base (vs ++ [.slice A l.length c]) (ls ++ [l]) := by
  refine ⟨by simp [h.1], fun j hj => ?_⟩
  by_cases h1 : j < ls.length
  · obtain ⟨A', c', e1, e2⟩ := h.2 j h1
    have hd : (ls ++ [l]).getD j [] = ls.getD j [] := by simp [List.getD_eq_getElem?_getD, List.getElem?_append_left h1]
    rw [hd]
    exact ⟨A', c', by rw [List.getElem?_append_left (by rw [h.1]; exact h1)]; exact e1, e2⟩
  · obtain rfl : j = ls.length := by simp at hj; omega
    have hd : (ls ++ [l]).getD ls.length [] = l := by simp [List.getD_eq_getElem?_getD]
    rw [hd]
    exact ⟨A, c, by rw [← h.1]; simp, ho⟩
theorem Ents.rows {w : World} {base : Nat} {vs : List Value} {ls : List (List Nat)} (h : Ents w base vs ls) : RowsAt w w.heap.size vs ls :=
  ⟨h.1, fun j hj => by
    obtain ⟨A, c, h1, h2⟩ := h.2 j hj
    exact ⟨A, c, h1, h2.reads⟩⟩
theorem take_put {l : List Nat} {k : Nat} (h : k < l.length) : (l.take (k + 1)).map putL = (l.take k).map putL ++ [putL (nth l k)] := by
  rw [List.take_succ_eq_append_getElem h, List.map_append, nth_getElem h]; rfl
def rowB (l : List Nat) : List Nat := (l.map putL).flatten
theorem rowB_len (l : List Nat) (h : ∀ x ∈ l, x < 18446744073709551616) : (rowB l).length ≤ 10 * l.length := by
  induction l with
  | nil => simp [rowB]
  | cons x r ih =>
    have h1 := ih (fun y hy => h y (List.mem_cons_of_mem _ hy))
    have h2 := putL_len10 x (h x (by simp))
    simp only [rowB, List.map_cons, List.flatten_cons, List.length_append, List.length_cons] at h1 ⊢
    omega
theorem rowB_succ {l : List Nat} {k : Nat} (h : k < l.length) : rowB (l.take (k + 1)) = rowB (l.take k) ++ putL (nth l k) := by
  unfold rowB
  rw [take_put h, List.flatten_append]
  simp
theorem nth_lt {l : List Nat} (h : ∀ x ∈ l, x < 18446744073709551616) (k : Nat) : nth l k < 18446744073709551616 := by
  by_cases hk : k < l.length
  · rw [nth_getElem hk]; exact h _ (List.getElem_mem hk)
  · unfold nth; rw [List.getD_eq_getElem?_getD, List.getElem?_eq_none (by omega)]; simp
theorem joined_any (A : Option Addr) (n c : Nat) (vs : List Value) (ls : List (List Nat)) (w : World) (hl : ls.length = n) (hr : Reads w w.heap.size A vs) (hv : RowsAt w w.heap.size vs ls) (hn : n ≤ 1000000) (ht : ls.flatten.length ≤ 1000000) :
    Calls Try.prog 48 #[.slice A n c] w fun e w' => ∃ A' c', e = .returned (.slice A' ls.flatten.length c') ∧ Own w' w.heap.size 5 1 A' ls.flatten.length c' (ls.flatten.map byte) ∧ w.grownBy w' none := by
  have C := Lib.hid (concat_any A n c vs ls w hl hr hv hn ht)
  clear hr hv hl
  generalize ls.flatten = t at *
  go_enter Try.func48, Try.ntmps48
  go_wp2_with fail
  refine C.out.mono ?_; rintro e w1 ⟨A', c', rfl, hown, hg⟩
  go_wp2
  go_ret
  exact ⟨A', c', rfl, hown, hg⟩
set_option maxHeartbeats 1000000 in
theorem row_any (A : Option Addr) (n c : Nat) (l : List Nat) (w : World) (hl : l.length = n) (hr : Reads w w.heap.size A (l.map w64)) (hb : ∀ x ∈ l, x < 18446744073709551616) (hn : n ≤ 10000) :
    Calls Try.prog 35 #[.slice A n c] w fun e w' => ∃ A' c', e = .returned (.slice A' (rowB l).length c') ∧ Own w' w.heap.size 5 1 A' (rowB l).length c' ((rowB l).map byte) ∧ w.grownBy w' none := by
  obtain ⟨i0, hi0, hz0, hz1, hz2⟩ := info_parts infoS
  have hlen := rowB_len l hb
  have hl' := Lib.hid hl
  have hlen' := Lib.hid (show (rowB l).length ≤ 1000000 by omega)
  have hb' := Lib.hid hb
  have htn := Lib.hid (show l.take n = l by rw [List.take_of_length_le (by omega)])
  clear hb hlen hl
  go_enter Try.func35, Try.ntmps35
  go_wp2_with fail
  go_loopw [3, 5, 8] (fun v _ i wr => ∃ (k : Nat) (B : Option Addr) (c' : Nat) (vs : List Value), k ≤ n ∧ i = .int .i64 k ∧ v = .slice B k c' ∧ Own wr w.heap.size 22 1 B k c' vs ∧ Ents wr w.heap.size vs ((l.take k).map putL) ∧ w.grownBy wr none) (fun _ _ i _ => n - (intOf i).toNat)
  case atStart => exact ⟨0, none, 0, [], by omega, rfl, rfl, Own.nil_ _ _ _ _ _, ⟨by simp, fun j hj => absurd hj (by simp)⟩, World.grownBy.refl _ _⟩
  case round =>
    obtain ⟨k, B, c', vs, hk, rfl, rfl, hown, hents, hg⟩ := hrel
    by_cases hlt : k < n
    · obtain ⟨ad, rfl, _, hc⟩ := (hr.grown0 hg).w64_ (k := k) (by rw [hl'.out]; exact hlt)
      have hx := nth_lt hb'.out k
      have htp := Lib.hid (take_put (l := l) (k := k) (by rw [hl'.out]; exact hlt))
      have C := Lib.hid (fun W => put_any (nth l k) W hx)
      generalize putL (nth l k) = p at *
      generalize nth l k = x at *
      have hgz := hg.size
      go_wp2_with fail
      refine (C.out _).mono ?_; rintro e w1 ⟨A1, c1, rfl, hown1, hg1⟩
      have hgz1 := hg1.size
      have hownB := hown.grown0 hg1
      have hents1 := hents.grown0 hg1
      have hown1' := hown1.base_ (base' := w.heap.size) hgz
      clear hown hents hown1 C
      go_wp2_with (at_builtin; refine wpList_append_Own rfl (.tmp 12) (.tmp 15) _ rfl w.heap.size 22 i0 _ 1 24 Try.underlying51 hi0 hz0 hz1 hz2 rfl (by omega) B k c' _ rfl (hownB.alloc _) (some ⟨w1.heap.size, 0, none⟩) 1 1 _ [.slice A1 p.length c1] rfl rfl (Reads.one_ _ _ _) (by simp [Value.oneCell']) (by simp only [maxLen]; omega) (by omega) (by simp; omega) ?_; intro B2 c2 w2 hown2 hg2 _)
      have hownBa := hownB.alloc (.cells #[.slice A1 p.length c1] 22)
      have hrow := hownBa.row_ge
      have hgn := grown_new (grown_trans (grown_trans hg hg1) (World.grownBy_alloc _ _ none)) hg2 (fun g h => (hrow g h).1)
      have hents2 : Ents w2 w.heap.size (vs ++ [.slice A1 p.length c1]) ((l.take (k + 1)).map putL) := by
        rw [htp.out]
        have h0 := (hents1.snoc hown1').grown0 (World.grownBy_alloc w1 (.cells #[.slice A1 p.length c1] 22) none)
        exact h0.keep hg2 (fun A n c xs ho => ho.other_ hownBa (by decide))
      go_roundw
      case rel => exact ⟨k + 1, B2, c2, _, by omega, by go_num, rfl, hown2, hents2, hgn⟩
      case measure => simp [intOf]; omega
    · obtain rfl : k = n := by omega
      rw [htn.out] at hents
      have C := Lib.hid (joined_any B k c' vs (l.map putL) wr (by simp; exact hl'.out) hown.reads hents.rows (by omega) hlen'.out)
      rw [show (l.map putL).flatten = rowB l from rfl] at C
      have hgz := hg.size
      clear hown hents
      go_wp2_with fail
      refine C.out.mono ?_; rintro e w1 ⟨A', c2, rfl, hown1, hg1⟩
      go_wp2
      go_ret
      exact ⟨A', c2, rfl, hown1.base_ hgz, grown_trans hg hg1⟩
set_option maxHeartbeats 1000000 in
theorem rrow_any (A : Option Addr) (n c : Nat) (l : List Nat) (w : World) (hl : l.length = n) (hr : Reads w w.heap.size A (l.map w64)) (hb : ∀ x ∈ l, x < 18446744073709551616) (hn : n ≤ 10000) :
    Calls Try.prog 36 #[.slice A n c] w fun e w' => ∃ A' c', e = .returned (.slice A' (rowB l).length c') ∧ Own w' w.heap.size 5 1 A' (rowB l).length c' ((rowB l).map byte) ∧ w.grownBy w' none := by
  obtain ⟨i0, hi0, hz0, hz1, hz2⟩ := info_parts infoB
  have hl' := Lib.hid hl
  have hb' := Lib.hid hb
  have hlk := Lib.hid (fun k (hk : k ≤ n) => show (rowB (l.take k)).length ≤ 100000 by
    have := rowB_len (l.take k) (fun x hx => hb x (List.mem_of_mem_take hx))
    rw [List.length_take] at this
    omega)
  have htn := Lib.hid (show l.take n = l by rw [List.take_of_length_le (by omega)])
  clear hb hl
  go_enter Try.func36, Try.ntmps36
  go_wp2_with fail
  go_loopw [3, 4] (fun v i wr => ∃ (k : Nat) (B : Option Addr) (c' : Nat), k ≤ n ∧ i = .int .i64 k ∧ v = .slice B (rowB (l.take k)).length c' ∧ Own wr w.heap.size 5 1 B (rowB (l.take k)).length c' ((rowB (l.take k)).map byte) ∧ w.grownBy wr none) (fun _ i _ => n - (intOf i).toNat)
  case atStart => exact ⟨0, none, 0, by omega, rfl, rfl, Own.nil_ _ _ _ _ _, World.grownBy.refl _ _⟩
  case round =>
    obtain ⟨k, B, c', hk, rfl, rfl, hown, hg⟩ := hrel
    by_cases hlt : k < n
    · obtain ⟨ad, rfl, _, hc⟩ := (hr.grown0 hg).w64_ (k := k) (by rw [hl'.out]; exact hlt)
      have hx := nth_lt hb'.out k
      have hrs := Lib.hid (rowB_succ (l := l) (k := k) (by rw [hl'.out]; exact hlt))
      have hlk1 := hlk.out (k + 1) (by omega)
      rw [hrs.out, List.length_append] at hlk1
      have hp1 := byte_one (putL (nth l k))
      have C := Lib.hid (fun W => rput_any (nth l k) W hx)
      generalize putL (nth l k) = p at *
      generalize nth l k = x at *
      generalize rowB (l.take k) = y at *
      have hgz := hg.size
      go_wp2_with fail
      refine (C.out _).mono ?_; rintro e w1 ⟨A1, c1, rfl, hown1, hg1⟩
      have hgz1 := hg1.size
      have hownB := hown.grown0 hg1
      clear hown C
      go_wp2_with (at_builtin; refine wpList_append_Own rfl (.tmp 11) (.tmp 16) _ rfl w.heap.size 5 i0 _ 1 1 Try.underlying22 hi0 hz0 hz1 hz2 rfl (by omega) B y.length c' _ rfl hownB A1 p.length c1 _ (p.map byte) rfl (by simp) hown1.reads hp1 (by simp only [maxLen]; omega) (by omega) (by omega) ?_; intro B2 c2 w2 hown2 hg2 _)
      have hrow := hownB.row_ge
      have hgn := grown_new (grown_trans hg hg1) hg2 (fun g h => (hrow g h).1)
      go_roundw
      case rel => exact ⟨k + 1, B2, c2, by omega, by go_num, by rw [hrs.out, List.length_append], by rw [hrs.out, List.length_append, List.map_append]; exact hown2, hgn⟩
      case measure => simp [intOf]; omega
    · obtain rfl : k = n := by omega
      rw [htn.out] at hown ⊢
      go_wp2
      go_ret
      exact ⟨B, c', rfl, hown, hg⟩
end Go.Proofs.Ythijicpfihpkfaa
