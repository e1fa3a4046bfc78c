/- Documents with a shape, as lists of nodes' cells. No program. -/
import Derived.Test.YtjnbfgogmhfbiaaTq
import Derived.WalkKit
namespace Go.Proofs.Ytjnbfgogmhfbiaa
open Go
def intAt (x : List Value) (k : Nat) : Int := match x[k]? with
  | some (.int _ n) => n
  | _ => 0
def strAt (x : List Value) (k : Nat) : Nat := match x[k]? with
  | some (.string s) => s.size
  | _ => 0
def keyN (x : List Value) : Int := intAt x 0
def depN (x : List Value) : Int := intAt x 1
def kindN (x : List Value) : Int := intAt x 2
def lenN (x : List Value) : Nat := strAt x 50
def styN (x : List Value) : List Value := (x.drop 3).take 47
def nd (L : List (List Value)) (i : Nat) : List Value := (L[i]?).getD []
def zeroSty : List Value := [.int .u8 0, .bool false, .int .u8 0, .int .i64 0, .int .u8 0, .int .i64 0, .int .u8 0, .int .i64 0, .int .u8 0, .int .i64 0, .int .u8 0, .int .i64 0, .int .u8 0, .int .i64 0, .int .u8 0, .int .i64 0, .int .u8 0, .int .i64 0, .int .u8 0, .int .i64 0, .int .u8 0, .int .i64 0, .int .i64 0, .int .i64 0, .int .i64 0, .int .i64 0, .int .i64 0, .int .i64 0, .int .i64 0, .int .i64 0, .int .i64 0, .int .i64 0, .int .i64 0, .int .u8 0, .int .u8 0, .int .u8 0, .int .u8 0, .int .u8 0, .bool false, .int .u8 0, .int .i64 0, .int .i64 0, .int .i64 0, .int .i64 0, .int .u8 0, .int .i64 0, .int .i64 0]
def Fits (x : List Value) (nx : Int) : Prop :=
  1 ≤ keyN x ∧ keyN x < nx ∧ 0 ≤ depN x ∧ depN x < 16 ∧ (kindN x = 0 ∧ lenN x = 0 ∨ kindN x = 1 ∧ styN x = zeroSty ∧ lenN x ≤ 200)
def total (L : List (List Value)) : Nat := (L.map lenN).sum
def Good (L : List (List Value)) (nx : Int) (i : Nat) : Prop :=
  Fits (nd L i) nx ∧ (∀ k, k < i → keyN (nd L k) ≠ keyN (nd L i)) ∧
    (i = 0 → depN (nd L i) = 0) ∧ (0 < i → 1 ≤ depN (nd L i) ∧ depN (nd L i) ≤ depN (nd L (i - 1)) + 1 ∧ (depN (nd L (i - 1)) < depN (nd L i) → kindN (nd L (i - 1)) ≠ 1))
/-- A document has a shape. -/
def Shape (L : List (List Value)) (nx : Int) : Prop :=
  1 ≤ L.length ∧ L.length ≤ 300 ∧ nx ≤ 1073741825 ∧ (∀ i, i < L.length → Good L nx i) ∧ kindN (nd L 0) = 0 ∧ total L ≤ 1500
def dp (L : List (List Value)) (i : Nat) : Int := depN (nd L i)
theorem nd_some {L : List (List Value)} {i : Nat} {x : List Value} (h : L[i]? = some x) : nd L i = x := by unfold nd; rw [h]; rfl
theorem nd_get {L : List (List Value)} {i : Nat} (h : i < L.length) : L[i]? = some (nd L i) := by unfold nd; rw [List.getElem?_eq_getElem h]; rfl
theorem Shape.steps {L : List (List Value)} {nx : Int} (h : Shape L nx) : Steps (dp L) L.length :=
  ⟨(h.2.2.2.1 0 (by have := h.1; omega)).2.2.1 rfl, fun i h0 h1 => ⟨((h.2.2.2.1 i h1).2.2.2 h0).1, ((h.2.2.2.1 i h1).2.2.2 h0).2.1⟩⟩
theorem total_append (A B : List (List Value)) : total (A ++ B) = total A + total B := by simp [total]
theorem total_drop (L : List (List Value)) (k : Nat) : total (L.drop k) ≤ total L := by
  have := total_append (L.take k) (L.drop k)
  rw [List.take_append_drop] at this
  omega
/-- Kids stand below boxes. -/
theorem Shape.kid_box {L : List (List Value)} {nx : Int} (h : Shape L nx) {i : Nat} (hi : i < L.length) (hk : kidsN (dp L) L.length i ≠ []) : kindN (nd L i) = 0 := by
  obtain ⟨j, hj⟩ := List.exists_mem_of_ne_nil _ hk
  obtain ⟨h1, h2, h3⟩ := (mem_kids hi).1 hj
  have e2 := endN_le (d := dp L) hi
  have h4 := endN_in (d := dp L) (n := L.length) (i := i) (j := i + 1) (by omega) (by omega)
  have g := (h.2.2.2.1 (i + 1) (by omega)).2.2.2 (by omega)
  have h5 := g.2.2
  rw [show i + 1 - 1 = i by omega] at h5
  have h6 := h5 h4
  rcases (h.2.2.2.1 i hi).1.2.2.2.2 with g | g
  · exact g.1
  · exact absurd g.1 h6
/-- Keys tell places. -/
theorem Shape.keys {L : List (List Value)} {nx : Int} (h : Shape L nx) {i j : Nat} (hi : i < L.length) (hj : j < L.length) (he : keyN (nd L i) = keyN (nd L j)) : i = j := by
  rcases Nat.lt_trichotomy i j with hl | hl | hl
  · exact absurd he ((h.2.2.2.1 j hj).2.1 i hl)
  · exact hl
  · exact absurd he.symm ((h.2.2.2.1 i hi).2.1 j hl)
/-- Without a node's tree. -/
theorem nd_less (L : List (List Value)) (a e i : Nat) (ha : a ≤ L.length) : nd (L.take a ++ L.drop e) i = if i < a then nd L i else nd L (i - a + e) := by
  unfold nd
  split
  · rename_i h
    rw [List.getElem?_append_left (by simp; omega), List.getElem?_take, if_pos h]
  · rename_i h
    rw [List.getElem?_append_right (by simp; omega), List.getElem?_drop, List.length_take, Nat.min_eq_left ha, Nat.add_comm]
theorem Shape.less {L : List (List Value)} {nx : Int} (h : Shape L nx) {a : Nat} (h0 : 0 < a) (ha : a < L.length) : Shape (L.take a ++ L.drop (endN (dp L) L.length a)) nx := by
  have e1 := endN_gt (d := dp L) ha
  have e2 := endN_le (d := dp L) ha
  obtain ⟨s1, s2, s3, s4, s5, s6⟩ := h
  obtain ⟨e, he⟩ : ∃ e, endN (dp L) L.length a = e := ⟨_, rfl⟩
  have hout : e = L.length ∨ dp L e ≤ dp L a := by
    have := endN_out (d := dp L) ha
    rw [he] at this; exact this
  rw [he] at e1 e2 ⊢
  have hlen : (L.take a ++ L.drop e).length = a + (L.length - e) := by rw [List.length_append, List.length_take, List.length_drop, Nat.min_eq_left (by omega)]
  refine ⟨by omega, by omega, s3, fun i hi => ?_, by rw [nd_less L a e 0 (by omega), if_pos h0]; exact s5, ?_⟩
  · rw [hlen] at hi
    have hF : ∀ j, j < a + (L.length - e) → ∃ q, nd (L.take a ++ L.drop e) j = nd L q ∧ q < L.length ∧ (j < a ∧ q = j ∨ a ≤ j ∧ q = j - a + e) := fun j hj => by
      by_cases hlt : j < a
      · exact ⟨j, by rw [nd_less L a e j (by omega), if_pos hlt], by omega, .inl ⟨hlt, rfl⟩⟩
      · exact ⟨j - a + e, by rw [nd_less L a e j (by omega), if_neg hlt], by omega, .inr ⟨by omega, rfl⟩⟩
    obtain ⟨q, hq, hql, hqc⟩ := hF i hi
    obtain ⟨g1, g2, g3, g4⟩ := s4 q hql
    unfold Good
    rw [hq]
    refine ⟨g1, fun k hk => ?_, fun h' => g3 (by omega), fun h' => ?_⟩
    · obtain ⟨q', hq', _, hc'⟩ := hF k (by omega)
      rw [hq']
      exact g2 q' (by omega)
    · obtain ⟨q', hq', hql', hc'⟩ := hF (i - 1) (by omega)
      rw [hq']
      have g5 := g4 (by omega)
      rcases (by omega : q' = q - 1 ∨ i = a) with e3 | e3
      · rw [e3]; exact g5
      · have e4 : q = e := by omega
        have e5 : q' = a - 1 := by omega
        have g6 := (s4 a ha).2.2.2 h0
        have g7 : depN (nd L e) ≤ depN (nd L a) := by
          rcases hout with e6 | e6
          · omega
          · exact e6
        rw [e4] at g5 ⊢
        rw [e5]
        exact ⟨g5.1, by omega, fun g8 => g6.2.2 (by omega)⟩
  · rw [total_append]
    have h1 := total_append (L.take a) (L.drop a)
    rw [List.take_append_drop] at h1
    have h2 := total_drop (L.drop a) (e - a)
    rw [List.drop_drop, show a + (e - a) = e by omega] at h2
    omega
theorem nd_set_same {L : List (List Value)} {i : Nat} (h : i < L.length) (x : List Value) : nd (L.set i x) i = x := by unfold nd; simp [h]
theorem nd_set_other {L : List (List Value)} {i j : Nat} (h : i ≠ j) (x : List Value) : nd (L.set i x) j = nd L j := by unfold nd; rw [List.getElem?_set_ne h]
theorem not_twice {L : List (List Value)} {nx : Int} {a o : Nat} (ha : a < L.length) (ho : o < L.length) (hne : o ≠ a) {x : List Value} (hx : keyN x = keyN (nd L o)) : ¬ Shape (L.set a x) nx := by
  intro h
  have := h.keys (i := a) (j := o) (by simpa using ha) (by simpa using ho) (by rw [nd_set_same ha, nd_set_other (Ne.symm hne), hx])
  omega
theorem not_flat {L : List (List Value)} {nx : Int} {a : Nat} (h0 : 0 < a) (ha : a < L.length) {x : List Value} (hx : depN x = 0) : ¬ Shape (L.set a x) nx := by
  intro h
  have := ((h.2.2.2.1 a (by simpa using ha)).2.2.2 h0).1
  rw [nd_set_same ha, hx] at this
  omega
end Go.Proofs.Ytjnbfgogmhfbiaa
