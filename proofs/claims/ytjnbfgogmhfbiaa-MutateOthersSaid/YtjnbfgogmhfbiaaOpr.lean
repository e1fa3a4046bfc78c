/- Slices whose elements are opened one by one, and a document (a slice of flat structs, a number), as arguments. -/
import Derived.Test.YtjnbfgogmhfbiaaFlat
import Derived.Test.YtjnbfgogmhfbiaaMem
import Derived.Deep.Slices
namespace Go.Proofs.Ytjnbfgogmhfbiaa
open Go Go.ChangeShapes Go.WideShapes Go.RowKit Go.Deep
theorem flatten_get {α : Type} (s : Nat) (hs : 0 < s) : ∀ (L : List (List α)), (∀ x ∈ L, x.length = s) → ∀ j, L.flatten[j]? = (L[j / s]?).bind fun x => x[j % s]?
  | [], _, j => by simp
  | x :: r, h, j => by
    have hx := h x (by simp)
    rw [List.flatten_cons, List.getElem?_append]
    by_cases hj : j < s
    · rw [if_pos (by omega), Nat.div_eq_of_lt hj, Nat.mod_eq_of_lt hj]
      simp
    · rw [if_neg (by omega), flatten_get s hs r (fun y hy => h y (List.mem_cons_of_mem _ hy)), hx]
      obtain ⟨k, rfl⟩ : ∃ k, j = k + s := ⟨j - s, by omega⟩
      rw [Nat.add_sub_cancel, Nat.add_div_right k hs, Nat.add_mod_right, List.getElem?_cons_succ]
theorem flatten_len {α : Type} (s : Nat) : ∀ (L : List (List α)), (∀ x ∈ L, x.length = s) → L.flatten.length = L.length * s
  | [], _ => by simp
  | x :: r, h => by
    rw [List.flatten_cons, List.length_append, h x (by simp), flatten_len s r (fun y hy => h y (List.mem_cons_of_mem _ hy)), List.length_cons, Nat.succ_mul]
    omega
/-- A slice of elements of 'size' cells each; what each is, is what 'Q' says. -/
def IsRows (w : World) (size : Nat) (Q : List Value → Prop) (A : Option Addr) (len cap : Nat) (L : List (List Value)) : Prop :=
  L.length = len ∧ len ≤ cap ∧ cap ≤ maxLen ∧ (∀ x ∈ L, x.length = size ∧ Q x) ∧ Reads w w.heap.size A L.flatten
section
variable {H : Type} {enc : TypeId × Value → H} {P : Program} {w : World} {base : Nat} {spare : Nat → Bool} {held : Bool}
theorem open_rows {t e : TypeId} {fuel : Nat} {cs : List Value} {x : DataW H × List MemPlace} (Q : List Value → Prop) (ht : P.underlying t = some (.slice e)) (hpos : 0 < P.cellsOf e)
    (hQ : ∀ n cs' y, DataW.trod enc P w base spare held n e cs' = some y → Q cs') (h : DataW.trod enc P w base spare held fuel t cs = some x) :
    ∃ A len cap L, cs = [.slice A len cap] ∧ IsRows w (P.cellsOf e) Q A len cap L := by
  rcases open_slice ht h with ⟨h0, _⟩ | ⟨a, len, cap, m, n, D, Pl, rfl, hb, hl, hm, hmm, _, hx⟩
  · exact ⟨none, 0, 0, [], h0, rfl, by omega, by unfold maxLen; omega, by simp, Reads.nil_⟩
  · have hlm : len ≤ m := by rw [hmm]; split <;> omega
    obtain ⟨V, hV⟩ := choose_lt (α := List Value) (p := fun i v => w.cells? base (a.add (i * P.cellsOf e)) (P.cellsOf e) = some v ∧ DataW.trod enc P w base spare held n e v = some (D i, Pl i)) (n := m) (fun i hi => hx i hi)
    have hVl : ∀ i, i < m → (V i).length = P.cellsOf e ∧ ∀ k, k < P.cellsOf e → w.cell? (a.add (i * P.cellsOf e + k)) = (V i)[k]? := fun i hi => by
      obtain ⟨_, h1, h2⟩ := World.cells?_some (hV i hi).1
      refine ⟨h1, fun k hk => ?_⟩
      rw [← h2 k hk, add_add']
    have hall : ∀ x ∈ (List.range len).map V, x.length = P.cellsOf e ∧ Q x := fun x hx => by
      obtain ⟨i, hi, rfl⟩ := List.mem_map.1 hx
      have him : i < m := by have := List.mem_range.1 hi; omega
      exact ⟨(hVl i him).1, hQ _ _ _ (hV i him).2⟩
    refine ⟨some a, len, cap, (List.range len).map V, rfl, by simp, hl, hm, hall, fun hn => ⟨a, rfl, ?_, fun j u hu => ?_⟩⟩
    · rw [flatten_len _ _ (fun x hx => (hall x hx).1)] at hn
      simp only [List.length_map, List.length_range] at hn
      have h0 : 0 < len := by
        rcases Nat.eq_zero_or_pos len with h | h
        · rw [h] at hn; simp at hn
        · exact h
      have h1 := (hVl 0 (by omega)).2 0 hpos
      have h2 : (V 0)[0]? = some ((V 0)[0]'(by rw [(hVl 0 (by omega)).1]; exact hpos)) := List.getElem?_eq_getElem _
      rw [h2] at h1
      have := World.block_lt_of_cell? w _ h1
      rwa [add_block] at this
    · rw [flatten_get _ hpos _ (fun x hx => (hall x hx).1)] at hu
      obtain ⟨y, hy, hu⟩ := Option.bind_eq_some_iff.1 hu
      rw [List.getElem?_map] at hy
      obtain ⟨i, hi, rfl⟩ := Option.map_eq_some_iff.1 hy
      have hil : j / P.cellsOf e < len := by
        have := (List.getElem?_eq_some_iff.1 hi).1
        simpa using this
      have hie : i = j / P.cellsOf e := by
        rw [List.getElem?_range hil] at hi
        exact (Option.some.inj hi).symm
      subst hie
      have h1 := (hVl (j / P.cellsOf e) (by omega)).2 (j % P.cellsOf e) (Nat.mod_lt _ hpos)
      rw [show j / P.cellsOf e * P.cellsOf e + j % P.cellsOf e = j by rw [Nat.mul_comm]; exact Nat.div_add_mod _ _] at h1
      rw [h1, hu]
/-- A struct of a slice and a number. -/
def docB (P : Program) (t e : TypeId) : Bool :=
  match P.underlying t with
  | some (.struct fs) => match fs.toList with
    | [f0, f1] => f0.offset == 0 && f1.offset == 1 && P.cellsOf f0.type == 1 && P.cellsOf f1.type == 1 && (match P.underlying f0.type with
      | some (.slice e') => e' == e
      | _ => false) && (match P.underlying f1.type with
      | some (.int .i64) => true
      | _ => false)
    | _ => false
  | _ => false
theorem trod_doc {t e : TypeId} {ls : List Lf} {m fuel : Nat} {cs : List Value} {x : DataW H × List MemPlace} (hd : docB P t e = true) (hc : P.cellsOf t = 2) (hls : leaves P m e = some ls) (hpos : 0 < P.cellsOf e)
    (h : DataW.trod enc P w base spare held fuel t cs = some x) :
    ∃ A len cap L nx, cs = [.slice A len cap, .int .i64 nx] ∧ (Lit.int .i64 nx).wf = true ∧ IsRows w (P.cellsOf e) (OkAll ls) A len cap L := by
  unfold docB at hd
  split at hd
  · rename_i fs ht
    split at hd
    · rename_i f0 f1 hfs
      simp only [Bool.and_eq_true, beq_iff_eq] at hd
      obtain ⟨⟨⟨⟨⟨o0, o1⟩, c0⟩, c1⟩, u0⟩, u1⟩ := hd
      obtain ⟨xs, k, rfl, _, hl, hxl, hf⟩ := DataW.trod_struct ht h
      rw [hc] at hl
      obtain ⟨v0, v1, rfl⟩ : ∃ v0 v1, cs = [v0, v1] := by
        match cs, hl with
        | [a, b], _ => exact ⟨a, b, rfl⟩
      have g0 : fs[0]? = some f0 := by rw [← Array.getElem?_toList, hfs]; rfl
      have g1 : fs[1]? = some f1 := by rw [← Array.getElem?_toList, hfs]; rfl
      have hsz : fs.size = 2 := by rw [← Array.length_toList, hfs]; rfl
      have h0 := hf 0 f0 g0
      have h1 := hf 1 f1 g1
      rw [o0, c0] at h0
      rw [o1, c1] at h1
      have e0 : xs[0]? = some (xs[0]'(by omega)) := List.getElem?_eq_getElem _
      have e1 : xs[1]? = some (xs[1]'(by omega)) := List.getElem?_eq_getElem _
      rw [e0] at h0
      rw [e1] at h1
      simp only [List.drop_zero, List.take_succ_cons, List.take_zero, List.drop_succ_cons] at h0 h1
      split at u0
      · rename_i e' ue
        simp only [beq_iff_eq] at u0
        subst u0
        split at u1
        · rename_i ui
          obtain ⟨A, len, cap, L, hA, hR⟩ := open_rows (OkAll ls) ue hpos (fun n cs' y hy => flat_trod m _ ls n cs' y hls hy) h0
          obtain ⟨nx, hn, _, hw⟩ := DataW.trod_int ui h1
          cases hA
          cases hn
          exact ⟨A, len, cap, L, nx, rfl, hw, hR⟩
        · cases u1
      · cases u0
    · cases hd
  · cases hd
theorem open_doc {r : Reach} {b0 : Nat} {t e : TypeId} {fs : Array Field} {ls : List Lf} {m : Nat} {v : Value} {d : DataW H} {p : List MemPlace} (ht : P.underlying t = some (.struct fs)) (hd : docB P t e = true) (hc : P.cellsOf t = 2) (hls : leaves P m e = some ls) (hpos : 0 < P.cellsOf e)
    (hv : Value.okWide P w r b0 t v) (h : DataW.Trod enc P w base spare held t v d p) :
    ∃ A len cap L nx, v = .agg #[.slice A len cap, .int .i64 nx] ∧ (Lit.int .i64 nx).wf = true ∧ IsRows w (P.cellsOf e) (OkAll ls) A len cap L := by
  obtain ⟨cs, rfl, hsz⟩ := okWide_struct ht hv
  obtain ⟨fuel, hf⟩ := h
  obtain ⟨A, len, cap, L, nx, h1, h2, h3⟩ := trod_doc hd hc hls hpos hf
  refine ⟨A, len, cap, L, nx, ?_, h2, h3⟩
  have : cs = #[.slice A len cap, .int .i64 nx] := by
    apply Array.ext'
    exact h1
  rw [this]
end
end Go.Proofs.Ytjnbfgogmhfbiaa
