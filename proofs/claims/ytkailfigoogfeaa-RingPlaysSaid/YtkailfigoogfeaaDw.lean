/- A document as an argument, each text's size within the reach. -/
import Derived.Test.YtkailfigoogfeaaNd
import Derived.SizedLaws
namespace Go.Proofs.Ytkailfigoogfeaa
open Go Go.ChangeShapes Go.WideShapes Go.RowKit Go.Deep
theorem weights_mem_all {H : Type} {P : Program} {e : TypeId} : ∀ {ds : List (DataW H)} {d : DataW H}, d ∈ ds → ∀ n ∈ d.weights P e, n ∈ DataW.weightsAll P e ds
  | d0 :: ds, d, hd, n, hn => by
    simp only [DataW.weightsAll, List.mem_append]
    rcases List.mem_cons.1 hd with rfl | hd
    · exact .inl hn
    · exact .inr (weights_mem_all hd n hn)
section
variable {H : Type} {enc : TypeId × Value → H} {P : Program} {w : World} {base : Nat} {spare : Nat → Bool} {held : Bool} {R : Nat}
theorem open_rows_w {t e : TypeId} {fuel : Nat} {cs : List Value} {x : DataW H × List MemPlace} (Q : List Value → Prop) (ht : P.underlying t = some (.slice e)) (hpos : 0 < P.cellsOf e)
    (hQ : ∀ n cs' y, DataW.trod enc P w base spare held n e cs' = some y → (∀ k ∈ y.1.weights P e, k ≤ R) → Q cs') (h : DataW.trod enc P w base spare held fuel t cs = some x) (hw : ∀ k ∈ x.1.weights P t, k ≤ R) :
    ∃ A len cap L, cs = [.slice A len cap] ∧ IsRows w (P.cellsOf e) Q A len cap L := by
  rcases open_slice ht h with ⟨h0, _⟩ | ⟨a, len, cap, m, n, D, Pl, rfl, hb, hl, hm, hmm, hxe, hx⟩
  · exact ⟨none, 0, 0, [], h0, rfl, by omega, by unfold maxLen; omega, by simp, Reads.nil_⟩
  · have hlm : len ≤ m := by rw [hmm]; split <;> omega
    have hwD : ∀ i, i < len → ∀ k ∈ (D i).weights P e, k ≤ R := fun i hi k hk => hw k (by
      rw [hxe]
      simp only [DataW.weights, ht, List.mem_cons, List.mem_append]
      exact .inr (.inl (weights_mem_all (List.mem_map.2 ⟨i, List.mem_range.2 hi, rfl⟩) k hk)))
    obtain ⟨V, hV⟩ := choose_lt (α := List Value) (p := fun i v => w.cells? base (a.add (i * P.cellsOf e)) (P.cellsOf e) = some v ∧ DataW.trod enc P w base spare held n e v = some (D i, Pl i)) (n := m) (fun i hi => hx i hi)
    have hVl : ∀ i, i < m → (V i).length = P.cellsOf e ∧ ∀ k, k < P.cellsOf e → w.cell? (a.add (i * P.cellsOf e + k)) = (V i)[k]? := fun i hi => by
      obtain ⟨_, h1, h2⟩ := World.cells?_some (hV i hi).1
      refine ⟨h1, fun k hk => ?_⟩
      rw [← h2 k hk, add_add']
    have hall : ∀ x ∈ (List.range len).map V, x.length = P.cellsOf e ∧ Q x := fun x hx => by
      obtain ⟨i, hi, rfl⟩ := List.mem_map.1 hx
      have him : i < m := by have := List.mem_range.1 hi; omega
      exact ⟨(hVl i him).1, hQ _ _ _ (hV i him).2 (hwD i (List.mem_range.1 hi))⟩
    refine ⟨some a, len, cap, (List.range len).map V, rfl, by simp, hl, hm, hall, fun hn => ⟨a, rfl, ?_, fun j u hu => ?_⟩⟩
    · rw [flatten_len _ _ (fun x hx => (hall x hx).1)] at hn
      simp only [List.length_map, List.length_range] at hn
      have h0 : 0 < len := by
        rcases Nat.eq_zero_or_pos len with h | h
        · rw [h] at hn; simp at hn
        · exact h
      have h1 := (hVl 0 (by omega)).2 0 hpos
      have h2 : (V 0)[0]? = some ((V 0)[0]'(by rw [(hVl 0 (by omega)).1]; exact hpos)) := List.getElem?_eq_getElem _
      rw [h2] at h1
      have := World.block_lt_of_cell? w _ h1
      rwa [add_block] at this
    · rw [flatten_get _ hpos _ (fun x hx => (hall x hx).1)] at hu
      obtain ⟨y, hy, hu⟩ := Option.bind_eq_some_iff.1 hu
      rw [List.getElem?_map] at hy
      obtain ⟨i, hi, rfl⟩ := Option.map_eq_some_iff.1 hy
      have hil : j / P.cellsOf e < len := by
        have := (List.getElem?_eq_some_iff.1 hi).1
        simpa using this
      have hie : i = j / P.cellsOf e := by
        rw [List.getElem?_range hil] at hi
        exact (Option.some.inj hi).symm
      subst hie
      have h1 := (hVl (j / P.cellsOf e) (by omega)).2 (j % P.cellsOf e) (Nat.mod_lt _ hpos)
      rw [show j / P.cellsOf e * P.cellsOf e + j % P.cellsOf e = j by rw [Nat.mul_comm]; exact Nat.div_add_mod _ _] at h1
      rw [h1, hu]
/-- A flat struct whose field 'i' is a text, at place 'o'. -/
theorem text_weigh {t : TypeId} {fs : Array Field} {f : Field} {i o fuel : Nat} {cs : List Value} {x : DataW H × List MemPlace} (ht : P.underlying t = some (.struct fs)) (hf : fs[i]? = some f) (ho : f.offset = o) (hu : P.underlying f.type = some .string) (hc : P.cellsOf f.type = 1)
    (h : DataW.trod enc P w base spare held fuel t cs = some x) (hw : ∀ k ∈ x.1.weights P t, k ≤ R) : ∀ s : ByteArray, cs[o]? = some (.string s) → s.size ≤ R := by
  intro s hs
  obtain ⟨xs, n, rfl, hxe, hl, hxl, hfs⟩ := DataW.trod_struct ht h
  have h1 := hfs i f hf
  have hlt : i < xs.length := by rw [hxl]; exact (Array.getElem?_eq_some_iff.1 hf).1
  rw [List.getElem?_eq_getElem hlt, hc, ho] at h1
  obtain ⟨s', h2, h3, _⟩ := DataW.trod_string hu h1
  have h4 : ((cs.drop o).take 1)[0]? = some (.string s') := by rw [h2]; rfl
  rw [List.getElem?_take, if_pos (by omega), List.getElem?_drop, Nat.add_zero, hs] at h4
  cases h4
  have h5 := hw s.data.toList.length (by
    rw [hxe]
    simp only [DataW.weights, ht]
    refine DataW.weights_mem_each (j := i) (t := f.type) (d := xs[i].1) ?_ ?_ _ ?_
    · rw [List.getElem?_map]
      have : fs.toList[i]? = some f := by rw [Array.getElem?_toList]; exact hf
      rw [this]; rfl
    · rw [List.getElem?_map, List.getElem?_eq_getElem hlt]; rfl
    · rw [h3]; simp [DataW.weights])
  simpa using h5
theorem trod_doc_w {t e : TypeId} {ls : List Lf} {m fuel : Nat} {cs : List Value} {x : DataW H × List MemPlace} (Q : List Value → Prop) (hd : docB P t e = true) (hc : P.cellsOf t = 2) (hls : leaves P m e = some ls) (hpos : 0 < P.cellsOf e)
    (hQ : ∀ n cs' y, DataW.trod enc P w base spare held n e cs' = some y → (∀ k ∈ y.1.weights P e, k ≤ R) → Q cs')
    (h : DataW.trod enc P w base spare held fuel t cs = some x) (hw : ∀ k ∈ x.1.weights P t, k ≤ R) :
    ∃ A len cap L nx, cs = [.slice A len cap, .int .i64 nx] ∧ (Lit.int .i64 nx).wf = true ∧ IsRows w (P.cellsOf e) Q A len cap L := by
  unfold docB at hd
  split at hd
  · rename_i fs ht
    split at hd
    · rename_i f0 f1 hfs
      simp only [Bool.and_eq_true, beq_iff_eq] at hd
      obtain ⟨⟨⟨⟨⟨o0, o1⟩, c0⟩, c1⟩, u0⟩, u1⟩ := hd
      obtain ⟨xs, k, rfl, hxe, hl, hxl, hf⟩ := DataW.trod_struct ht h
      rw [hc] at hl
      obtain ⟨v0, v1, rfl⟩ : ∃ v0 v1, cs = [v0, v1] := by
        match cs, hl with
        | [a, b], _ => exact ⟨a, b, rfl⟩
      have g0 : fs[0]? = some f0 := by rw [← Array.getElem?_toList, hfs]; rfl
      have g1 : fs[1]? = some f1 := by rw [← Array.getElem?_toList, hfs]; rfl
      have hsz : fs.size = 2 := by rw [← Array.length_toList, hfs]; rfl
      have h0 := hf 0 f0 g0
      have h1 := hf 1 f1 g1
      rw [o0, c0] at h0
      rw [o1, c1] at h1
      have e0 : xs[0]? = some (xs[0]'(by omega)) := List.getElem?_eq_getElem _
      have e1 : xs[1]? = some (xs[1]'(by omega)) := List.getElem?_eq_getElem _
      have hw0 : ∀ k ∈ (xs[0]'(by omega)).1.weights P f0.type, k ≤ R := fun k hk => hw k (by
        rw [hxe]
        simp only [DataW.weights, ht]
        refine DataW.weights_mem_each (j := 0) (t := f0.type) (d := (xs[0]'(by omega)).1) ?_ ?_ _ hk
        · rw [List.getElem?_map, hfs]; rfl
        · rw [List.getElem?_map, e0]; rfl)
      rw [e0] at h0
      rw [e1] at h1
      simp only [List.drop_zero, List.take_succ_cons, List.take_zero, List.drop_succ_cons] at h0 h1
      split at u0
      · rename_i e' ue
        simp only [beq_iff_eq] at u0
        subst u0
        split at u1
        · rename_i ui
          obtain ⟨A, len, cap, L, hA, hR⟩ := open_rows_w Q ue hpos hQ h0 hw0
          obtain ⟨nx, hn, _, hw⟩ := DataW.trod_int ui h1
          cases hA
          cases hn
          exact ⟨A, len, cap, L, nx, rfl, hw, hR⟩
        · cases u1
      · cases u0
    · cases hd
  · cases hd
end
/-- Each text is within the reach. -/
def SmallTexts (L : List (List Value)) : Prop := ∀ z ∈ L, ∀ s : ByteArray, z[50]? = some (.string s) → s.size ≤ 140737488351232
theorem open_docT_w {H : Type} {enc : TypeId × Value → H} {w : World} {base : Nat} {spare : Nat → Bool} {held : Bool} {r : Reach} {b0 : Nat} {v : Value} {d : DataW H} {p : List MemPlace}
    (hv : Value.okWide Try.prog w r b0 24 v) (h : DataW.Trod enc Try.prog w base spare held 24 v d p) (hw : ∀ k ∈ d.weights Try.prog 24, k ≤ reachBytes) :
    ∃ A n c L x, v = .agg #[.slice A n c, .int .i64 x] ∧ (Lit.int .i64 x).wf = true ∧ IsNodes w A n c L ∧ SmallTexts L := by
  obtain ⟨cs, rfl, hsz⟩ := okWide_struct Try.underlying24 hv
  obtain ⟨fuel, hf⟩ := h
  obtain ⟨A, len, cap, L, nx, h1, h2, h3⟩ := trod_doc_w (R := reachBytes) (e := 59) (ls := nodeLs) (m := 8) (fun cs => OkAll nodeLs cs ∧ ∀ s : ByteArray, cs[50]? = some (.string s) → s.size ≤ 140737488351232) (by kernel_rfl) (by kernel_rfl) node_leaves (by rw [node_cells]; omega)
    (fun n cs' y hy hwy => ⟨flat_trod 8 _ _ n cs' y node_leaves hy, text_weigh (i := 4) (o := 50) Try.underlying59 rfl rfl (by kernel_rfl) (by kernel_rfl) hy hwy⟩) hf hw
  have : cs = #[.slice A len cap, .int .i64 nx] := by
    apply Array.ext'
    exact h1
  rw [node_cells] at h3
  exact ⟨A, len, cap, L, nx, by rw [this], h2, ⟨h3.1, h3.2.1, h3.2.2.1, fun x hx => ⟨(h3.2.2.2.1 x hx).1, (h3.2.2.2.1 x hx).2.1⟩, h3.2.2.2.2⟩, fun z hz => (h3.2.2.2.1 z hz).2.2⟩
end Go.Proofs.Ytkailfigoogfeaa
