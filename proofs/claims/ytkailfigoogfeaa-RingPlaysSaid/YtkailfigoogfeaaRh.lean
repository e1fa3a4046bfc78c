/- Documents as an argument. -/
import Derived.Test.YtkailfigoogfeaaRf
namespace Go.Proofs.Ytkailfigoogfeaa
open Go Go.RowKit Go.ChangeShapes Go.WideShapes Go.Deep
def DV.okIn (w : World) (d : DV) : Prop := IsNodes w d.A d.L.length d.c d.L ∧ (Lit.int .i64 d.x).wf = true
/-- A slice of documents that came in. -/
def IsDocs (w : World) (A : Option Addr) (n c : Nat) (D : List DV) : Prop :=
  D.length = n ∧ n ≤ c ∧ c ≤ maxLen ∧ (∀ d ∈ D, d.okIn w) ∧ Reads w w.heap.size A (rowV D)
theorem doc_cells : Try.prog.cellsOf 24 = 2 := by kernel_rfl
theorem pick_list {α β : Type} (F : β → α) (P : β → Prop) : ∀ (L : List α), (∀ x ∈ L, ∃ b, x = F b ∧ P b) → ∃ M : List β, L = M.map F ∧ ∀ b ∈ M, P b
  | [], _ => ⟨[], rfl, by simp⟩
  | x :: r, h => by
    obtain ⟨b, rfl, hb⟩ := h x (by simp)
    obtain ⟨M, h1, h2⟩ := pick_list F P r (fun y hy => h y (List.mem_cons_of_mem _ hy))
    exact ⟨b :: M, by simp [h1], fun y hy => by rcases List.mem_cons.1 hy with rfl | hy; exact hb; exact h2 _ hy⟩
theorem open_docs {H : Type} {enc : TypeId × Value → H} {w : World} {base : Nat} {spare : Nat → Bool} {held : Bool} {r : Reach} {b0 : Nat} {v : Value} {d : DataW H} {p : List MemPlace}
    (hv : Value.okWide Try.prog w r b0 39 v) (h : DataW.Trod enc Try.prog w base spare held 39 v d p) :
    ∃ A n c D, v = .slice A n c ∧ IsDocs w A n c D := by
  obtain ⟨A, n, c, rfl⟩ := okWide_slice Try.underlying39 hv
  obtain ⟨fuel, hf⟩ := h
  obtain ⟨A', n', c', L, hcs, hR⟩ := open_rows (fun cs => ∃ d : DV, cs = d.cells ∧ d.okIn w) Try.underlying39 (by rw [doc_cells]; omega) (fun m cs y hy => by
    obtain ⟨A1, n1, c1, L1, x1, rfl, hw, hrows⟩ := trod_doc (e := 59) (ls := nodeLs) (m := 8) (by kernel_rfl) (by kernel_rfl) node_leaves (by rw [node_cells]; omega) hy
    rw [node_cells] at hrows
    have hl := hrows.1
    subst hl
    exact ⟨⟨A1, c1, L1, x1⟩, rfl, hrows, hw⟩) hf
  simp only [Value.cells, List.cons.injEq, Value.slice.injEq, and_true] at hcs
  obtain ⟨rfl, rfl, rfl⟩ := hcs
  obtain ⟨q1, q2, q3, q4, q5⟩ := hR
  obtain ⟨M, rfl, hM⟩ := pick_list DV.cells (DV.okIn w) L (fun x hx => (q4 x hx).2)
  exact ⟨A, n, c, M, rfl, by rw [← q1, List.length_map], q2, q3, hM, q5⟩
theorem IsDocs.at {w W : World} {A : Option Addr} {n c : Nat} {D : List DV} (h : IsDocs w A n c D) (hg : w.grownBy W none) {i : Nat} {d : DV} (hd : D[i]? = some d) :
    ∃ ad, A = some ad ∧ W.cell? (ad.add (i * 2)) = some (.slice d.A d.L.length d.c) ∧ W.cell? ((ad.add (i * 2)).add 1) = some (.int .i64 d.x) := by
  have hi := (List.getElem?_eq_some_iff.1 hd).1
  obtain ⟨ad, rfl, _, hc⟩ := h.2.2.2.2 (by rw [rowV_len]; omega)
  obtain ⟨x0, x1⟩ := rowV_get D i d hd
  refine ⟨ad, rfl, hg.cell (hc _ _ x0) (by simp), ?_⟩
  rw [add_add']
  exact hg.cell (hc _ _ x1) (by simp)
end Go.Proofs.Ytkailfigoogfeaa
