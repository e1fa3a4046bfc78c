/- awake. -/
import Derived.Test.YthbdfibolgaapaaTh
namespace Go.Proofs.Ythbdfibolgaapaa
open Go Go.RowKit
theorem NodesAt.more {w : World} {B B' : Nat} {A : Option Addr} {n : Nat} {L : List (List Value)} (h : NodesAt w B A n L) (hB : B ≤ B') : NodesAt w B' A n L := ⟨h.ok, h.len, h.reads.more hB, h.few⟩
theorem NodesAt.grow {w w' : World} {A : Option Addr} {n : Nat} {L : List (List Value)} (h : NodesAt w w.heap.size A n L) (hg : w.grownBy w' none) : NodesAt w' w'.heap.size A n L := (h.grown0 hg).more hg.size
theorem may_yes (A : Option Addr) (n c : Nat) (x : Int) (L : List (List Value)) (w : World) (hN : NodesAt w w.heap.size A n L) (hsm : ∀ i, i < n → lenN (nd L i) ≤ 5000) (hS : Shape L x) :
    Calls Try.prog 10 #[.agg #[.slice A n c, .int .i64 x]] w fun e w' => e = .returned (.bool true) ∧ w.grownBy w' none :=
  (may_any A n c x L w hN hsm).mono fun _ _ ⟨⟨b, h1, h2⟩, hg⟩ => ⟨by rw [h1, h2.2 hS], hg⟩
theorem may_no (A : Option Addr) (n c : Nat) (x : Int) (L : List (List Value)) (w : World) (hN : NodesAt w w.heap.size A n L) (hsm : ∀ i, i < n → lenN (nd L i) ≤ 5000) (hS : ¬ Shape L x) :
    Calls Try.prog 10 #[.agg #[.slice A n c, .int .i64 x]] w fun e w' => e = .returned (.bool false) ∧ w.grownBy w' none :=
  (may_any A n c x L w hN hsm).mono fun _ _ ⟨⟨b, h1, h2⟩, hg⟩ => ⟨by
    cases b with
    | false => exact h1
    | true => exact absurd (h2.1 rfl) hS, hg⟩
def deepL : List (List Value) := fourL.set 1 (mkN 2 2)
theorem deepL_ok : ∀ y ∈ deepL, OkAll nodeLs y := fun y hy => by
  simp only [deepL, fourL, List.set_cons_succ, List.set_cons_zero, List.mem_cons, List.not_mem_nil, or_false] at hy
  rcases hy with rfl | rfl | rfl | rfl <;> exact okB_ok _ _ (by decide +kernel)
theorem four_fits (x : Int) (hx : 5 ≤ x) : ∀ i, i < 4 → Fits (nd fourL i) x := fun i hi => by
  have h0 : keyN (nd fourL 0) = 1 ∧ depN (nd fourL 0) = 0 ∧ kindN (nd fourL 0) = 0 ∧ lenN (nd fourL 0) = 0 := by decide +kernel
  have h1 : keyN (nd fourL 1) = 2 ∧ depN (nd fourL 1) = 1 ∧ kindN (nd fourL 1) = 0 ∧ lenN (nd fourL 1) = 0 := by decide +kernel
  have h2 : keyN (nd fourL 2) = 3 ∧ depN (nd fourL 2) = 2 ∧ kindN (nd fourL 2) = 0 ∧ lenN (nd fourL 2) = 0 := by decide +kernel
  have h3 : keyN (nd fourL 3) = 4 ∧ depN (nd fourL 3) = 1 ∧ kindN (nd fourL 3) = 0 ∧ lenN (nd fourL 3) = 0 := by decide +kernel
  unfold Fits
  rcases (by omega : i = 0 ∨ i = 1 ∨ i = 2 ∨ i = 3) with rfl | rfl | rfl | rfl
  · rw [h0.1, h0.2.1, h0.2.2.1, h0.2.2.2]; exact ⟨by omega, by omega, by omega, by omega, .inl ⟨rfl, rfl⟩⟩
  · rw [h1.1, h1.2.1, h1.2.2.1, h1.2.2.2]; exact ⟨by omega, by omega, by omega, by omega, .inl ⟨rfl, rfl⟩⟩
  · rw [h2.1, h2.2.1, h2.2.2.1, h2.2.2.2]; exact ⟨by omega, by omega, by omega, by omega, .inl ⟨rfl, rfl⟩⟩
  · rw [h3.1, h3.2.1, h3.2.2.1, h3.2.2.2]; exact ⟨by omega, by omega, by omega, by omega, .inl ⟨rfl, rfl⟩⟩
theorem four_rest : ∀ i, i < 4 → (∀ k, k < i → keyN (nd fourL k) ≠ keyN (nd fourL i)) ∧ (i = 0 → depN (nd fourL i) = 0) ∧ (0 < i → 1 ≤ depN (nd fourL i) ∧ depN (nd fourL i) ≤ depN (nd fourL (i - 1)) + 1 ∧ (depN (nd fourL (i - 1)) < depN (nd fourL i) → kindN (nd fourL (i - 1)) ≠ 1)) := by decide +kernel
theorem four_shape : Shape fourL 5 := ⟨by decide, by decide, by decide, fun i hi => ⟨four_fits 5 (by omega) i hi, four_rest i hi⟩, by decide +kernel, by decide +kernel⟩
theorem four_less : ¬ Shape fourL 4 := fun h => by
  have h1 := (h.2.2.2.1 3 (by decide)).1.2.1
  have h2 : keyN (nd fourL 3) = 4 := by decide +kernel
  omega
theorem four_deep : ¬ Shape deepL 5 := fun h => by
  have h1 := ((h.2.2.2.1 1 (by decide)).2.2.2 (by omega)).2.1
  have h2 : depN (nd deepL 1) = 2 ∧ depN (nd deepL (1 - 1)) = 0 := by decide +kernel
  omega
theorem none_shape : ¬ Shape [] 0 := fun h => by have := h.1; simp at this
theorem four_len : ∀ i, i < 4 → lenN (nd fourL i) ≤ 5000 := by decide +kernel
theorem deep_len : ∀ i, i < 4 → lenN (nd deepL i) ≤ 5000 := by decide +kernel
theorem four_dp : ∀ i, i < 4 → -1 ≤ dp fourL i ∧ dp fourL i ≤ 1000 := by decide +kernel
theorem four_find3 : findI fourL 3 = 2 := by decide +kernel
theorem four_find9 : findI fourL 9 = -1 := by decide +kernel
theorem four_kids0 : kidsN (dp fourL) 4 0 = [1, 3] := by decide +kernel
theorem four_kids3 : kidsN (dp fourL) 4 3 = [] := by decide +kernel
theorem four_end0 : endN (dp fourL) 4 0 = 4 := by decide +kernel
theorem four_end1 : endN (dp fourL) 4 1 = 3 := by decide +kernel
theorem four_par0 : parentN (dp fourL) 0 = -1 := by decide +kernel
theorem four_par2 : parentN (dp fourL) 2 = 1 := by decide +kernel
theorem four_par3 : parentN (dp fourL) 3 = 0 := by decide +kernel
theorem deep_flat : fourL.flatten.set 52 (.int .i64 2) = deepL.flatten := by rfl
theorem docEq_self {L : List (List Value)} (h : ∀ y ∈ L, OkAll nodeLs y) (x : Int) : docEq L x L x = true := (docEq_iff h h).2 ⟨rfl, rfl⟩
theorem docEq_less : docEq fourL 5 fourL 4 = false := by unfold docEq; rfl
end Go.Proofs.Ythbdfibolgaapaa
