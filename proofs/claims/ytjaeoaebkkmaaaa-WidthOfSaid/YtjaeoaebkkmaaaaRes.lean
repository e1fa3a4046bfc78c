/- The walks of told, Part, Resolve: the program's and the document's. -/
import Derived.Test.YtjaeoaebkkmaaaaFit
namespace Go.Proofs.Ytjaeoaebkkmaaaa
open Go Go.RowKit
theorem Reads.fresh_ (w : World) (e : TypeId) (cs : List Value) : Reads (w.alloc (.cells cs.toArray e)) (w.heap.size + 1) (some ⟨w.heap.size, 0, none⟩) cs := fun _ =>
  ⟨_, rfl, by simp, fun j u hu => by
    have : (⟨w.heap.size, 0, none⟩ : Addr).add j = ⟨w.heap.size, j, none⟩ := by unfold Addr.add; split <;> simp_all
    rw [this, cell_of_row _ _ _ _ _ _ (heap_alloc_new w _), List.getElem?_toArray, hu]⟩
theorem Reads.num_ (w : World) (e : TypeId) (x : Int) : Reads (w.alloc (.cells #[.int .i64 x] e)) (w.heap.size + 1) (some ⟨w.heap.size, 0, none⟩) ([x].map num) := Reads.fresh_ w e [num x]

/-- fixed.Fits of one number, in a block of its own. -/
theorem fits1 (x : Int) (w : World) (h1 : -9223372036854775808 ≤ x) (h2 : x ≤ 9223372036854775807) (e : TypeId) (B : Nat) (hB : B = w.heap.size) :
    Calls Try.prog 19 #[.slice (some ⟨B, 0, none⟩) 1 1] (w.alloc (.cells #[.int .i64 x] e)) fun e' w' => e' = .returned (.bool !(far x)) ∧ w.alloc (.cells #[.int .i64 x] e) = w' := by
  subst hB
  have := fits_any (some ⟨w.heap.size, 0, none⟩) 1 1 [x] _ _ rfl (Reads.num_ w e x) (fun y hy => by simp at hy; subst hy; exact ⟨h1, h2⟩) (by omega)
  simpa using this

/-- The document's Fits. -/
theorem rfits (x : Int) (w : World) (_h1 : -9223372036854775808 ≤ x) (_h2 : x ≤ 9223372036854775807) :
    Calls Try.prog 35 #[.int .i64 x] w fun e w' => e = .returned (.bool !(far x)) ∧ w = w' := by
  by_cases h : x < -1099511627776
  · have hf' := Lib.hid (show far x = true from far_true.2 (.inl h))
    go_enter Try.func35, Try.ntmps35
    go_wp2
    go_ret
    exact ⟨by rw [hf'.out]; rfl, rfl⟩
  · have hf' := Lib.hid (show (!(far x)) = decide (x ≤ 1099511627776) by
      rw [show far x = decide (1099511627776 < x) by simp [far, h]]
      by_cases h2 : 1099511627776 < x <;> simp [h2] <;> omega)
    go_enter Try.func35, Try.ntmps35
    go_wp2
    go_ret
    exact ⟨by rw [hf'.out]; rfl, rfl⟩

def partV (n of : Int) : Int × Int :=
  if n < 0 ∨ 100000 < n then (0, 2) else if far of then (0, 10) else if far ((n * of).tdiv 10000) then (0, 10) else ((n * of).tdiv 10000, 0)

theorem told0 (x : Int) (w : World) (h1 : -9223372036854775808 ≤ x) (h2 : x ≤ 9223372036854775807) :
    Calls Try.prog 49 #[.int .i64 x, .slice none 0 0] w fun e w' => e = .returned (.tuple (if far x then #[.int .i64 0, .int .i64 10] else #[.int .i64 x, .int .i64 0])) ∧ w.grownBy w' none := by
  have C0 := Lib.hid (fun W => fits_any none 0 0 [] W 0 rfl Reads.nil_ (by simp) (by omega))
  have C1 := Lib.hid (fun W e B hB => fits1 x W h1 h2 e B hB)
  cases hq : far x with
  | true =>
    rw [hq] at C1
    clear hq
    go_enter Try.func49, Try.ntmps49
    go_wp2_with fail
    refine (C0.out _).mono ?_; rintro e w1 ⟨rfl, rfl⟩
    go_wp2_with fail
    refine (C1.out _ _ _ (by simp)).mono ?_; rintro e w1 ⟨rfl, rfl⟩
    go_wp2
    go_ret2
    exact ⟨rfl, World.grownBy_alloc _ _ _⟩
  | false =>
    rw [hq] at C1
    clear hq
    go_enter Try.func49, Try.ntmps49
    go_wp2_with fail
    refine (C0.out _).mono ?_; rintro e w1 ⟨rfl, rfl⟩
    go_wp2_with fail
    refine (C1.out _ _ _ (by simp)).mono ?_; rintro e w1 ⟨rfl, rfl⟩
    go_wp2
    go_ret2
    exact ⟨rfl, World.grownBy_alloc _ _ _⟩
end Go.Proofs.Ytjaeoaebkkmaaaa
