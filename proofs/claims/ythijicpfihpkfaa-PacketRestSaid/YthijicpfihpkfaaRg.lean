/- A loop over an iterator that keeps its own count in a box: the law for the caller, every round coming to its end. -/
import Derived.RangeFuncNested
import Derived.RangeFuncBound
import Derived.RangeFuncCalls
import Derived.RangeFuncLeaves
import Derived.WalkKit
import Derived.OwnWalkIn
import Derived.TacticsInMore
import Derived.LoopNIn
import Derived.LoopIn
namespace Go.Proofs.Ythijicpfihpkfaa
open Go Go.RowKit
/-- What a round leaves of the box: as it was. -/
def KeepsBox (b : Nat) (t : TypeId) (W W' : World) : Prop := ∀ v, Boxed W b t v → Boxed W' b t v
theorem KeepsBox.trans {b : Nat} {t : TypeId} {A B C : World} (h : KeepsBox b t A B) (k : KeepsBox b t B C) : KeepsBox b t A C := fun v hv => k v (h v hv)
theorem keepsBox_putObj {b : Nat} {t : TypeId} {W : World} {l : Nat} {o : Obj} (o' : Obj) (h : W.heap[l]? = some o) (ho : o.isCells = false) : KeepsBox b t W (W.putObj l o') := fun v hv =>
  hv.kept (grownBy_putObj' W l o') (fun e => by
    cases e
    rw [show W.heap[b]? = _ from hv] at h
    cases h
    cases ho)
section
variable {F : Fence} {n : Nat} {P : Program}
/-- Between two rounds. -/
structure Rnd {α : Type} (I : List α → World → Prop) (rec : LoopState → Option Code → Loop) (l D : Nat) (s : List α) (W : World) : Prop where
  i : I s W
  L : W.heap[l]? = some (.loop (rec .ready none))
  K : W.heap[D]? = some (.deferred (some []))
theorem setCell_other_obj {W : World} {b l : Nat} {o : Obj} (v : Value) (h : W.heap[l]? = some o) (ho : o.isCells = false) : (W.setCell ⟨b, 0, none⟩ v).heap[l]? = some o :=
  (KeepsOthers.setCell W ⟨b, 0, none⟩ v).same l o h ho
theorem wpIn_range_st {α : Type} {g : Operand} {ps : Array Tmp} {assign body : Code} {Q : Exit → Act → World → Prop} {a : Act} {w : World}
    (hro : F.round = none) (h1 : 1 ≤ n) {gf : Nat} {lb : Array Value} (hg : a.eval g = .func (.func gf) #[] lb) (hFg : F.fn gf) (eg : ∀ args w, (callFunc gf args).run P w = .ok (.enter gf args) w)
    (encs : α → Array Value) (hps : ∀ x, (encs x).size = ps.size) (xs : List α) (bn : Nat) (tn : TypeId) (I : List α → World → Prop)
    (hal : ∀ s W o, I s W → I s (W.alloc o)) (hput : ∀ s W l o o', I s W → w.heap.size ≤ l → W.heap[l]? = some o → o.isCells = false → I s (W.putObj l o')) (hset : ∀ s W v, I s W → I s (W.setCell ⟨bn, 0, none⟩ v))
    (h0 : I [] w) (a₁ : α → Act)
    (hassign : ∀ (l : Nat) (x : α) (W : World) (K : Act → World → Prop), K (a₁ x) W →
      assign.wpIn (F.inRound l) (n - 1 - 1) P (Exit.then K (fun _ _ _ => False)) { tmps := (ps.zip (encs x)).foldl (fun t (p, v) => t.setIfInBounds p v) a.tmps, defers := [] } W)
    (hbody : ∀ (l : Nat) (pre : List α) (x : α) (W : World), I pre W → pre.length < xs.length → body.wpIn (F.inRound l) (n - 1 - 1) P (fun e _ W' => e = .normal ∧ KeepsOthers W W' ∧ KeepsBox bn tn W W' ∧ I (pre ++ [x]) W') (a₁ x) W)
    (hiter : ∀ (l : Nat) (J : List α → World → Prop) (W : World), Below w.heap.size w W → (∀ s W v, J s W → J s (W.setCell ⟨bn, 0, none⟩ v)) →
      (∀ pre x W1, J pre W1 → pre.length < xs.length → YieldAt F (n - 1 - 1) P l (encs x) W1 fun e W' => e = .returned (.bool true) ∧ J (pre ++ [x]) W' ∧ KeepsBox bn tn W1 W') → J [] W →
      CallsIn F (n - 1) P gf (#[.func (.yield l) #[] #[]] ++ lb) W fun e W' => (∃ v, e = .returned v) ∧ J xs W')
    (hdone : ∀ (D : Nat) (W : World), w.heap.size ≤ D → I xs W → W.heap[D]? = some (.deferred (some [])) → Q .normal { a with defers := { target := .collected D, args := #[] } :: a.defers } W) :
    (Code.rangeFunc g ps assign body).wpIn F n P Q a w := by
  refine wpIn_rangeFunc ?_
  intro fn hfn
  rw [hro]
  obtain ⟨rec, hrec⟩ : ∃ rec : LoopState → Option Code → Loop, rec = fun st pe => { state := st, pending := pe, fn, tmps := a.tmps, params := ps, assign, body, defers := w.heap.size } := ⟨_, rfl⟩
  obtain ⟨W1, hW1⟩ : ∃ W1, (w.alloc (.deferred (some []))).alloc (.loop (rec .ready none)) = W1 := ⟨_, rfl⟩
  have hJ0 : Rnd I rec (w.heap.size + 1) w.heap.size [] W1 := by
    rw [← hW1]
    refine ⟨hal _ _ _ (hal _ _ _ h0), ?_, (Below.heap_alloc _ _ _ (by simp)).trans (World.alloc_heap_new w _)⟩
    have := World.alloc_heap_new (w.alloc (.deferred (some []))) (.loop (rec .ready none))
    rwa [World.size_alloc] at this
  have hb1 : Below w.heap.size w W1 := by rw [← hW1]; exact ((Below.refl _ w).alloc (Nat.le_refl _) _).alloc (by simp) _
  refine ⟨w.heap.size + 1, [{ target := .collected w.heap.size, args := #[] }], W1, { target := .fn (.func gf) lb, args := #[.func (.yield (w.heap.size + 1)) #[] #[]] }, W1, gf,
    #[.func (.yield (w.heap.size + 1)) #[] #[]] ++ lb, W1, ?_, ?_, ?_, ?_, fun _ => h1, ?_⟩
  · rw [← hW1, hrec]; exact run_enterLoop_outer _ _ _ _ _
  · simp [resolve, hg, Deferred.ofValue, BigFrame.eval_const]
  · intro f' hf'; simp [Target.leads] at hf'; subst hf'; exact hFg
  · simp [invoke, go_sem, eg]
  · refine (hiter (w.heap.size + 1) (Rnd I rec (w.heap.size + 1) w.heap.size) W1 hb1 (fun s W v h => ⟨hset _ _ _ h.i, setCell_other_obj v h.L rfl, setCell_other_obj v h.K rfl⟩) (fun pre x W h hpl => ?_) hJ0).mono ?_
    · have hl : w.heap.size + 1 < W.heap.size := (Array.getElem?_eq_some_iff.1 h.L).1
      refine ⟨fn, (ps.zip (encs x)).foldl (fun t (p, v) => t.setIfInBounds p v) a.tmps, assign, body, by simpa [hrec] using run_yield (P := P) (args := encs x) h.L (by simp [hrec, hps]), roundIn_of_wpIn hfn ?_⟩
      refine hassign _ x W _ ⟨_, run_beginRound (P := P) h.L (by simp [hrec]), ?_⟩
      refine wpIn_mono (hbody _ pre x _ (hput _ _ _ _ (.loop { rec .ready none with state := .busy }) h.i (by omega) h.L rfl) hpl) ?_
      rintro e a' W' ⟨rfl, hko, hkb, hi⟩
      have hL' : W'.heap[w.heap.size + 1]? = some (.loop { rec .ready none with state := .busy }) := hko.same _ _ (World.putObj_heap_same hl) rfl
      have hK' : W'.heap[w.heap.size]? = some (.deferred (some [])) := hko.same _ _ ((World.putObj_heap_other (by omega)).trans h.K) rfl
      have hl' : w.heap.size + 1 < W'.heap.size := (Array.getElem?_eq_some_iff.1 hL').1
      refine ⟨_, _, run_endRound none hL', rfl, ⟨hput _ _ _ _ _ hi (by omega) hL' rfl, ?_, (World.putObj_heap_other (by omega)).trans hK'⟩, ((keepsBox_putObj _ h.L rfl).trans hkb).trans (keepsBox_putObj _ hL' rfl)⟩
      rw [World.putObj_heap_same hl', hrec]
      rfl
    · rintro e W2 ⟨⟨v0, rfl⟩, h2⟩
      have hl : w.heap.size + 1 < W2.heap.size := (Array.getElem?_eq_some_iff.1 h2.L).1
      refine ⟨none, _, ?_, hdone w.heap.size _ (Nat.le_refl _) (hput _ _ _ _ (.loop { rec .ready none with state := .exhausted }) h2.i (by omega) h2.L rfl) ((World.putObj_heap_other (by omega)).trans h2.K)⟩
      have := run_endLoop (P := P) h2.L (by simp [hrec])
      rw [this]
      simp [hrec]
end
end Go.Proofs.Ythijicpfihpkfaa
