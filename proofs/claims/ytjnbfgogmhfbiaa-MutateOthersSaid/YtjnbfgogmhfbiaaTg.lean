/- A loop over an iterator whose round begins by laying a box: the law for the caller. -/
import Derived.RangeFuncNested
import Derived.RangeFuncLeaves
import Derived.RangeFuncCalls
import Derived.Sort.QuietIn
import Derived.Test.YtjnbfgogmhfbiaaMem
namespace Go.Proofs.Ytjnbfgogmhfbiaa
open Go Go.RowKit
section
variable {F : Fence} {n : Nat} {P : Program}
/-- Between two rounds, or behind one that was left. -/
structure Rnd {α : Type} (I : List α → World → Prop) (lo : Loop) (l D : Nat) (s : List α) (W : World) : Prop where
  i : I s W
  L : W.heap[l]? = some (.loop lo)
  K : W.heap[D]? = some (.deferred (some []))
theorem putO_from {β : Type} {B : Nat} {I : β → World → Prop} (h : OwnFrom B I) {s : β} {W : World} {l : Nat} {lo : Loop} (o' : Obj) (hs : I s W) (hB : B ≤ l) (hl : W.heap[l]? = some (.loop lo)) : I s (W.putObj l o') := h.putObj o' hs hB hl rfl
theorem Rnd.turn {α : Type} {I : List α → World → Prop} {lo : Loop} {l D B B' : Nat} {s : List α} {W W' : World} {row : Option Nat} (h : Rnd I lo l D s W) (hI : OwnFrom B I) (hB : B ≤ B') (hg : W.grownBy W' row)
    (hr : ∀ r, row = some r → B' ≤ r ∧ ∃ o : Obj, W.heap[r]? = some o ∧ o.isWalk = true) : Rnd I lo l D s W' := by
  have ne : ∀ (k : Nat) (o : Obj), W.heap[k]? = some o → o.isWalk = false → W'.heap[k]? = some o := fun k o hk ho => by
    rw [hg.block k (Array.getElem?_eq_some_iff.1 hk).1 (fun e => by
      obtain ⟨_, o', h1, h2⟩ := hr k e.symm
      rw [hk] at h1
      cases h1
      rw [ho] at h2
      cases h2)]
    exact hk
  exact ⟨hI s W W' row h.i hg (fun r e => by obtain ⟨h1, o, h2, h3⟩ := hr r e; exact ⟨Nat.le_trans hB h1, o, h2, Obj.not_cells_of_walk h3⟩), ne _ _ h.L rfl, ne _ _ h.K rfl⟩
theorem wpIn_range_gr {α : Type} {g : Operand} {ps : Array Tmp} {assign body : Code} {Q : Exit → Act → World → Prop} {a : Act} {w : World}
    (hro : F.round = none) (h1 : 1 ≤ n) {gf : Nat} {lb : Array Value} (hg : a.eval g = .func (.func gf) #[] lb) (hFg : F.fn gf) (eg : ∀ args w, (callFunc gf args).run P w = .ok (.enter gf args) w)
    {encs : α → Array Value} {Kp : World → World → Prop} {S Sp : List α → Prop} {N : Nat} (hseq : SeqStopsK F (n - 1) P gf lb encs Kp S Sp N w) (hps : ∀ x, (encs x).size = ps.size)
    (hKt : ∀ {A B C : World}, Kp A B → Kp B C → Kp A C) (hKb : ∀ (W : World) (l : Nat) (o o' : Obj), w.heap.size ≤ l → W.heap[l]? = some o → o.isCells = false → o.isWalk = false → Kp W (W.putObj l o')) (hKg : ∀ A B : World, w.heap.size ≤ A.heap.size → A.grownBy B none → Kp A B)
    (I : List α → World → Prop) (Ix : Code → List α → World → Prop) (RF : α × Act → World → Prop) (hI : OwnFrom w.heap.size I) (hIx : ∀ c, OwnFrom w.heap.size (Ix c)) (hRF : OwnFrom w.heap.size RF) (h0 : I [] w)
    (hassign : ∀ (l : Nat) (x : α) (W : World) (K : Act → World → Prop), w.heap.size ≤ W.heap.size → (∀ a1 W1, W.grownBy W1 none → RF (x, a1) W1 → K a1 W1) →
      assign.wpIn (F.inRound l) (n - 1 - 1) P (Exit.then K (fun _ _ _ => False)) { tmps := (ps.zip (encs x)).foldl (fun t (p, v) => t.setIfInBounds p v) a.tmps, defers := [] } W)
    (hbody : ∀ (l : Nat) (pre : List α) (x : α) (a1 : Act) (W : World), I pre W → pre.length < N → RF (x, a1) W → body.wpIn (F.inRound l) (n - 1 - 1) P (ownPostK Kp I Ix (pre ++ [x]) W) a1 W)
    (hdone : ∀ (D : Nat) (xs : List α) (W : World), w.heap.size ≤ D → S xs → I xs W → W.heap[D]? = some (.deferred (some [])) → Q .normal { a with defers := { target := .collected D, args := #[] } :: a.defers } W)
    (hstop : ∀ (D : Nat) (c : Code) (pre : List α) (W : World), w.heap.size ≤ D → Sp pre → Ix c pre W → W.heap[D]? = some (.deferred (some [])) → c.wpIn F n P Q { a with defers := { target := .collected D, args := #[] } :: a.defers } W) :
    (Code.rangeFunc g ps assign body).wpIn F n P Q a w := by
  refine wpIn_rangeFunc ?_
  intro fn hfn
  rw [hro]
  obtain ⟨rec, hrec⟩ : ∃ rec : LoopState → Option Code → Loop, rec = fun st pe => { state := st, pending := pe, fn, tmps := a.tmps, params := ps, assign, body, defers := w.heap.size } := ⟨_, rfl⟩
  obtain ⟨W1, hW1⟩ : ∃ W1, (w.alloc (.deferred (some []))).alloc (.loop (rec .ready none)) = W1 := ⟨_, rfl⟩
  have hs1 : W1.heap.size = w.heap.size + 2 := by rw [← hW1]; simp
  have hJ0 : Rnd I (rec .ready none) (w.heap.size + 1) w.heap.size [] W1 := by
    rw [← hW1]
    refine ⟨hI.alloc _ (hI.alloc _ h0), ?_, (Below.heap_alloc _ _ _ (by simp)).trans (World.alloc_heap_new w _)⟩
    have := World.alloc_heap_new (w.alloc (.deferred (some []))) (.loop (rec .ready none))
    rwa [World.size_alloc] at this
  have hb1 : Below w.heap.size w W1 := by rw [← hW1]; exact ((Below.refl _ w).alloc (Nat.le_refl _) _).alloc (by simp) _
  refine ⟨w.heap.size + 1, [{ target := .collected w.heap.size, args := #[] }], W1, { target := .fn (.func gf) lb, args := #[.func (.yield (w.heap.size + 1)) #[] #[]] }, W1, gf,
    #[.func (.yield (w.heap.size + 1)) #[] #[]] ++ lb, W1, ?_, ?_, ?_, ?_, fun _ => h1, ?_⟩
  · rw [← hW1, hrec]; exact run_enterLoop_outer _ _ _ _ _
  · simp [resolve, hg, Deferred.ofValue, BigFrame.eval_const]
  · intro f' hf'; simp [Target.leads] at hf'; subst hf'; exact hFg
  · simp [invoke, go_sem, eg]
  · refine (hseq (w.heap.size + 1) (Rnd I (rec .ready none) (w.heap.size + 1) w.heap.size) (fun pre W => ∃ c, Rnd (Ix c) (rec .done (some c)) (w.heap.size + 1) w.heap.size pre W) W1 hb1
      (fun s A B row h hg hr => h.turn hI (by omega) hg hr) (fun s A B row ⟨c, h⟩ hg hr => ⟨c, h.turn (hIx c) (by omega) hg hr⟩) (fun pre x W h hpl => ?_) hJ0).mono ?_
    · have hl : w.heap.size + 1 < W.heap.size := (Array.getElem?_eq_some_iff.1 h.L).1
      refine ⟨fn, (ps.zip (encs x)).foldl (fun t (p, v) => t.setIfInBounds p v) a.tmps, assign, body, by simpa [hrec] using run_yield (P := P) (args := encs x) h.L (by simp [hrec, hps]), roundIn_of_wpIn hfn ?_⟩
      refine hassign _ x W _ (by omega) fun a1 V hgV hRV => ?_
      have hLV : V.heap[w.heap.size + 1]? = some (.loop (rec .ready none)) := by rw [hgV.block _ hl (by simp)]; exact h.L
      have hKV : V.heap[w.heap.size]? = some (.deferred (some [])) := by rw [hgV.block _ (by omega) (by simp)]; exact h.K
      have hlV : w.heap.size + 1 < V.heap.size := (Array.getElem?_eq_some_iff.1 hLV).1
      refine ⟨_, run_beginRound (P := P) hLV (by simp [hrec]), ?_⟩
      refine wpIn_mono (hbody _ pre x a1 _ (putO_from hI (.loop { rec .ready none with state := .busy }) (hI _ _ _ none h.i hgV (fun r e => by cases e)) (by omega) hLV) hpl (putO_from hRF _ hRV (by omega) hLV)) ?_
      have hw : Kp W (V.putObj (w.heap.size + 1) (.loop { rec .ready none with state := .busy })) := hKt (hKg _ _ (by omega) hgV) (hKb _ _ _ _ (by omega) hLV rfl rfl)
      have fin : ∀ (jump : Option Code) (W3 : World), KeepsOthers (V.putObj (w.heap.size + 1) (.loop { rec .ready none with state := .busy })) W3 →
          W3.heap[w.heap.size + 1]? = some (.loop { rec .ready none with state := .busy }) ∧ W3.heap[w.heap.size]? = some (.deferred (some [])) := fun jump W3 hko =>
        ⟨hko.same _ _ (World.putObj_heap_same hlV) rfl, hko.same _ _ ((World.putObj_heap_other (by omega)).trans hKV) rfl⟩
      have stop : ∀ (c : Code) (W3 : World), KeepsOthers (V.putObj (w.heap.size + 1) (.loop { rec .ready none with state := .busy })) W3 → Ix c (pre ++ [x]) W3 →
          ∃ W4, (Instr.endRound (w.heap.size + 1) (some c)).run P W3 = .ok (.bool false) W4 ∧ Rnd (Ix c) (rec .done (some c)) (w.heap.size + 1) w.heap.size (pre ++ [x]) W4 := fun c W3 hko hi => by
        obtain ⟨h3, h4⟩ := fin (some c) W3 hko
        have hl3 := (Array.getElem?_eq_some_iff.1 h3).1
        refine ⟨_, run_endRound (some c) h3, putO_from (hIx c) _ hi (by omega) h3, ?_, (World.putObj_heap_other (by omega)).trans h4⟩
        rw [World.putObj_heap_same hl3, hrec]
        rfl
      rintro e a3 W3 hp
      cases e with
      | normal =>
        obtain ⟨hko, hkp, hi⟩ := hp
        obtain ⟨h3, h4⟩ := fin none W3 hko
        have hl3 := (Array.getElem?_eq_some_iff.1 h3).1
        refine ⟨_, _, run_endRound none h3, .inl ⟨rfl, ⟨putO_from hI _ hi (by omega) h3, ?_, (World.putObj_heap_other (by omega)).trans h4⟩, hKt (hKt hw hkp) (hKb _ _ _ _ (by omega) h3 rfl rfl)⟩⟩
        rw [World.putObj_heap_same hl3, hrec]
        rfl
      | ret => obtain ⟨hko, hi⟩ := hp; obtain ⟨W4, h5, h6⟩ := stop _ _ hko hi; exact ⟨_, _, h5, .inr ⟨rfl, _, h6⟩⟩
      | exit id => obtain ⟨hko, hi⟩ := hp; obtain ⟨W4, h5, h6⟩ := stop _ _ hko hi; exact ⟨_, _, h5, .inr ⟨rfl, _, h6⟩⟩
      | goto t => obtain ⟨hko, hi⟩ := hp; obtain ⟨W4, h5, h6⟩ := stop _ _ hko hi; exact ⟨_, _, h5, .inr ⟨rfl, _, h6⟩⟩
      | panic ch => exact hp.elim
      | outgrown => exact hp.elim
    · rintro e W2 ⟨⟨v0, rfl⟩, (⟨xs, hS, h2⟩ | ⟨pre, hSp, c, h2⟩)⟩
      · refine ⟨none, _, ?_, hdone w.heap.size _ _ (Nat.le_refl _) hS (putO_from hI (.loop { rec .ready none with state := .exhausted }) h2.i (by omega) h2.L) ((World.putObj_heap_other (by omega)).trans h2.K)⟩
        have := run_endLoop (P := P) h2.L (by simp [hrec])
        rw [this]
        simp [hrec]
      · refine ⟨some c, _, ?_, hstop w.heap.size c _ _ (Nat.le_refl _) hSp (putO_from (hIx c) (.loop { rec .done (some c) with state := .exhausted }) h2.i (by omega) h2.L) ((World.putObj_heap_other (by omega)).trans h2.K)⟩
        have := run_endLoop (P := P) h2.L (by simp [hrec])
        rw [this]
        simp [hrec]
/-- The same, the act of a round told by its element and its box. -/
theorem wpIn_range_box {α : Type} {g : Operand} {ps : Array Tmp} {assign body : Code} {Q : Exit → Act → World → Prop} {a : Act} {w : World}
    (hro : F.round = none) (h1 : 1 ≤ n) {gf : Nat} {lb : Array Value} (hg : a.eval g = .func (.func gf) #[] lb) (hFg : F.fn gf) (eg : ∀ args w, (callFunc gf args).run P w = .ok (.enter gf args) w)
    {encs : α → Array Value} {Kp : World → World → Prop} {S Sp : List α → Prop} {N : Nat} (hseq : SeqStopsK F (n - 1) P gf lb encs Kp S Sp N w) (hps : ∀ x, (encs x).size = ps.size)
    (hKt : ∀ {A B C : World}, Kp A B → Kp B C → Kp A C) (hKb : ∀ (W : World) (l : Nat) (o o' : Obj), w.heap.size ≤ l → W.heap[l]? = some o → o.isCells = false → o.isWalk = false → Kp W (W.putObj l o')) (hKg : ∀ A B : World, w.heap.size ≤ A.heap.size → A.grownBy B none → Kp A B)
    (I : List α → World → Prop) (Ix : Code → List α → World → Prop) (RW : α → Nat → World → Prop) (hI : OwnFrom w.heap.size I) (hIx : ∀ c, OwnFrom w.heap.size (Ix c)) (hRW : ∀ x, OwnFrom w.heap.size (RW x)) (h0 : I [] w) (act : α → Nat → Act)
    (hassign : ∀ (l : Nat) (x : α) (W : World) (K : Act → World → Prop), w.heap.size ≤ W.heap.size → (∀ b W1, W.grownBy W1 none → RW x b W1 → K (act x b) W1) →
      assign.wpIn (F.inRound l) (n - 1 - 1) P (Exit.then K (fun _ _ _ => False)) { tmps := (ps.zip (encs x)).foldl (fun t (p, v) => t.setIfInBounds p v) a.tmps, defers := [] } W)
    (hbody : ∀ (l : Nat) (pre : List α) (x : α) (b : Nat) (W : World), I pre W → pre.length < N → RW x b W → body.wpIn (F.inRound l) (n - 1 - 1) P (ownPostK Kp I Ix (pre ++ [x]) W) (act x b) W)
    (hdone : ∀ (D : Nat) (xs : List α) (W : World), w.heap.size ≤ D → S xs → I xs W → W.heap[D]? = some (.deferred (some [])) → Q .normal { a with defers := { target := .collected D, args := #[] } :: a.defers } W)
    (hstop : ∀ (D : Nat) (c : Code) (pre : List α) (W : World), w.heap.size ≤ D → Sp pre → Ix c pre W → W.heap[D]? = some (.deferred (some [])) → c.wpIn F n P Q { a with defers := { target := .collected D, args := #[] } :: a.defers } W) :
    (Code.rangeFunc g ps assign body).wpIn F n P Q a w := by
  refine wpIn_range_gr hro h1 hg hFg eg hseq hps (fun h k => hKt h k) hKb hKg I Ix (fun p W => ∃ b, p.2 = act p.1 b ∧ RW p.1 b W) hI hIx ?_ h0 (fun l x W K hW hK => hassign l x W K hW (fun b W1 hg hr => hK _ _ hg ⟨b, rfl, hr⟩)) ?_ hdone hstop
  · rintro ⟨x, a1⟩ W W' row ⟨b, he, hr⟩ hg hrow
    exact ⟨b, he, hRW x b W W' row hr hg hrow⟩
  · rintro l pre x a1 W hi hl ⟨b, he, hr⟩
    dsimp only at he hr
    rw [he]
    exact hbody l pre x b W hi hl hr
/-- No operation defers. -/
def noDefer (ops : Array Oper) : Bool := ops.toList.all fun o => match o.op with
  | .defer _ => false
  | _ => true
theorem noDefer_get {ops : Array Oper} (h : noDefer ops = true) {i : Nat} {o : Oper} (ho : ops[i]? = some o) : ∀ c, o.op ≠ .defer c := fun c e => by
  have hm : o ∈ ops.toList := List.mem_of_getElem? (by rw [Array.getElem?_toList]; exact ho)
  have := List.all_eq_true.1 h o hm
  rw [e] at this
  cases this
theorem uponIn_inRound {o : Oper} {a : Act} {K : Act → World → Prop} {Q : Exit → Act → World → Prop} {r : Result Next} (l : Nat) (h : o.uponIn F n P a K Q r) : o.uponIn (F.inRound l) n P a K Q r := by
  unfold Oper.uponIn at *
  split at h
  all_goals first | exact h | exact h.elim
theorem wpOpsIn_inRound {ops : Array Oper} {Q : Exit → Act → World → Prop} (l : Nat) (hro : F.round = none) (hnd : noDefer ops = true) : ∀ (L : List Nat) (a : Act) (w : World), wpOpsIn F n P ops Q L a w → wpOpsIn (F.inRound l) n P ops Q L a w
  | [], _, _, h => h
  | i :: rest, a, w, h => by
    simp only [wpOpsIn] at h ⊢
    cases ho : ops[i]? with
    | none =>
      simp only [ho] at h
      exact wpOpsIn_inRound l hro hnd rest a w h
    | some o =>
      simp only [ho] at h ⊢
      split at h
      · rename_i hw
        rw [if_pos hw]
        have h3 := Oper.wpIn_mono (fun a' w' => wpOpsIn_inRound l hro hnd rest a' w') h
        refine ⟨h3.1, ?_⟩
        have h2 := h3.2
        rw [hro, Oper.semAt_none] at h2
        rw [Fence.inRound_round, Oper.semAt_eq _ _ _ (noDefer_get hnd ho)]
        exact uponIn_inRound l h2
      · rename_i hw
        rw [if_neg hw]
        exact ⟨h.1, wpOpsIn_inRound l hro hnd rest _ _ h.2⟩
/-- A region that draws its order and only reads, in a round. -/
theorem wpIn_region_quiet_round {id l : Nat} {Q : Exit → Act → World → Prop} {a : Act} {w : World} {os : List Oper} (hro : F.round = none) (hm : P.follows .mixedOrders = true) (hB : Region.lexB .any os.toArray = true) (hnd : noDefer os.toArray = true)
    (h : wpQuietIn F n P os.toArray (fun w' => ∃ n, w' = w.drewN n) (fun a' => ∀ w', (∃ n, w' = w.drewN n) → Q .normal a' w') os a) : (Code.region id os.toArray true).wpIn (F.inRound l) n P Q a w := by
  simp only [Region.lexB, Bool.and_eq_true] at hB
  refine wpIn_region_draw fun t => wpOpsIn_inRound l hro hnd _ _ _ ?_
  simp only [Region.schedule, hm, Bool.true_or, if_true]
  refine wpAnyIn_sound _ t _ a _ (wpAnyIn_of_quiet (C := fun w' => ∃ n, w' = w.drewN n) (Q := fun a' => ∀ w', (∃ n, w' = w.drewN n) → Q .normal a' w') hro (fun _ w' hw' h => h w' hw') _ _ _ _ ⟨1, rfl⟩ ?_)
  have := wpAnyQIn_lex (F := F) (n := n) (C := fun w' => ∃ n, w' = w.drewN n) (md := .any) hB.1 os 0 (Array.replicate os.toArray.size false) a (by simp) (by simpa using hB.2) h
  simpa using this
end
end Go.Proofs.Ytjnbfgogmhfbiaa
