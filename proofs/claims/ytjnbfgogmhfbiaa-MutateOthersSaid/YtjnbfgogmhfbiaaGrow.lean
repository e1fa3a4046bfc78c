/- A region that draws its order, and in which memory only grows till the last stores: each operation is shown once, in whatever world it comes up. -/
import Derived.Orders
import Derived.OrdersHeld
import Derived.BigRegion
import Derived.Test.YtjnbfgogmhfbiaaMem
namespace Go.Proofs.Ytjnbfgogmhfbiaa
open Go Go.RowKit
namespace Grow
def dstOf (ops : Array Oper) (i : Nat) : Option Tmp := (ops[i]?).bind (·.dst)
def preds (md : Region.Mode) (ops : Array Oper) (i : Nat) : List Nat := match ops[i]? with
  | some o => (o.after.toList.filter (Region.binds md)).map (·.on)
  | none => []
def pre (md : Region.Mode) (ops : Array Oper) (G : List Nat) (i : Nat) : List Nat := G.filter (preds md ops i).contains
def putL (vs : Nat → Value) : List (Option Tmp × Nat) → Act → Act
  | [], a => a
  | (d, i) :: r, a => putL vs r (a.put d (vs i))
def pairs (ops : Array Oper) (L : List Nat) : List (Option Tmp × Nat) := L.map fun i => (dstOf ops i, i)
def below (md : Region.Mode) (ops : Array Oper) : Nat → Nat → Nat → Bool
  | 0, _, _ => false
  | n + 1, j, g => (preds md ops j).any fun p => p == g || below md ops n p g
def tmpsOf (o : Oper) : List Tmp := o.op.operands.toList.filterMap fun | .tmp t => some t | _ => none
def okAt (md : Region.Mode) (ops : Array Oper) (G : List Nat) (i : Nat) : Bool := match ops[i]? with
  | some o => o.guard.isNone && (match o.op with | .select _ _ => false | _ => true) &&
      (preds md ops i).all (fun p => decide (p < i) && G.contains p) &&
      G.all (fun j => (preds md ops i).contains j || (match dstOf ops j with | some d => !(tmpsOf o).contains d | none => true))
  | none => false
def nodupB : List (Option Tmp) → Bool
  | [] => true
  | x :: r => (match x with | some _ => !r.contains x | none => true) && nodupB r
def ok (md : Region.Mode) (ops : Array Oper) (G : List Nat) : Bool :=
  G.all (okAt md ops G) && nodupB (G.map (dstOf ops)) && (List.range ops.size).all (fun j => G.contains j || G.all (fun g => below md ops ops.size j g))
def flags (ops : Array Oper) (G : List Nat) : Array Bool := ((List.range ops.size).map G.contains).toArray

theorem sub_len : ∀ {L M : List Nat}, L.Nodup → (∀ x ∈ L, x ∈ M) → L.length ≤ M.length
  | [], _, _, _ => Nat.zero_le _
  | x :: r, M, hn, h => by
    obtain ⟨h1, h2⟩ := List.nodup_cons.1 hn
    have hx := h x (by simp)
    have := sub_len (L := r) (M := M.erase x) h2 (fun y hy => (List.mem_erase_of_ne (by rintro rfl; exact h1 hy)).2 (h y (List.mem_cons_of_mem _ hy)))
    rw [List.length_erase_of_mem hx] at this
    have := List.length_pos_of_mem hx
    rw [List.length_cons]
    omega
theorem sub_perm : ∀ {L M : List Nat}, L.Nodup → (∀ x ∈ L, x ∈ M) → M.length ≤ L.length → L.Perm M
  | [], M, _, _, h => by
    have : M = [] := List.eq_nil_of_length_eq_zero (by simpa using h)
    subst this
    exact List.Perm.nil
  | x :: r, M, hn, h, hl => by
    obtain ⟨h1, h2⟩ := List.nodup_cons.1 hn
    have hx := h x (by simp)
    have := sub_perm (L := r) (M := M.erase x) h2 (fun y hy => (List.mem_erase_of_ne (by rintro rfl; exact h1 hy)).2 (h y (List.mem_cons_of_mem _ hy))) (by rw [List.length_erase_of_mem hx]; rw [List.length_cons] at hl; omega)
    exact (this.cons x).trans (List.perm_cons_erase hx).symm
section
variable {P : Program} {ops : Array Oper} {Q : Exit → Act → World → Prop} {md : Region.Mode}

theorem put_eval_ne {a : Act} {d : Option Tmp} {v : Value} {x : Operand} (h : ∀ t, d = some t → x ≠ .tmp t) : (a.put d v).eval x = a.eval x := Act.eval_put h
theorem putL_put (vs : Nat → Value) : ∀ (L : List (Option Tmp × Nat)) (a : Act) (d : Option Tmp) (v : Value), (∀ p ∈ L, ∀ t, d = some t → p.1 ≠ some t) → putL vs L (a.put d v) = (putL vs L a).put d v
  | [], _, _, _, _ => rfl
  | (e, i) :: r, a, d, v, h => by
    simp only [putL]
    rw [Act.put_comm a v (vs i) (h (e, i) (by simp)), putL_put vs r _ d v (fun p hp => h p (List.mem_cons_of_mem _ hp))]
theorem putL_eval_out (vs : Nat → Value) {x : Operand} : ∀ (L : List (Option Tmp × Nat)) (a : Act), (∀ p ∈ L, ∀ t, p.1 = some t → x ≠ .tmp t) → (putL vs L a).eval x = a.eval x
  | [], _, _ => rfl
  | (e, i) :: r, a, h => by
    simp only [putL]
    rw [putL_eval_out vs r _ (fun p hp => h p (List.mem_cons_of_mem _ hp)), put_eval_ne (h (e, i) (by simp))]
theorem putL_size (vs : Nat → Value) : ∀ (L : List (Option Tmp × Nat)) (a : Act), (putL vs L a).tmps.size = a.tmps.size
  | [], _ => rfl
  | (e, i) :: r, a => by simp only [putL]; rw [putL_size vs r]; cases e <;> simp [Act.put]
/-- Every pair's slot stands once. -/
def Once (L : List (Option Tmp × Nat)) : Prop := L.Pairwise fun p q => ∀ t, p.1 = some t → q.1 ≠ some t
theorem putL_eval_in (vs : Nat → Value) {t : Tmp} {i : Nat} : ∀ (L : List (Option Tmp × Nat)) (a : Act), Once L → (some t, i) ∈ L → (putL vs L a).eval (.tmp t) = (if t < a.tmps.size then vs i else undef)
  | [], _, _, h => by simp at h
  | (e, k) :: r, a, ho, h => by
    obtain ⟨h1, h2⟩ := List.pairwise_cons.1 ho
    simp only [putL]
    rcases List.mem_cons.1 h with he | hr
    · cases he
      rw [putL_eval_out vs r _ (fun p hp s hs e => by cases e; exact h1 p hp t rfl hs)]
      simp only [Act.eval, Act.put, Array.getD_eq_getD_getElem?, Array.getElem?_setIfInBounds_self]
      split <;> rfl
    · rw [putL_eval_in vs r _ h2 hr]
      have : (a.put e (vs k)).tmps.size = a.tmps.size := by cases e <;> simp [Act.put]
      rw [this]
theorem putL_perm (vs : Nat → Value) {L M : List (Option Tmp × Nat)} (h : L.Perm M) : Once L → ∀ a, putL vs L a = putL vs M a := by
  induction h with
  | nil => intro _ _; rfl
  | cons x _ ih =>
    intro ho a
    obtain ⟨d, i⟩ := x
    simp only [putL]
    exact ih (List.pairwise_cons.1 ho).2 _
  | swap x y l =>
    intro ho a
    obtain ⟨d, i⟩ := x
    obtain ⟨e, j⟩ := y
    simp only [putL]
    rw [Act.put_comm a (vs j) (vs i) (fun t ht => (List.pairwise_cons.1 ho).1 (d, i) (by simp) t ht)]
  | trans h1 _ ih1 ih2 =>
    intro ho a
    rw [ih1 ho a, ih2 (ho.perm h1 (fun hp t ht hq => hp t hq ht)) a]

/-- The facts of those that have come up. -/
def TAll (T : Nat → Value → Nat → Nat → World → Prop) (vs : Nat → Value) (lo hi : Nat → Nat) (w : World) : List Nat → Prop
  | [] => True
  | [j] => T j (vs j) (lo j) (hi j) w
  | j :: r => T j (vs j) (lo j) (hi j) w ∧ TAll T vs lo hi w r
theorem TAll_of {T : Nat → Value → Nat → Nat → World → Prop} {vs : Nat → Value} {lo hi : Nat → Nat} {w : World} : ∀ {L : List Nat}, (∀ j ∈ L, T j (vs j) (lo j) (hi j) w) → TAll T vs lo hi w L
  | [], _ => trivial
  | [j], h => h j (by simp)
  | j :: k :: r, h => ⟨h j (by simp), TAll_of (L := k :: r) fun x hx => h x (List.mem_cons_of_mem _ hx)⟩

/-- One operation: it yields a value of which T holds; memory only grows. -/
def Step (P : Program) (md : Region.Mode) (ops : Array Oper) (G : List Nat) (T : Nat → Value → Nat → Nat → World → Prop) (a0 : Act) (w0 : World) (i : Nat) : Prop :=
  ∀ o, ops[i]? = some o → ∀ (vs : Nat → Value) (lo hi : Nat → Nat) (w : World), w0.grownBy w none → TAll T vs lo hi w (preds md ops i) →
    ∀ K : Act → World → Prop, (∀ v w', w.grownBy w' none → T i v w.heap.size w'.heap.size w' → K ((putL vs (pairs ops (pre md ops G i)) a0).put o.dst v) w') →
      o.wp P (putL vs (pairs ops (pre md ops G i)) a0) w K (fun _ _ _ => False)
def Steps (P : Program) (md : Region.Mode) (ops : Array Oper) (G : List Nat) (T : Nat → Value → Nat → Nat → World → Prop) (a0 : Act) (w0 : World) : List Nat → Prop
  | [] => True
  | i :: r => Step P md ops G T a0 w0 i ∧ Steps P md ops G T a0 w0 r
theorem Steps.get {G : List Nat} {T : Nat → Value → Nat → Nat → World → Prop} {a0 : Act} {w0 : World} : ∀ {L : List Nat}, Steps P md ops G T a0 w0 L → ∀ i ∈ L, Step P md ops G T a0 w0 i
  | [], _, i, hi => by simp at hi
  | j :: r, h, i, hi => by
    rcases List.mem_cons.1 hi with rfl | hi
    · exact h.1
    · exact Steps.get h.2 i hi
theorem Steps.nil {G : List Nat} {T : Nat → Value → Nat → Nat → World → Prop} {a0 : Act} {w0 : World} : Steps P md ops G T a0 w0 [] := trivial
theorem Steps.cons {G : List Nat} {T : Nat → Value → Nat → Nat → World → Prop} {a0 : Act} {w0 : World} {i : Nat} {r : List Nat} {o : Oper} (ps : List Nat) (pl : List (Option Tmp × Nat)) (ho : ops[i]? = some o) (hp : preds md ops i = ps) (hl : pairs ops (pre md ops G i) = pl)
    (h : ∀ (vs : Nat → Value) (lo hi : Nat → Nat) (w : World), w0.grownBy w none → TAll T vs lo hi w ps →
      ∀ K : Act → World → Prop, (∀ v w', w.grownBy w' none → T i v w.heap.size w'.heap.size w' → K ((putL vs pl a0).put o.dst v) w') → o.wp P (putL vs pl a0) w K (fun _ _ _ => False))
    (more : Steps P md ops G T a0 w0 r) : Steps P md ops G T a0 w0 (i :: r) := by
  refine ⟨?_, more⟩
  intro o' ho' vs lo hi w hg hT K hK
  rw [ho] at ho'
  cases ho'
  subst hp
  subst hl
  exact h vs lo hi w hg hT K hK


theorem put_eq {a b : Act} {d : Option Tmp} {v u : Value} (hs : a.tmps.size = b.tmps.size) (h : b.put d v = b.put d u) : a.put d v = a.put d u := by
  cases d with
  | none => rfl
  | some k =>
    simp only [Act.put, Act.mk.injEq, and_true] at h ⊢
    by_cases hk : k < b.tmps.size
    · have := congrArg (·[k]?) h
      simp only [Array.getElem?_setIfInBounds_self, hk, if_true, Option.some.injEq] at this
      rw [this]
    · rw [Array.setIfInBounds, Array.setIfInBounds, dif_neg (by rw [hs]; exact hk), dif_neg (by rw [hs]; exact hk)]
/-- What an operation does hangs on its operands alone. -/
theorem wp_swap {o : Oper} {a b : Act} {w : World} {K : Act → World → Prop} {R : Value → World → Prop} (he : execOp a.eval o = execOp b.eval o) (hs : a.tmps.size = b.tmps.size)
    (h : ∀ K' : Act → World → Prop, (∀ v w', R v w' → K' (b.put o.dst v) w') → o.wp P b w K' (fun _ _ _ => False)) (hK : ∀ v w', R v w' → K (a.put o.dst v) w') : o.wp P a w K Q := by
  have h1 := h (fun a' w' => ∃ v, a' = b.put o.dst v ∧ R v w') (fun v w' hR => ⟨v, rfl, hR⟩)
  unfold Oper.wp at *
  rw [he]
  have put : ∀ v w', (∃ u, b.put o.dst v = b.put o.dst u ∧ R u w') → K (a.put o.dst v) w' := fun v w' ⟨u, e, hR⟩ => by
    rw [put_eq hs e]; exact hK u w' hR
  generalize (execOp b.eval o).run P w = r at *
  cases r with
  | ok n w' =>
    cases n <;> simp only [Oper.upon] at h1 ⊢
    case value v => exact put v w' h1
    case skip => exact put _ w' h1
    case defer d =>
      obtain ⟨u, e, _⟩ := h1
      have := congrArg Act.defers e
      cases hd : o.dst <;> simp [hd, Act.put] at this
    case enter f args =>
      refine Calls.mono h1 fun e w'' hh => ?_
      cases e with
      | returned v => exact put v w'' hh
      | panicked c => exact hh.elim
      | outgrown => obtain ⟨_, _, hh⟩ := hh; exact hh.elim
    case row row args => exact Rows.mono h1 fun v w'' hh => put v w'' hh
  | halt x w' =>
    cases x <;> simp only [Oper.upon] at h1

theorem below_listed {listed : Nat → Prop} (hc : ∀ i, listed i → ∀ p ∈ preds md ops i, listed p) : ∀ (n j g : Nat), below md ops n j g = true → (∀ p ∈ preds md ops j, listed p) → listed g
  | 0, _, _, h, _ => by cases h
  | n + 1, j, g, h, hj => by
    unfold below at h
    obtain ⟨p, hp, h⟩ := List.any_eq_true.1 h
    simp only [Bool.or_eq_true, beq_iff_eq] at h
    rcases h with rfl | h
    · exact hj _ hp
    · exact below_listed hc n p g h (hc p (hj p hp))

theorem once_of (L : List Nat) (hn : L.Nodup) (hd : ∀ i ∈ L, ∀ j ∈ L, i ≠ j → ∀ t, dstOf ops i = some t → dstOf ops j ≠ some t) : Once (pairs ops L) := by
  unfold Once pairs
  rw [List.pairwise_map]
  exact (List.Pairwise.and_mem.1 hn).imp fun {i j} ⟨hi, hj, hne⟩ t ht => hd i hi j hj hne t ht
theorem nodupB_spec : ∀ {L : List Nat}, nodupB (L.map (dstOf ops)) = true → L.Pairwise fun i j => ∀ t, dstOf ops i = some t → dstOf ops j ≠ some t
  | [], _ => List.Pairwise.nil
  | i :: r, h => by
    simp only [List.map_cons, nodupB, Bool.and_eq_true] at h
    refine List.pairwise_cons.2 ⟨fun j hj t ht hq => ?_, nodupB_spec h.2⟩
    have h1 := h.1
    rw [ht] at h1
    simp only [Bool.not_eq_true', List.contains_eq_mem, decide_eq_false_iff_not, List.mem_map, not_exists, not_and] at h1
    exact h1 j hj hq

theorem mem_preds {o : Oper} {i : Nat} (ho : ops[i]? = some o) {p : Nat} : p ∈ preds md ops i ↔ ∃ e ∈ o.after, Region.binds md e = true ∧ e.on = p := by
  unfold preds
  simp only [ho, List.mem_map, List.mem_filter, Array.mem_toList_iff]
  exact ⟨fun ⟨e, ⟨h1, h2⟩, h3⟩ => ⟨e, h1, h2, h3⟩, fun ⟨e, h1, h2, h3⟩ => ⟨e, ⟨h1, h2⟩, h3⟩⟩

theorem wpAny_grow (G : List Nat) (T : Nat → Value → Nat → Nat → World → Prop) (a0 : Act) (w0 : World) (hok : ok md ops G = true) (hG : G.Nodup)
    (hmono : ∀ i v lo hi w w', T i v lo hi w → w.grownBy w' none → T i v lo hi w')
    (steps : Steps P md ops G T a0 w0 G)
    (rest : ∀ (vs : Nat → Value) (lo hi : Nat → Nat) (w : World), w0.grownBy w none → TAll T vs lo hi w G → (∀ i ∈ G, w0.heap.size ≤ lo i ∧ lo i ≤ hi i ∧ hi i ≤ w.heap.size) → (∀ i ∈ G, ∀ j ∈ G, i ≠ j → hi i ≤ lo j ∨ hi j ≤ lo i) →
      wpAny P md ops Q (ops.size - G.length) (flags ops G) (putL vs (pairs ops G) a0) w) :
    wpAny P md ops Q ops.size (Array.replicate ops.size false) a0 w0 := by
  simp only [ok, Bool.and_eq_true, List.all_eq_true] at hok
  obtain ⟨⟨okG, hnd⟩, hbel⟩ := hok
  have okI : ∀ i ∈ G, ∃ o, ops[i]? = some o ∧ o.guard = none ∧ (∀ cs b, o.op ≠ .select cs b) ∧ (∀ p ∈ preds md ops i, p < i ∧ p ∈ G) ∧ (∀ j ∈ G, j ∉ preds md ops i → ∀ d, dstOf ops j = some d → d ∉ tmpsOf o) := fun i hi => by
    have := okG i hi
    unfold okAt at this
    split at this
    · rename_i o ho
      simp only [Bool.and_eq_true, List.all_eq_true, decide_eq_true_eq] at this
      obtain ⟨⟨⟨h1, h2⟩, h3⟩, h4⟩ := this
      refine ⟨o, ho, by simpa using h1, (fun cs b e => by rw [e] at h2; cases h2), fun p hp => ⟨(h3 p hp).1, by simpa using (h3 p hp).2⟩, fun j hj hjp d hd => ?_⟩
      have := h4 j hj
      simp only [Bool.or_eq_true, List.contains_eq_mem, decide_eq_true_eq, hd, Bool.not_eq_true', decide_eq_false_iff_not] at this
      rcases this with h | h
      · exact absurd h hjp
      · exact h
    · cases this
  have hdst : ∀ i ∈ G, ∀ j ∈ G, i ≠ j → ∀ t, dstOf ops i = some t → dstOf ops j ≠ some t := fun i hi j hj hne t h1 h2 => by
    have hp := nodupB_spec (ops := ops) hnd
    have key : ∀ (L : List Nat), L.Pairwise (fun i j => ∀ t, dstOf ops i = some t → dstOf ops j ≠ some t) → i ∈ L → j ∈ L → False := by
      intro L
      induction L with
      | nil => intro _ h; simp at h
      | cons x r ih =>
        intro hp hi hj
        obtain ⟨p1, p2⟩ := List.pairwise_cons.1 hp
        rcases List.mem_cons.1 hi with e | hi'
        · subst e
          rcases List.mem_cons.1 hj with rfl | hj
          · exact hne rfl
          · exact p1 j hj t h1 h2
        · rcases List.mem_cons.1 hj with e | hj'
          · subst e
            exact p1 i hi' t h2 h1
          · exact ih p2 hi' hj'
    exact key G hp hi hj
  -- the walk, from any state on
  have main : ∀ (n : Nat) (L : List Nat) (listed : Array Bool) (a : Act) (w : World) (vs : Nat → Value) (lo up : Nat → Nat), n = G.length - L.length → L.Nodup → (∀ i ∈ L, i ∈ G) →
      listed.size = ops.size → (∀ i, i < ops.size → listed[i]? = some (L.contains i)) → (∀ i ∈ L, ∀ p ∈ preds md ops i, p ∈ L) → a = putL vs (pairs ops L) a0 → w0.grownBy w none →
      (∀ i ∈ L, T i (vs i) (lo i) (up i) w) → (∀ i ∈ L, w0.heap.size ≤ lo i ∧ lo i ≤ up i ∧ up i ≤ w.heap.size) → (∀ i ∈ L, ∀ j ∈ L, i ≠ j → up i ≤ lo j ∨ up j ≤ lo i) →
      wpAny P md ops Q (ops.size - L.length) listed a w := by
    intro n
    induction n with
    | zero =>
      intro L listed a w vs lo up hn hnod hLG hsz hl hcl ha hg hT hb hap
      have hlen : L.length ≤ G.length := sub_len hnod hLG
      have hperm : L.Perm G := sub_perm hnod hLG (by omega)
      have hGL : ∀ i ∈ G, i ∈ L := fun i hi => hperm.mem_iff.2 hi
      have hflag : listed = flags ops G := by
        apply Array.ext_getElem?
        intro i
        unfold flags
        by_cases hi : i < ops.size
        · rw [hl i hi]
          simp only [List.getElem?_toArray, List.getElem?_map, List.getElem?_range hi, Option.map_some, Option.some.injEq]
          rw [Bool.eq_iff_iff]
          simp only [List.contains_eq_mem, decide_eq_true_eq]
          exact hperm.mem_iff
        · rw [Array.getElem?_eq_none (by omega), Array.getElem?_eq_none (by simp; omega)]
      have hp : putL vs (pairs ops L) a0 = putL vs (pairs ops G) a0 := putL_perm vs (hperm.map _) (once_of L hnod (fun i hi j hj => hdst i (hLG i hi) j (hLG j hj))) a0
      rw [ha, hp, hflag, hperm.length_eq]
      exact rest vs lo up w hg (TAll_of fun j hj => hT j (hGL j hj)) (fun i hi => hb i (hGL i hi)) (fun i hi j hj => hap i (hGL i hi) j (hGL j hj))
    | succ n ih =>
      intro L listed a w vs lo up hn hnod hLG hsz hl hcl ha hg hT hb hap
      have hlt : L.length < G.length := by omega
      have hGlt : ∀ i ∈ G, i < ops.size := fun i hi => by
        obtain ⟨o, ho, _⟩ := okI i hi
        exact (Array.getElem?_eq_some_iff.1 ho).1
      have hready : ∀ i, i ∈ Region.ready md ops listed ↔ i < ops.size ∧ i ∉ L ∧ ∀ p ∈ preds md ops i, p ∈ L := fun i => by
        rw [mem_ready]
        constructor
        · rintro ⟨h1, o, ho, h2⟩
          have hi : i < ops.size := (Array.getElem?_eq_some_iff.1 ho).1
          rw [Array.getD_eq_getD_getElem?, hl i hi] at h1
          refine ⟨hi, by simpa using h1, fun p hp => ?_⟩
          obtain ⟨e, he, hb', rfl⟩ := (mem_preds ho).1 hp
          have h3 := h2 e he hb'
          by_cases hps : e.on < ops.size
          · rw [Array.getD_eq_getD_getElem?, hl _ hps] at h3
            simpa using h3
          · rw [Array.getD_eq_getD_getElem?, Array.getElem?_eq_none (by omega)] at h3
            cases h3
        · rintro ⟨hi, h1, h2⟩
          obtain ⟨o, ho⟩ : ∃ o, ops[i]? = some o := ⟨_, Array.getElem?_eq_getElem hi⟩
          refine ⟨by rw [Array.getD_eq_getD_getElem?, hl i hi]; simpa using h1, o, ho, fun e he hb' => ?_⟩
          have := h2 e.on ((mem_preds ho).2 ⟨e, he, hb', rfl⟩)
          rw [Array.getD_eq_getD_getElem?, hl _ (hGlt _ (hLG _ this))]
          simpa using this
      -- whatever comes up is one of G
      have hmiss : ∃ g ∈ G, g ∉ L := by
        refine Classical.byContradiction fun hno => ?_
        have hsub : ∀ g ∈ G, g ∈ L := fun g hg => Classical.byContradiction fun h => hno ⟨g, hg, h⟩
        have := sub_len hG hsub
        omega
      have hinG : ∀ i ∈ Region.ready md ops listed, i ∈ G := fun i hi => by
        obtain ⟨h1, h2, h3⟩ := (hready i).1 hi
        have hb' := hbel i (List.mem_range.2 h1)
        simp only [Bool.or_eq_true, List.contains_eq_mem, decide_eq_true_eq, List.all_eq_true] at hb'
        rcases hb' with h | h
        · exact h
        · obtain ⟨g, hg1, hg2⟩ := hmiss
          exact absurd (below_listed (listed := (· ∈ L)) hcl _ i g (h g hg1) h3) hg2
      have hsome : ∀ (i : Nat), i ∈ G → i ∉ L → Region.ready md ops listed ≠ [] := by
        intro i
        induction i using Nat.strongRecOn with
        | ind i ihi =>
          intro hi hiL
          by_cases hall : ∀ p ∈ preds md ops i, p ∈ L
          · intro he
            have := (hready i).2 ⟨hGlt i hi, hiL, hall⟩
            rw [he] at this
            cases this
          · obtain ⟨p, hp⟩ := Classical.not_forall.1 hall
            obtain ⟨hp1, hp2⟩ := Classical.not_imp.1 hp
            obtain ⟨_, _, _, _, hpre, _⟩ := okI i hi
            exact ihi p (hpre p hp1).1 (hpre p hp1).2 hp2
      obtain ⟨g, hg1, hg2⟩ := hmiss
      have hlen : L.length < ops.size := by
        have : G.length ≤ (List.range ops.size).length := sub_len hG (fun i hi => List.mem_range.2 (hGlt i hi))
        rw [List.length_range] at this
        omega
      obtain ⟨f, hf⟩ : ∃ f, ops.size - L.length = f + 1 := ⟨ops.size - L.length - 1, by omega⟩
      rw [hf]
      refine ⟨fun he => absurd he (hsome g hg1 hg2), fun i hi => ?_⟩
      have hiG := hinG i hi
      obtain ⟨hilt, hiL, hiP⟩ := (hready i).1 hi
      obtain ⟨o, ho, hgd, hsel, hpre, hnot⟩ := okI i hiG
      have hstep := Steps.get steps i hiG o ho vs lo up w hg (TAll_of fun j hj => hT j (hiP j hj))
      have hdo : dstOf ops i = o.dst := by unfold dstOf; rw [ho]; rfl
      have hpreL : ∀ j, j ∈ pre md ops G i → j ∈ L := fun j hj => by
        unfold pre at hj
        have := (List.mem_filter.1 hj).2
        exact hiP j (by simpa using this)
      have hpreN : (pre md ops G i).Nodup := hG.filter _
      have hOL : Once (pairs ops L) := once_of L hnod (fun i hi j hj => hdst i (hLG i hi) j (hLG j hj))
      have hOp : Once (pairs ops (pre md ops G i)) := once_of _ hpreN (fun i hi j hj => hdst i (hLG i (hpreL i hi)) j (hLG j (hpreL j hj)))
      have he : execOp a.eval o = execOp (putL vs (pairs ops (pre md ops G i)) a0).eval o := by
        refine execOp_congr o hsel fun x hx => ?_
        rw [ha]
        cases x with
        | tmp t =>
          have ht : t ∈ tmpsOf o := List.mem_filterMap.2 ⟨.tmp t, by simpa using hx, rfl⟩
          by_cases hex : ∃ j ∈ L, dstOf ops j = some t
          · obtain ⟨j, hj, hjt⟩ := hex
            have hjp : j ∈ preds md ops i := Classical.byContradiction fun h => hnot j (hLG j hj) h t hjt ht
            have hjpre : j ∈ pre md ops G i := List.mem_filter.2 ⟨hLG j hj, by simpa using hjp⟩
            rw [putL_eval_in vs _ a0 hOL (List.mem_map.2 ⟨j, hj, by rw [hjt]⟩), putL_eval_in vs _ a0 hOp (List.mem_map.2 ⟨j, hjpre, by rw [hjt]⟩)]
          · rw [putL_eval_out vs _ a0, putL_eval_out vs _ a0]
            · rintro p hp s hs e
              cases e
              obtain ⟨j, hj, rfl⟩ := List.mem_map.1 hp
              exact hex ⟨j, hpreL j hj, hs⟩
            · rintro p hp s hs e
              cases e
              obtain ⟨j, hj, rfl⟩ := List.mem_map.1 hp
              exact hex ⟨j, hj, hs⟩
        | _ => rfl
      have hs : a.tmps.size = (putL vs (pairs ops (pre md ops G i)) a0).tmps.size := by rw [ha, putL_size, putL_size]
      unfold wpOp
      simp only [ho]
      have hwd : Region.wanted o (yielded ops a.tmps) = true := by unfold Region.wanted; rw [hgd]
      rw [if_pos hwd]
      refine .inl (wp_swap (R := fun v w' => w.grownBy w' none ∧ T i v w.heap.size w'.heap.size w') he hs (fun K' hK' => hstep K' (fun v w' h1 h2 => hK' v w' ⟨h1, h2⟩)) ?_)
      rintro v w' ⟨hgw, hTv⟩
      have hfe : f = ops.size - (i :: L).length := by rw [List.length_cons]; omega
      rw [hfe]
      have hne : ∀ j ∈ L, j ≠ i := fun j hj e => hiL (e ▸ hj)
      refine ih (i :: L) _ _ w' (fun k => if k = i then v else vs k) (fun k => if k = i then w.heap.size else lo k) (fun k => if k = i then w'.heap.size else up k) (by rw [List.length_cons]; omega) (List.nodup_cons.2 ⟨hiL, hnod⟩)
        (fun j hj => ?_) (by simpa using hsz) (fun j hj => ?_) (fun j hj p hp => ?_) ?_ (grown_trans hg hgw) (fun j hj => ?_) (fun j hj => ?_) (fun j hj k hk hjk => ?_)
      · rcases List.mem_cons.1 hj with rfl | hj
        · exact hiG
        · exact hLG j hj
      · rw [Array.getElem?_setIfInBounds]
        by_cases e : i = j
        · subst e
          rw [if_pos rfl, if_pos (by omega)]
          simp
        · rw [if_neg e, hl j hj]
          congr 1
          rw [Bool.eq_iff_iff, List.contains_eq_mem, List.contains_eq_mem, decide_eq_true_eq, decide_eq_true_eq, List.mem_cons]
          exact ⟨fun h => .inr h, fun h => h.resolve_left (fun h => e h.symm)⟩
      · rcases List.mem_cons.1 hj with rfl | hj
        · exact List.mem_cons_of_mem _ (hiP p hp)
        · exact List.mem_cons_of_mem _ (hcl j hj p hp)
      · rw [ha]
        have hc : ∀ (M : List Nat) (b : Act), (∀ j ∈ M, j ≠ i) → putL vs (pairs ops M) b = putL (fun k => if k = i then v else vs k) (pairs ops M) b := by
          intro M
          induction M with
          | nil => intro _ _; rfl
          | cons x r ihM =>
            intro b hM
            simp only [pairs, List.map_cons, putL]
            rw [if_neg (hM x (by simp))]
            exact ihM _ (fun j hj => hM j (List.mem_cons_of_mem _ hj))
        rw [hc L a0 hne, ← hdo]
        simp only [pairs, List.map_cons, putL, if_true]
        rw [putL_put]
        intro p hp t ht
        obtain ⟨j, hj, rfl⟩ := List.mem_map.1 hp
        exact hdst i hiG j (hLG j hj) (Ne.symm (hne j hj)) t ht
      · rcases List.mem_cons.1 hj with rfl | hj
        · simp only [if_true]; exact hTv
        · simp only [if_neg (hne j hj)]; exact hmono _ _ _ _ _ _ (hT j hj) hgw
      · rcases List.mem_cons.1 hj with rfl | hj
        · simp only [if_true]; exact ⟨hg.size, hgw.size, Nat.le_refl _⟩
        · simp only [if_neg (hne j hj)]
          obtain ⟨b1, b2, b3⟩ := hb j hj
          exact ⟨b1, b2, Nat.le_trans b3 hgw.size⟩
      · rcases List.mem_cons.1 hj with e | hj'
        · subst e
          rcases List.mem_cons.1 hk with rfl | hk'
          · exact absurd rfl hjk
          · simp only [if_true, if_neg (hne k hk')]
            exact .inr (hb k hk').2.2
        · rcases List.mem_cons.1 hk with e | hk'
          · subst e
            simp only [if_true, if_neg (hne j hj')]
            exact .inl (hb j hj').2.2
          · simp only [if_neg (hne j hj'), if_neg (hne k hk')]
            exact hap j hj' k hk' hjk
  have := main G.length [] (Array.replicate ops.size false) a0 w0 (fun _ => undef) (fun _ => 0) (fun _ => 0) (by simp) List.nodup_nil (by simp) (by simp) (fun i hi => by simp [hi]) (by simp) rfl (World.grownBy.refl _ _) (by simp) (by simp) (by simp)
  simpa using this
theorem wp_region {id : Nat} {w : World} {a0 : Act} (G : List Nat) (lG : Array Bool) (pG : List (Option Tmp × Nat)) (k : Nat) (T : Nat → Value → Nat → Nat → World → Prop) (hm : P.follows .mixedOrders = true) (hok : ok .any ops G = true) (hG : G.Nodup)
    (hlG : flags ops G = lG) (hpG : pairs ops G = pG) (hk : ops.size - G.length = k)
    (hmono : ∀ i v lo hi w w', T i v lo hi w → w.grownBy w' none → T i v lo hi w')
    (steps : Steps P .any ops G T a0 w.drew G)
    (rest : ∀ (vs : Nat → Value) (lo hi : Nat → Nat) (w' : World), w.drew.grownBy w' none → TAll T vs lo hi w' G → (∀ i ∈ G, w.drew.heap.size ≤ lo i ∧ lo i ≤ hi i ∧ hi i ≤ w'.heap.size) → (∀ i ∈ G, ∀ j ∈ G, i ≠ j → hi i ≤ lo j ∨ hi j ≤ lo i) →
      wpAny P .any ops Q k lG (putL vs pG a0) w') : (Code.region id ops true).wp P Q a0 w := by
  subst hlG; subst hpG; subst hk
  exact wp_region_any hm (wpAny_grow G T a0 w.drew hok hG hmono steps rest)
def okAtD (md : Region.Mode) (ops : Array Oper) (D G : List Nat) (i : Nat) : Bool := match ops[i]? with
  | some o => o.guard.isNone && (match o.op with | .select _ _ => false | _ => true) &&
      (preds md ops i).all (fun p => decide (p < i) && (D.contains p || G.contains p)) &&
      G.all (fun j => (preds md ops i).contains j || (match dstOf ops j with | some d => !(tmpsOf o).contains d | none => true))
  | none => false
def okD (md : Region.Mode) (ops : Array Oper) (D G : List Nat) : Bool :=
  G.all (okAtD md ops D G) && nodupB (G.map (dstOf ops)) && (List.range ops.size).all (fun j => D.contains j || G.contains j || G.all (fun g => below md ops ops.size j g)) && D.all (fun d => decide (d < ops.size) && (preds md ops d).all D.contains)
/-- One operation: it yields a value of which T holds; memory only grows. (Of those that it waits for, the ones in G.) -/
def StepD (P : Program) (md : Region.Mode) (ops : Array Oper) (G : List Nat) (T : Nat → Value → Nat → Nat → World → Prop) (a0 : Act) (w0 : World) (i : Nat) : Prop :=
  ∀ o, ops[i]? = some o → ∀ (vs : Nat → Value) (lo hi : Nat → Nat) (w : World), w0.grownBy w none → TAll T vs lo hi w ((preds md ops i).filter G.contains) →
    ∀ K : Act → World → Prop, (∀ v w', w.grownBy w' none → T i v w.heap.size w'.heap.size w' → K ((putL vs (pairs ops (pre md ops G i)) a0).put o.dst v) w') →
      o.wp P (putL vs (pairs ops (pre md ops G i)) a0) w K (fun _ _ _ => False)
def StepsD (P : Program) (md : Region.Mode) (ops : Array Oper) (G : List Nat) (T : Nat → Value → Nat → Nat → World → Prop) (a0 : Act) (w0 : World) : List Nat → Prop
  | [] => True
  | i :: r => StepD P md ops G T a0 w0 i ∧ StepsD P md ops G T a0 w0 r
theorem StepsD.get {G : List Nat} {T : Nat → Value → Nat → Nat → World → Prop} {a0 : Act} {w0 : World} : ∀ {L : List Nat}, StepsD P md ops G T a0 w0 L → ∀ i ∈ L, StepD P md ops G T a0 w0 i
  | [], _, i, hi => by simp at hi
  | j :: r, h, i, hi => by
    rcases List.mem_cons.1 hi with rfl | hi
    · exact h.1
    · exact StepsD.get h.2 i hi
theorem StepsD.nil {G : List Nat} {T : Nat → Value → Nat → Nat → World → Prop} {a0 : Act} {w0 : World} : StepsD P md ops G T a0 w0 [] := trivial
theorem StepsD.cons {G : List Nat} {T : Nat → Value → Nat → Nat → World → Prop} {a0 : Act} {w0 : World} {i : Nat} {r : List Nat} {o : Oper} (ps : List Nat) (pl : List (Option Tmp × Nat)) (ho : ops[i]? = some o) (hp : (preds md ops i).filter G.contains = ps) (hl : pairs ops (pre md ops G i) = pl)
    (h : ∀ (vs : Nat → Value) (lo hi : Nat → Nat) (w : World), w0.grownBy w none → TAll T vs lo hi w ps →
      ∀ K : Act → World → Prop, (∀ v w', w.grownBy w' none → T i v w.heap.size w'.heap.size w' → K ((putL vs pl a0).put o.dst v) w') → o.wp P (putL vs pl a0) w K (fun _ _ _ => False))
    (more : StepsD P md ops G T a0 w0 r) : StepsD P md ops G T a0 w0 (i :: r) := by
  refine ⟨?_, more⟩
  intro o' ho' vs lo hi w hg hT K hK
  rw [ho] at ho'
  cases ho'
  subst hp
  subst hl
  exact h vs lo hi w hg hT K hK
theorem wpAnyH_grow {S : World → Prop} (D G : List Nat) (T : Nat → Value → Nat → Nat → World → Prop) (a0 : Act) (w0 : World) (hok : okD md ops D G = true) (hG : (D ++ G).Nodup) (hS : ∀ w, w0.grownBy w none → S w)
    (hmono : ∀ i v lo hi w w', T i v lo hi w → w.grownBy w' none → T i v lo hi w')
    (steps : StepsD P md ops G T a0 w0 G)
    (rest : ∀ (vs : Nat → Value) (lo hi : Nat → Nat) (w : World), w0.grownBy w none → TAll T vs lo hi w G → (∀ i ∈ G, w0.heap.size ≤ lo i ∧ lo i ≤ hi i ∧ hi i ≤ w.heap.size) → (∀ i ∈ G, ∀ j ∈ G, i ≠ j → hi i ≤ lo j ∨ hi j ≤ lo i) →
      wpAnyH P md ops Q S (ops.size - D.length - G.length) (flags ops (D ++ G)) (putL vs (pairs ops G) a0) w) :
    wpAnyH P md ops Q S (ops.size - D.length) (flags ops D) a0 w0 := by
  simp only [okD, Bool.and_eq_true, List.all_eq_true] at hok
  obtain ⟨⟨⟨okG, hnd⟩, hbel⟩, hD0⟩ := hok
  have hDcl : ∀ d ∈ D, ∀ p ∈ preds md ops d, p ∈ D := fun d hd p hp => by
    have := (hD0 d hd).2 p hp
    simpa using this
  have hDlt : ∀ d ∈ D, d < ops.size := fun d hd => by
    have := (hD0 d hd).1
    simpa using this
  have hDG : ∀ i ∈ G, i ∉ D := fun i hi hd => (List.nodup_append.1 hG).2.2 i hd i hi rfl
  have hG : G.Nodup := (List.nodup_append.1 hG).2.1
  have hDn : D.Nodup := (List.nodup_append.1 ‹(D ++ G).Nodup›).1
  have okI : ∀ i ∈ G, ∃ o, ops[i]? = some o ∧ o.guard = none ∧ (∀ cs b, o.op ≠ .select cs b) ∧ (∀ p ∈ preds md ops i, p < i ∧ (p ∈ D ∨ p ∈ G)) ∧ (∀ j ∈ G, j ∉ preds md ops i → ∀ d, dstOf ops j = some d → d ∉ tmpsOf o) := fun i hi => by
    have := okG i hi
    unfold okAtD at this
    split at this
    · rename_i o ho
      simp only [Bool.and_eq_true, List.all_eq_true, decide_eq_true_eq] at this
      obtain ⟨⟨⟨h1, h2⟩, h3⟩, h4⟩ := this
      refine ⟨o, ho, by simpa using h1, (fun cs b e => by rw [e] at h2; cases h2), fun p hp => ⟨(h3 p hp).1, by simpa using (h3 p hp).2⟩, fun j hj hjp d hd => ?_⟩
      have := h4 j hj
      simp only [Bool.or_eq_true, List.contains_eq_mem, decide_eq_true_eq, hd, Bool.not_eq_true', decide_eq_false_iff_not] at this
      rcases this with h | h
      · exact absurd h hjp
      · exact h
    · cases this
  have hdst : ∀ i ∈ G, ∀ j ∈ G, i ≠ j → ∀ t, dstOf ops i = some t → dstOf ops j ≠ some t := fun i hi j hj hne t h1 h2 => by
    have hp := nodupB_spec (ops := ops) hnd
    have key : ∀ (L : List Nat), L.Pairwise (fun i j => ∀ t, dstOf ops i = some t → dstOf ops j ≠ some t) → i ∈ L → j ∈ L → False := by
      intro L
      induction L with
      | nil => intro _ h; simp at h
      | cons x r ih =>
        intro hp hi hj
        obtain ⟨p1, p2⟩ := List.pairwise_cons.1 hp
        rcases List.mem_cons.1 hi with e | hi'
        · subst e
          rcases List.mem_cons.1 hj with rfl | hj
          · exact hne rfl
          · exact p1 j hj t h1 h2
        · rcases List.mem_cons.1 hj with e | hj'
          · subst e
            exact p1 i hi' t h2 h1
          · exact ih p2 hi' hj'
    exact key G hp hi hj
  -- the walk, from any state on
  have main : ∀ (n : Nat) (L : List Nat) (listed : Array Bool) (a : Act) (w : World) (vs : Nat → Value) (lo up : Nat → Nat), n = G.length - L.length → L.Nodup → (∀ i ∈ L, i ∈ G) →
      listed.size = ops.size → (∀ i, i < ops.size → listed[i]? = some (D.contains i || L.contains i)) → (∀ i ∈ L, ∀ p ∈ preds md ops i, p ∈ D ∨ p ∈ L) → a = putL vs (pairs ops L) a0 → w0.grownBy w none →
      (∀ i ∈ L, T i (vs i) (lo i) (up i) w) → (∀ i ∈ L, w0.heap.size ≤ lo i ∧ lo i ≤ up i ∧ up i ≤ w.heap.size) → (∀ i ∈ L, ∀ j ∈ L, i ≠ j → up i ≤ lo j ∨ up j ≤ lo i) →
      wpAnyH P md ops Q S (ops.size - D.length - L.length) listed a w := by
    intro n
    induction n with
    | zero =>
      intro L listed a w vs lo up hn hnod hLG hsz hl hcl ha hg hT hb hap
      have hlen : L.length ≤ G.length := sub_len hnod hLG
      have hperm : L.Perm G := sub_perm hnod hLG (by omega)
      have hGL : ∀ i ∈ G, i ∈ L := fun i hi => hperm.mem_iff.2 hi
      have hflag : listed = flags ops (D ++ G) := by
        apply Array.ext_getElem?
        intro i
        unfold flags
        by_cases hi : i < ops.size
        · rw [hl i hi]
          simp only [List.getElem?_toArray, List.getElem?_map, List.getElem?_range hi, Option.map_some, Option.some.injEq]
          rw [Bool.eq_iff_iff]
          simp only [List.contains_eq_mem, Bool.or_eq_true, decide_eq_true_eq, List.mem_append]
          rw [hperm.mem_iff]
        · rw [Array.getElem?_eq_none (by omega), Array.getElem?_eq_none (by simp; omega)]
      have hp : putL vs (pairs ops L) a0 = putL vs (pairs ops G) a0 := putL_perm vs (hperm.map _) (once_of L hnod (fun i hi j hj => hdst i (hLG i hi) j (hLG j hj))) a0
      rw [ha, hp, hflag, hperm.length_eq]
      exact rest vs lo up w hg (TAll_of fun j hj => hT j (hGL j hj)) (fun i hi => hb i (hGL i hi)) (fun i hi j hj => hap i (hGL i hi) j (hGL j hj))
    | succ n ih =>
      intro L listed a w vs lo up hn hnod hLG hsz hl hcl ha hg hT hb hap
      have hlt : L.length < G.length := by omega
      have hGlt : ∀ i ∈ G, i < ops.size := fun i hi => by
        obtain ⟨o, ho, _⟩ := okI i hi
        exact (Array.getElem?_eq_some_iff.1 ho).1
      have hready : ∀ i, i ∈ Region.ready md ops listed ↔ i < ops.size ∧ (i ∉ D ∧ i ∉ L) ∧ ∀ p ∈ preds md ops i, p ∈ D ∨ p ∈ L := fun i => by
        rw [mem_ready]
        constructor
        · rintro ⟨h1, o, ho, h2⟩
          have hi : i < ops.size := (Array.getElem?_eq_some_iff.1 ho).1
          rw [Array.getD_eq_getD_getElem?, hl i hi] at h1
          refine ⟨hi, by simpa using h1, fun p hp => ?_⟩
          obtain ⟨e, he, hb', rfl⟩ := (mem_preds ho).1 hp
          have h3 := h2 e he hb'
          by_cases hps : e.on < ops.size
          · rw [Array.getD_eq_getD_getElem?, hl _ hps] at h3
            simpa using h3
          · rw [Array.getD_eq_getD_getElem?, Array.getElem?_eq_none (by omega)] at h3
            cases h3
        · rintro ⟨hi, h1, h2⟩
          obtain ⟨o, ho⟩ : ∃ o, ops[i]? = some o := ⟨_, Array.getElem?_eq_getElem hi⟩
          refine ⟨by rw [Array.getD_eq_getD_getElem?, hl i hi]; simpa using h1, o, ho, fun e he hb' => ?_⟩
          have := h2 e.on ((mem_preds ho).2 ⟨e, he, hb', rfl⟩)
          rw [Array.getD_eq_getD_getElem?, hl _ (this.elim (hDlt _) (fun h => hGlt _ (hLG _ h)))]
          simpa using this
      -- whatever comes up is one of G
      have hmiss : ∃ g ∈ G, g ∉ L := by
        refine Classical.byContradiction fun hno => ?_
        have hsub : ∀ g ∈ G, g ∈ L := fun g hg => Classical.byContradiction fun h => hno ⟨g, hg, h⟩
        have := sub_len hG hsub
        omega
      have hinG : ∀ i ∈ Region.ready md ops listed, i ∈ G := fun i hi => by
        obtain ⟨h1, h2, h3⟩ := (hready i).1 hi
        have hb' := hbel i (List.mem_range.2 h1)
        simp only [Bool.or_eq_true, List.contains_eq_mem, decide_eq_true_eq, List.all_eq_true] at hb'
        rcases hb' with (h | h) | h
        · exact absurd h h2.1
        · exact h
        · obtain ⟨g, hg1, hg2⟩ := hmiss
          rcases below_listed (listed := fun i => i ∈ D ∨ i ∈ L) (fun i hi p hp => hi.elim (fun h => .inl (hDcl i h p hp)) (fun h => hcl i h p hp)) _ i g (h g hg1) h3 with h | h
          · exact absurd h (hDG g hg1)
          · exact absurd h hg2
      have hsome : ∀ (i : Nat), i ∈ G → i ∉ L → Region.ready md ops listed ≠ [] := by
        intro i
        induction i using Nat.strongRecOn with
        | ind i ihi =>
          intro hi hiL
          by_cases hall : ∀ p ∈ preds md ops i, p ∈ D ∨ p ∈ L
          · intro he
            have := (hready i).2 ⟨hGlt i hi, ⟨hDG i hi, hiL⟩, hall⟩
            rw [he] at this
            cases this
          · obtain ⟨p, hp⟩ := Classical.not_forall.1 hall
            obtain ⟨hp1, hp2⟩ := Classical.not_imp.1 hp
            obtain ⟨_, _, _, _, hpre, _⟩ := okI i hi
            exact ihi p (hpre p hp1).1 ((hpre p hp1).2.resolve_left (fun h => hp2 (.inl h))) (fun h => hp2 (.inr h))
      obtain ⟨g, hg1, hg2⟩ := hmiss
      have hlen : D.length + L.length < ops.size := by
        have : (D ++ G).length ≤ (List.range ops.size).length := sub_len (List.nodup_append.2 ⟨hDn, hG, fun a ha b hb e => hDG b hb (e ▸ ha)⟩) (fun i hi => List.mem_range.2 ((List.mem_append.1 hi).elim (hDlt i) (hGlt i)))
        rw [List.length_range, List.length_append] at this
        omega
      obtain ⟨f, hf⟩ : ∃ f, ops.size - D.length - L.length = f + 1 := ⟨ops.size - D.length - L.length - 1, by omega⟩
      rw [hf]
      refine ⟨fun he => absurd he (hsome g hg1 hg2), fun i hi => ?_⟩
      have hiG := hinG i hi
      obtain ⟨hilt, ⟨hiD, hiL⟩, hiP⟩ := (hready i).1 hi
      obtain ⟨o, ho, hgd, hsel, hpre, hnot⟩ := okI i hiG
      have hstep := StepsD.get steps i hiG o ho vs lo up w hg (TAll_of fun j hj => hT j (hiP j (List.mem_filter.1 hj).1 |>.resolve_left (fun h => by have := (List.mem_filter.1 hj).2; exact hDG j (by simpa using this) h)))
      have hdo : dstOf ops i = o.dst := by unfold dstOf; rw [ho]; rfl
      have hpreL : ∀ j, j ∈ pre md ops G i → j ∈ L := fun j hj => by
        unfold pre at hj
        have h2 := (List.mem_filter.1 hj)
        exact (hiP j (by simpa using h2.2)).resolve_left (hDG j h2.1)
      have hpreN : (pre md ops G i).Nodup := hG.filter _
      have hOL : Once (pairs ops L) := once_of L hnod (fun i hi j hj => hdst i (hLG i hi) j (hLG j hj))
      have hOp : Once (pairs ops (pre md ops G i)) := once_of _ hpreN (fun i hi j hj => hdst i (hLG i (hpreL i hi)) j (hLG j (hpreL j hj)))
      have he : execOp a.eval o = execOp (putL vs (pairs ops (pre md ops G i)) a0).eval o := by
        refine execOp_congr o hsel fun x hx => ?_
        rw [ha]
        cases x with
        | tmp t =>
          have ht : t ∈ tmpsOf o := List.mem_filterMap.2 ⟨.tmp t, by simpa using hx, rfl⟩
          by_cases hex : ∃ j ∈ L, dstOf ops j = some t
          · obtain ⟨j, hj, hjt⟩ := hex
            have hjp : j ∈ preds md ops i := Classical.byContradiction fun h => hnot j (hLG j hj) h t hjt ht
            have hjpre : j ∈ pre md ops G i := List.mem_filter.2 ⟨hLG j hj, by simpa using hjp⟩
            rw [putL_eval_in vs _ a0 hOL (List.mem_map.2 ⟨j, hj, by rw [hjt]⟩), putL_eval_in vs _ a0 hOp (List.mem_map.2 ⟨j, hjpre, by rw [hjt]⟩)]
          · rw [putL_eval_out vs _ a0, putL_eval_out vs _ a0]
            · rintro p hp s hs e
              cases e
              obtain ⟨j, hj, rfl⟩ := List.mem_map.1 hp
              exact hex ⟨j, hpreL j hj, hs⟩
            · rintro p hp s hs e
              cases e
              obtain ⟨j, hj, rfl⟩ := List.mem_map.1 hp
              exact hex ⟨j, hj, hs⟩
        | _ => rfl
      have hs : a.tmps.size = (putL vs (pairs ops (pre md ops G i)) a0).tmps.size := by rw [ha, putL_size, putL_size]
      unfold wpOp
      simp only [ho]
      have hwd : Region.wanted o (yielded ops a.tmps) = true := by unfold Region.wanted; rw [hgd]
      rw [if_pos hwd]
      refine .inl (wp_swap (R := fun v w' => w.grownBy w' none ∧ T i v w.heap.size w'.heap.size w') he hs (fun K' hK' => hstep K' (fun v w' h1 h2 => hK' v w' ⟨h1, h2⟩)) ?_)
      rintro v w' ⟨hgw, hTv⟩
      have hfe : f = ops.size - D.length - (i :: L).length := by rw [List.length_cons]; omega
      rw [hfe]
      refine ⟨hS _ (grown_trans hg hgw), ?_⟩
      have hne : ∀ j ∈ L, j ≠ i := fun j hj e => hiL (e ▸ hj)
      refine ih (i :: L) _ _ w' (fun k => if k = i then v else vs k) (fun k => if k = i then w.heap.size else lo k) (fun k => if k = i then w'.heap.size else up k) (by rw [List.length_cons]; omega) (List.nodup_cons.2 ⟨hiL, hnod⟩)
        (fun j hj => ?_) (by simpa using hsz) (fun j hj => ?_) (fun j hj p hp => ?_) ?_ (grown_trans hg hgw) (fun j hj => ?_) (fun j hj => ?_) (fun j hj k hk hjk => ?_)
      · rcases List.mem_cons.1 hj with rfl | hj
        · exact hiG
        · exact hLG j hj
      · rw [Array.getElem?_setIfInBounds]
        by_cases e : i = j
        · subst e
          rw [if_pos rfl, if_pos (by omega)]
          simp
        · rw [if_neg e, hl j hj]
          congr 1
          rw [Bool.eq_iff_iff]
          simp only [Bool.or_eq_true, List.contains_eq_mem, decide_eq_true_eq, List.mem_cons]
          exact ⟨fun h => h.elim .inl (fun h => .inr (.inr h)), fun h => h.elim .inl (fun h => .inr (h.resolve_left (fun h => e h.symm)))⟩
      · rcases List.mem_cons.1 hj with rfl | hj
        · exact (hiP p hp).imp id (List.mem_cons_of_mem _)
        · exact (hcl j hj p hp).imp id (List.mem_cons_of_mem _)
      · rw [ha]
        have hc : ∀ (M : List Nat) (b : Act), (∀ j ∈ M, j ≠ i) → putL vs (pairs ops M) b = putL (fun k => if k = i then v else vs k) (pairs ops M) b := by
          intro M
          induction M with
          | nil => intro _ _; rfl
          | cons x r ihM =>
            intro b hM
            simp only [pairs, List.map_cons, putL]
            rw [if_neg (hM x (by simp))]
            exact ihM _ (fun j hj => hM j (List.mem_cons_of_mem _ hj))
        rw [hc L a0 hne, ← hdo]
        simp only [pairs, List.map_cons, putL, if_true]
        rw [putL_put]
        intro p hp t ht
        obtain ⟨j, hj, rfl⟩ := List.mem_map.1 hp
        exact hdst i hiG j (hLG j hj) (Ne.symm (hne j hj)) t ht
      · rcases List.mem_cons.1 hj with rfl | hj
        · simp only [if_true]; exact hTv
        · simp only [if_neg (hne j hj)]; exact hmono _ _ _ _ _ _ (hT j hj) hgw
      · rcases List.mem_cons.1 hj with rfl | hj
        · simp only [if_true]; exact ⟨hg.size, hgw.size, Nat.le_refl _⟩
        · simp only [if_neg (hne j hj)]
          obtain ⟨b1, b2, b3⟩ := hb j hj
          exact ⟨b1, b2, Nat.le_trans b3 hgw.size⟩
      · rcases List.mem_cons.1 hj with e | hj'
        · subst e
          rcases List.mem_cons.1 hk with rfl | hk'
          · exact absurd rfl hjk
          · simp only [if_true, if_neg (hne k hk')]
            exact .inr (hb k hk').2.2
        · rcases List.mem_cons.1 hk with e | hk'
          · subst e
            simp only [if_true, if_neg (hne j hj')]
            exact .inl (hb j hj').2.2
          · simp only [if_neg (hne j hj'), if_neg (hne k hk')]
            exact hap j hj' k hk' hjk
  have := main G.length [] (flags ops D) a0 w0 (fun _ => undef) (fun _ => 0) (fun _ => 0) (by simp) List.nodup_nil (by simp) (by simp [flags]) (fun i hi => by simp [flags, hi]) (by simp) rfl (World.grownBy.refl _ _) (by simp) (by simp) (by simp)
  simpa using this
/-- The law, from a state in which some have come up already (taken first: loads, arithmetic). -/
theorem wpAnyH_from {S : World → Prop} {fuel : Nat} {listed : Array Bool} {a0 : Act} {w0 : World} (D G : List Nat) (lG : Array Bool) (pG : List (Option Tmp × Nat)) (k : Nat) (T : Nat → Value → Nat → Nat → World → Prop) (hD : flags ops D = listed) (hf : ops.size - D.length = fuel)
    (hok : okD md ops D G = true) (hG : (D ++ G).Nodup) (hlG : flags ops (D ++ G) = lG) (hpG : pairs ops G = pG) (hk : ops.size - D.length - G.length = k) (hS : ∀ w, w0.grownBy w none → S w)
    (hmono : ∀ i v lo hi w w', T i v lo hi w → w.grownBy w' none → T i v lo hi w')
    (steps : StepsD P md ops G T a0 w0 G)
    (rest : ∀ (vs : Nat → Value) (lo hi : Nat → Nat) (w' : World), w0.grownBy w' none → TAll T vs lo hi w' G → (∀ i ∈ G, w0.heap.size ≤ lo i ∧ lo i ≤ hi i ∧ hi i ≤ w'.heap.size) → (∀ i ∈ G, ∀ j ∈ G, i ≠ j → hi i ≤ lo j ∨ hi j ≤ lo i) →
      wpAnyH P md ops Q S k lG (putL vs pG a0) w') : wpAnyH P md ops Q S fuel listed a0 w0 := by
  subst hlG; subst hpG; subst hk; subst hD; subst hf
  exact wpAnyH_grow D G T a0 w0 hok hG hS hmono steps rest
/-- One alone may come up. -/
theorem wpAnyH_one {S : World → Prop} {fuel : Nat} {listed : Array Bool} {a : Act} {w : World} {i : Nat} {o : Oper} (hr : Region.ready md ops listed = [i]) (ho : ops[i]? = some o) (hw : Region.wanted o (yielded ops a.tmps) = true)
    (h : o.wp P a w (fun a' w' => S w' ∧ wpAnyH P md ops Q S fuel (listed.setIfInBounds i true) a' w') Q) : wpAnyH P md ops Q S (fuel + 1) listed a w :=
  wpAnyH_all hr (by simp) fun j hj => by
    obtain rfl : j = i := by simpa using hj
    unfold wpOp
    simp only [ho, hw, if_true]
    exact .inl h
theorem wpAny_one {fuel : Nat} {listed : Array Bool} {a : Act} {w : World} {i : Nat} {o : Oper} (hr : Region.ready md ops listed = [i]) (ho : ops[i]? = some o) (hw : Region.wanted o (yielded ops a.tmps) = true)
    (h : o.wp P a w (wpAny P md ops Q fuel (listed.setIfInBounds i true)) Q) : wpAny P md ops Q (fuel + 1) listed a w :=
  wpAny_all hr (by simp) fun j hj => by
    obtain rfl : j = i := by simpa using hj
    unfold wpOp
    simp only [ho, hw, if_true]
    exact .inl h
end
end Grow
end Go.Proofs.Ytjnbfgogmhfbiaa
