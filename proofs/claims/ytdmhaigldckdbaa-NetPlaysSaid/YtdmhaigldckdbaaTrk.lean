/- Regions that draw their order, with a state that calls turn: which of them have come up tells the state. -/
import Derived.Test.YtdmhaigldckdbaaGrow
namespace Go.Proofs.Ytdmhaigldckdbaa
open Go Go.RowKit
namespace Grow
section
variable {P : Program} {ops : Array Oper} {Q : Exit → Act → World → Prop} {md : Region.Mode}
def TA (T : Nat → Value → Prop) (vs : Nat → Value) : List Nat → Prop
  | [] => True
  | [j] => T j (vs j)
  | j :: r => T j (vs j) ∧ TA T vs r
theorem TA_of {T : Nat → Value → Prop} {vs : Nat → Value} : ∀ {L : List Nat}, (∀ j ∈ L, T j (vs j)) → TA T vs L
  | [], _ => trivial
  | [j], h => h j (by simp)
  | j :: k :: r, h => ⟨h j (by simp), TA_of (L := k :: r) fun x hx => h x (List.mem_cons_of_mem _ hx)⟩
/-- One operation: it yields a value of which T holds, and turns the state. -/
def StepT (P : Program) (md : Region.Mode) (ops : Array Oper) (G : List Nat) (T : Nat → Value → Prop) (I : List Nat → World → Prop) (a0 : Act) (i : Nat) : Prop :=
  ∀ o, ops[i]? = some o → ∀ (vs : Nat → Value) (L : List Nat) (w : World), I L w → i ∉ L → (∀ j ∈ L, j ∈ G) → TA T vs ((preds md ops i).filter G.contains) →
    ∀ K : Act → World → Prop, (∀ v w', I (i :: L) w' ∧ T i v → K ((putL vs (pairs ops (pre md ops G i)) a0).put o.dst v) w') →
      o.wp P (putL vs (pairs ops (pre md ops G i)) a0) w K (fun _ _ _ => False)
def StepsT (P : Program) (md : Region.Mode) (ops : Array Oper) (G : List Nat) (T : Nat → Value → Prop) (I : List Nat → World → Prop) (a0 : Act) : List Nat → Prop
  | [] => True
  | i :: r => StepT P md ops G T I a0 i ∧ StepsT P md ops G T I a0 r
theorem StepsT.get {G : List Nat} {T : Nat → Value → Prop} {I : List Nat → World → Prop} {a0 : Act} : ∀ {L : List Nat}, StepsT P md ops G T I a0 L → ∀ i ∈ L, StepT P md ops G T I a0 i
  | [], _, i, hi => by simp at hi
  | j :: r, h, i, hi => by
    rcases List.mem_cons.1 hi with rfl | hi
    · exact h.1
    · exact StepsT.get h.2 i hi
theorem StepsT.nil {G : List Nat} {T : Nat → Value → Prop} {I : List Nat → World → Prop} {a0 : Act} : StepsT P md ops G T I a0 [] := trivial
theorem StepsT.cons {G : List Nat} {T : Nat → Value → Prop} {I : List Nat → World → Prop} {a0 : Act} {i : Nat} {r : List Nat} {o : Oper} (ps : List Nat) (pl : List (Option Tmp × Nat)) (ho : ops[i]? = some o) (hp : (preds md ops i).filter G.contains = ps) (hl : pairs ops (pre md ops G i) = pl)
    (h : ∀ (vs : Nat → Value) (L : List Nat) (w : World), I L w → i ∉ L → (∀ j ∈ L, j ∈ G) → TA T vs ps →
      ∀ K : Act → World → Prop, (∀ v w', I (i :: L) w' ∧ T i v → K ((putL vs pl a0).put o.dst v) w') → o.wp P (putL vs pl a0) w K (fun _ _ _ => False))
    (more : StepsT P md ops G T I a0 r) : StepsT P md ops G T I a0 (i :: r) := by
  refine ⟨?_, more⟩
  intro o' ho' vs L w hg hi hLG hT K hK
  rw [ho] at ho'
  cases ho'
  subst hp
  subst hl
  exact h vs L w hg hi hLG hT K hK
theorem wpAnyH_track {S : World → Prop} (D G : List Nat) (T : Nat → Value → Prop) (I : List Nat → World → Prop) (a0 : Act) (w0 : World) (hok : okD md ops D G = true) (hG : (D ++ G).Nodup) (hS : ∀ L w, I L w → S w)
    (hmem : ∀ L L' w, (∀ i, i ∈ L ↔ i ∈ L') → I L w → I L' w) (h0 : I [] w0)
    (steps : StepsT P md ops G T I a0 G)
    (rest : ∀ (vs : Nat → Value) (w : World), I G w → TA T vs G →
      wpAnyH P md ops Q S (ops.size - D.length - G.length) (flags ops (D ++ G)) (putL vs (pairs ops G) a0) w) :
    wpAnyH P md ops Q S (ops.size - D.length) (flags ops D) a0 w0 := by
  simp only [okD, Bool.and_eq_true, List.all_eq_true] at hok
  obtain ⟨⟨⟨okG, hnd⟩, hbel⟩, hD0⟩ := hok
  have hDcl : ∀ d ∈ D, ∀ p ∈ preds md ops d, p ∈ D := fun d hd p hp => by
    have := (hD0 d hd).2 p hp
    simpa using this
  have hDlt : ∀ d ∈ D, d < ops.size := fun d hd => by
    have := (hD0 d hd).1
    simpa using this
  have hDG : ∀ i ∈ G, i ∉ D := fun i hi hd => (List.nodup_append.1 hG).2.2 i hd i hi rfl
  have hG : G.Nodup := (List.nodup_append.1 hG).2.1
  have hDn : D.Nodup := (List.nodup_append.1 ‹(D ++ G).Nodup›).1
  have okI : ∀ i ∈ G, ∃ o, ops[i]? = some o ∧ o.guard = none ∧ (∀ cs b, o.op ≠ .select cs b) ∧ (∀ p ∈ preds md ops i, p < i ∧ (p ∈ D ∨ p ∈ G)) ∧ (∀ j ∈ G, j ∉ preds md ops i → ∀ d, dstOf ops j = some d → d ∉ tmpsOf o) := fun i hi => by
    have := okG i hi
    unfold okAtD at this
    split at this
    · rename_i o ho
      simp only [Bool.and_eq_true, List.all_eq_true, decide_eq_true_eq] at this
      obtain ⟨⟨⟨h1, h2⟩, h3⟩, h4⟩ := this
      refine ⟨o, ho, by simpa using h1, (fun cs b e => by rw [e] at h2; cases h2), fun p hp => ⟨(h3 p hp).1, by simpa using (h3 p hp).2⟩, fun j hj hjp d hd => ?_⟩
      have := h4 j hj
      simp only [Bool.or_eq_true, List.contains_eq_mem, decide_eq_true_eq, hd, Bool.not_eq_true', decide_eq_false_iff_not] at this
      rcases this with h | h
      · exact absurd h hjp
      · exact h
    · cases this
  have hdst : ∀ i ∈ G, ∀ j ∈ G, i ≠ j → ∀ t, dstOf ops i = some t → dstOf ops j ≠ some t := fun i hi j hj hne t h1 h2 => by
    have hp := nodupB_spec (ops := ops) hnd
    have key : ∀ (L : List Nat), L.Pairwise (fun i j => ∀ t, dstOf ops i = some t → dstOf ops j ≠ some t) → i ∈ L → j ∈ L → False := by
      intro L
      induction L with
      | nil => intro _ h; simp at h
      | cons x r ih =>
        intro hp hi hj
        obtain ⟨p1, p2⟩ := List.pairwise_cons.1 hp
        rcases List.mem_cons.1 hi with e | hi'
        · subst e
          rcases List.mem_cons.1 hj with rfl | hj
          · exact hne rfl
          · exact p1 j hj t h1 h2
        · rcases List.mem_cons.1 hj with e | hj'
          · subst e
            exact p1 i hi' t h2 h1
          · exact ih p2 hi' hj'
    exact key G hp hi hj
  -- the walk, from any state on
  have main : ∀ (n : Nat) (L : List Nat) (listed : Array Bool) (a : Act) (w : World) (vs : Nat → Value), n = G.length - L.length → L.Nodup → (∀ i ∈ L, i ∈ G) →
      listed.size = ops.size → (∀ i, i < ops.size → listed[i]? = some (D.contains i || L.contains i)) → (∀ i ∈ L, ∀ p ∈ preds md ops i, p ∈ D ∨ p ∈ L) → a = putL vs (pairs ops L) a0 → I L w →
      (∀ i ∈ L, T i (vs i)) →
      wpAnyH P md ops Q S (ops.size - D.length - L.length) listed a w := by
    intro n
    induction n with
    | zero =>
      intro L listed a w vs hn hnod hLG hsz hl hcl ha hg hT
      have hlen : L.length ≤ G.length := sub_len hnod hLG
      have hperm : L.Perm G := sub_perm hnod hLG (by omega)
      have hGL : ∀ i ∈ G, i ∈ L := fun i hi => hperm.mem_iff.2 hi
      have hflag : listed = flags ops (D ++ G) := by
        apply Array.ext_getElem?
        intro i
        unfold flags
        by_cases hi : i < ops.size
        · rw [hl i hi]
          simp only [List.getElem?_toArray, List.getElem?_map, List.getElem?_range hi, Option.map_some, Option.some.injEq]
          rw [Bool.eq_iff_iff]
          simp only [List.contains_eq_mem, Bool.or_eq_true, decide_eq_true_eq, List.mem_append]
          rw [hperm.mem_iff]
        · rw [Array.getElem?_eq_none (by omega), Array.getElem?_eq_none (by simp; omega)]
      have hp : putL vs (pairs ops L) a0 = putL vs (pairs ops G) a0 := putL_perm vs (hperm.map _) (once_of L hnod (fun i hi j hj => hdst i (hLG i hi) j (hLG j hj))) a0
      rw [ha, hp, hflag, hperm.length_eq]
      exact rest vs w (hmem L G w (fun i => hperm.mem_iff) hg) (TA_of fun j hj => hT j (hGL j hj))
    | succ n ih =>
      intro L listed a w vs hn hnod hLG hsz hl hcl ha hg hT
      have hlt : L.length < G.length := by omega
      have hGlt : ∀ i ∈ G, i < ops.size := fun i hi => by
        obtain ⟨o, ho, _⟩ := okI i hi
        exact (Array.getElem?_eq_some_iff.1 ho).1
      have hready : ∀ i, i ∈ Region.ready md ops listed ↔ i < ops.size ∧ (i ∉ D ∧ i ∉ L) ∧ ∀ p ∈ preds md ops i, p ∈ D ∨ p ∈ L := fun i => by
        rw [mem_ready]
        constructor
        · rintro ⟨h1, o, ho, h2⟩
          have hi : i < ops.size := (Array.getElem?_eq_some_iff.1 ho).1
          rw [Array.getD_eq_getD_getElem?, hl i hi] at h1
          refine ⟨hi, by simpa using h1, fun p hp => ?_⟩
          obtain ⟨e, he, hb', rfl⟩ := (mem_preds ho).1 hp
          have h3 := h2 e he hb'
          by_cases hps : e.on < ops.size
          · rw [Array.getD_eq_getD_getElem?, hl _ hps] at h3
            simpa using h3
          · rw [Array.getD_eq_getD_getElem?, Array.getElem?_eq_none (by omega)] at h3
            cases h3
        · rintro ⟨hi, h1, h2⟩
          obtain ⟨o, ho⟩ : ∃ o, ops[i]? = some o := ⟨_, Array.getElem?_eq_getElem hi⟩
          refine ⟨by rw [Array.getD_eq_getD_getElem?, hl i hi]; simpa using h1, o, ho, fun e he hb' => ?_⟩
          have := h2 e.on ((mem_preds ho).2 ⟨e, he, hb', rfl⟩)
          rw [Array.getD_eq_getD_getElem?, hl _ (this.elim (hDlt _) (fun h => hGlt _ (hLG _ h)))]
          simpa using this
      -- whatever comes up is one of G
      have hmiss : ∃ g ∈ G, g ∉ L := by
        refine Classical.byContradiction fun hno => ?_
        have hsub : ∀ g ∈ G, g ∈ L := fun g hg => Classical.byContradiction fun h => hno ⟨g, hg, h⟩
        have := sub_len hG hsub
        omega
      have hinG : ∀ i ∈ Region.ready md ops listed, i ∈ G := fun i hi => by
        obtain ⟨h1, h2, h3⟩ := (hready i).1 hi
        have hb' := hbel i (List.mem_range.2 h1)
        simp only [Bool.or_eq_true, List.contains_eq_mem, decide_eq_true_eq, List.all_eq_true] at hb'
        rcases hb' with (h | h) | h
        · exact absurd h h2.1
        · exact h
        · obtain ⟨g, hg1, hg2⟩ := hmiss
          rcases below_listed (listed := fun i => i ∈ D ∨ i ∈ L) (fun i hi p hp => hi.elim (fun h => .inl (hDcl i h p hp)) (fun h => hcl i h p hp)) _ i g (h g hg1) h3 with h | h
          · exact absurd h (hDG g hg1)
          · exact absurd h hg2
      have hsome : ∀ (i : Nat), i ∈ G → i ∉ L → Region.ready md ops listed ≠ [] := by
        intro i
        induction i using Nat.strongRecOn with
        | ind i ihi =>
          intro hi hiL
          by_cases hall : ∀ p ∈ preds md ops i, p ∈ D ∨ p ∈ L
          · intro he
            have := (hready i).2 ⟨hGlt i hi, ⟨hDG i hi, hiL⟩, hall⟩
            rw [he] at this
            cases this
          · obtain ⟨p, hp⟩ := Classical.not_forall.1 hall
            obtain ⟨hp1, hp2⟩ := Classical.not_imp.1 hp
            obtain ⟨_, _, _, _, hpre, _⟩ := okI i hi
            exact ihi p (hpre p hp1).1 ((hpre p hp1).2.resolve_left (fun h => hp2 (.inl h))) (fun h => hp2 (.inr h))
      obtain ⟨g, hg1, hg2⟩ := hmiss
      have hlen : D.length + L.length < ops.size := by
        have : (D ++ G).length ≤ (List.range ops.size).length := sub_len (List.nodup_append.2 ⟨hDn, hG, fun a ha b hb e => hDG b hb (e ▸ ha)⟩) (fun i hi => List.mem_range.2 ((List.mem_append.1 hi).elim (hDlt i) (hGlt i)))
        rw [List.length_range, List.length_append] at this
        omega
      obtain ⟨f, hf⟩ : ∃ f, ops.size - D.length - L.length = f + 1 := ⟨ops.size - D.length - L.length - 1, by omega⟩
      rw [hf]
      refine ⟨fun he => absurd he (hsome g hg1 hg2), fun i hi => ?_⟩
      have hiG := hinG i hi
      obtain ⟨hilt, ⟨hiD, hiL⟩, hiP⟩ := (hready i).1 hi
      obtain ⟨o, ho, hgd, hsel, hpre, hnot⟩ := okI i hiG
      have hstep := StepsT.get steps i hiG o ho vs L w hg hiL hLG (TA_of fun j hj => hT j (hiP j (List.mem_filter.1 hj).1 |>.resolve_left (fun h => by have := (List.mem_filter.1 hj).2; exact hDG j (by simpa using this) h)))
      have hdo : dstOf ops i = o.dst := by unfold dstOf; rw [ho]; rfl
      have hpreL : ∀ j, j ∈ pre md ops G i → j ∈ L := fun j hj => by
        unfold pre at hj
        have h2 := (List.mem_filter.1 hj)
        exact (hiP j (by simpa using h2.2)).resolve_left (hDG j h2.1)
      have hpreN : (pre md ops G i).Nodup := hG.filter _
      have hOL : Once (pairs ops L) := once_of L hnod (fun i hi j hj => hdst i (hLG i hi) j (hLG j hj))
      have hOp : Once (pairs ops (pre md ops G i)) := once_of _ hpreN (fun i hi j hj => hdst i (hLG i (hpreL i hi)) j (hLG j (hpreL j hj)))
      have he : execOp a.eval o = execOp (putL vs (pairs ops (pre md ops G i)) a0).eval o := by
        refine execOp_congr o hsel fun x hx => ?_
        rw [ha]
        cases x with
        | tmp t =>
          have ht : t ∈ tmpsOf o := List.mem_filterMap.2 ⟨.tmp t, by simpa using hx, rfl⟩
          by_cases hex : ∃ j ∈ L, dstOf ops j = some t
          · obtain ⟨j, hj, hjt⟩ := hex
            have hjp : j ∈ preds md ops i := Classical.byContradiction fun h => hnot j (hLG j hj) h t hjt ht
            have hjpre : j ∈ pre md ops G i := List.mem_filter.2 ⟨hLG j hj, by simpa using hjp⟩
            rw [putL_eval_in vs _ a0 hOL (List.mem_map.2 ⟨j, hj, by rw [hjt]⟩), putL_eval_in vs _ a0 hOp (List.mem_map.2 ⟨j, hjpre, by rw [hjt]⟩)]
          · rw [putL_eval_out vs _ a0, putL_eval_out vs _ a0]
            · rintro p hp s hs e
              cases e
              obtain ⟨j, hj, rfl⟩ := List.mem_map.1 hp
              exact hex ⟨j, hpreL j hj, hs⟩
            · rintro p hp s hs e
              cases e
              obtain ⟨j, hj, rfl⟩ := List.mem_map.1 hp
              exact hex ⟨j, hj, hs⟩
        | _ => rfl
      have hs : a.tmps.size = (putL vs (pairs ops (pre md ops G i)) a0).tmps.size := by rw [ha, putL_size, putL_size]
      unfold wpOp
      simp only [ho]
      have hwd : Region.wanted o (yielded ops a.tmps) = true := by unfold Region.wanted; rw [hgd]
      rw [if_pos hwd]
      refine .inl (wp_swap (R := fun v w' => I (i :: L) w' ∧ T i v) he hs (fun K' hK' => hstep K' hK') ?_)
      rintro v w' ⟨hgw, hTv⟩
      have hfe : f = ops.size - D.length - (i :: L).length := by rw [List.length_cons]; omega
      rw [hfe]
      refine ⟨hS _ _ hgw, ?_⟩
      have hne : ∀ j ∈ L, j ≠ i := fun j hj e => hiL (e ▸ hj)
      refine ih (i :: L) _ _ w' (fun k => if k = i then v else vs k) (by rw [List.length_cons]; omega) (List.nodup_cons.2 ⟨hiL, hnod⟩)
        (fun j hj => ?_) (by simpa using hsz) (fun j hj => ?_) (fun j hj p hp => ?_) ?_ hgw (fun j hj => ?_)
      · rcases List.mem_cons.1 hj with rfl | hj
        · exact hiG
        · exact hLG j hj
      · rw [Array.getElem?_setIfInBounds]
        by_cases e : i = j
        · subst e
          rw [if_pos rfl, if_pos (by omega)]
          simp
        · rw [if_neg e, hl j hj]
          congr 1
          rw [Bool.eq_iff_iff]
          simp only [Bool.or_eq_true, List.contains_eq_mem, decide_eq_true_eq, List.mem_cons]
          exact ⟨fun h => h.elim .inl (fun h => .inr (.inr h)), fun h => h.elim .inl (fun h => .inr (h.resolve_left (fun h => e h.symm)))⟩
      · rcases List.mem_cons.1 hj with rfl | hj
        · exact (hiP p hp).imp id (List.mem_cons_of_mem _)
        · exact (hcl j hj p hp).imp id (List.mem_cons_of_mem _)
      · rw [ha]
        have hc : ∀ (M : List Nat) (b : Act), (∀ j ∈ M, j ≠ i) → putL vs (pairs ops M) b = putL (fun k => if k = i then v else vs k) (pairs ops M) b := by
          intro M
          induction M with
          | nil => intro _ _; rfl
          | cons x r ihM =>
            intro b hM
            simp only [pairs, List.map_cons, putL]
            rw [if_neg (hM x (by simp))]
            exact ihM _ (fun j hj => hM j (List.mem_cons_of_mem _ hj))
        rw [hc L a0 hne, ← hdo]
        simp only [pairs, List.map_cons, putL, if_true]
        rw [putL_put]
        intro p hp t ht
        obtain ⟨j, hj, rfl⟩ := List.mem_map.1 hp
        exact hdst i hiG j (hLG j hj) (Ne.symm (hne j hj)) t ht
      · rcases List.mem_cons.1 hj with rfl | hj
        · simp only [if_true]; exact hTv
        · simp only [if_neg (hne j hj)]; exact hT j hj
  have := main G.length [] (flags ops D) a0 w0 (fun _ => undef) (by simp) List.nodup_nil (by simp) (by simp [flags]) (fun i hi => by simp [flags, hi]) (by simp) rfl h0 (by simp)
  simpa using this
/-- The law, from a state in which some have come up already. -/
theorem wpAnyH_trackFrom {S : World → Prop} {fuel : Nat} {listed : Array Bool} {a0 : Act} {w0 : World} (D G : List Nat) (lG : Array Bool) (pG : List (Option Tmp × Nat)) (k : Nat) (T : Nat → Value → Prop) (I : List Nat → World → Prop) (hD : flags ops D = listed) (hf : ops.size - D.length = fuel)
    (hok : okD md ops D G = true) (hG : (D ++ G).Nodup) (hlG : flags ops (D ++ G) = lG) (hpG : pairs ops G = pG) (hk : ops.size - D.length - G.length = k) (hS : ∀ L w, I L w → S w)
    (hmem : ∀ L L' w, (∀ i, i ∈ L ↔ i ∈ L') → I L w → I L' w) (h0 : I [] w0)
    (steps : StepsT P md ops G T I a0 G)
    (rest : ∀ (vs : Nat → Value) (w' : World), I G w' → TA T vs G → wpAnyH P md ops Q S k lG (putL vs pG a0) w') : wpAnyH P md ops Q S fuel listed a0 w0 := by
  subst hlG; subst hpG; subst hk; subst hD; subst hf
  exact wpAnyH_track D G T I a0 w0 hok hG hS hmem h0 steps rest
end
end Grow
end Go.Proofs.Ytdmhaigldckdbaa
