/- The two nets side by side. -/
import Derived.Test.YtdmhaigldckdbaaOe
namespace Go.Proofs.Ytdmhaigldckdbaa
open Go Go.RowKit
theorem NetIs.foot_type {w : World} {base g : Nat} {fl : List Flt} (h : NetIs w base g fl) {b : Nat} (hb : Foot w g fl b) : ∃ cur T, w.heap[b]? = some (.cells cur T (0, 0)) ∧ (T = 45 ∨ T = 33 ∨ T = 5) := by
  obtain ⟨h1, h2, h3, A, c, h4, h5⟩ := h
  rcases hb with rfl | ⟨A', c', h6, h7⟩ | ⟨f, hf, h7⟩
  · exact ⟨_, _, h4, .inl rfl⟩
  · rw [h4] at h6
    cases h6
    obtain ⟨cur, hc⟩ := h5.row_of h7
    exact ⟨cur, _, hc, .inr (.inl rfl)⟩
  · obtain ⟨cur, hc⟩ := (h3.1 f hf).2.row_of h7
    exact ⟨cur, _, hc, .inr (.inr rfl)⟩
theorem NetIs.but {F : Nat → Prop} {w w' : World} {base g : Nat} {fl : List Flt} (h : NetIs w base g fl) (hb : But F w w') (hF : ∀ b, Foot w g fl b → ¬ F b) : NetIs w' base g fl ∧ ∀ b, Foot w' g fl b → Foot w g fl b := by
  obtain ⟨h1, h2, h3, A, c, h4, h5⟩ := h
  have h4' : w'.heap[g]? = some (.cells #[.bool true, .slice A fl.length c] 45 (0, 0)) := by
    rw [hb.2.2.2.2 g (Array.getElem?_eq_some_iff.1 h4).1 (hF g (.inl rfl))]
    exact h4
  refine ⟨⟨h1, h2, ⟨fun f hf => ⟨(h3.1 f hf).1, (h3.1 f hf).2.but hb (fun b hr => hF b (.inr (.inr ⟨f, hf, hr⟩)))⟩, h3.2⟩, A, c, h4', h5.but hb (fun b hr => hF b (.inr (.inl ⟨A, c, h4, hr⟩)))⟩, ?_⟩
  rintro b (rfl | ⟨A', c', h6, h7⟩ | h7)
  · exact .inl rfl
  · rw [h4'] at h6
    cases h6
    exact .inr (.inl ⟨A, c, h4, h7⟩)
  · exact .inr (.inr h7)
theorem DocIs.but {F : Nat → Prop} {w w' : World} {base g : Nat} {dl : List Flt} (h : DocIs w base g dl) (hb : But F w w') (hF : ∀ b, DBlk w base b → ¬ F b) (hd : ∀ d ∈ dl, ∀ b, d.row = some b → ¬ F b) : DocIs w' base g dl := by
  obtain ⟨h1, h2, h3, A, c, h4, h5⟩ := h
  refine ⟨h1, h2, fun d hm => ⟨(h3 d hm).1, (h3 d hm).2.but hb (hd d hm)⟩, A, c, ?_, h5.but hb (fun b hr => ?_)⟩
  · rw [hb.2.2.2.2 g (Array.getElem?_eq_some_iff.1 h4).1 (hF g ⟨h1, _, _, h4, .inl rfl⟩)]
    exact h4
  · obtain ⟨cur, hc⟩ := h5.row_of hr
    exact hF b ⟨(h5.row_ge b hr).1, cur, _, hc, .inr rfl⟩
/-- Types that neither net writes. -/
def Else (T : TypeId) : Prop := T ≠ 62 ∧ T ≠ 51 ∧ T ≠ 5
/-- Two nets, rows of the law's own, boxes. -/
def JointF (w0 : World) (g g2 : Nat) (fl dl : List Flt) (K : List (Option Addr × Nat × List Nat)) (B : List (Nat × TypeId × Array Value)) (w : World) : Prop :=
  w0.grownBy w none ∧ NetIs w w0.heap.size g fl ∧ DocIs w w0.heap.size g2 dl ∧ (∀ d ∈ dl, ∀ b, d.row = some b → ¬ Foot w g fl b) ∧
  (∀ k ∈ K, Kept w0 w g fl k.1 k.2.1 k.2.2 ∧ ∀ d ∈ dl, ∀ b, d.row = some b → rowOf k.1 k.2.1 ≠ some b) ∧ ∀ k ∈ B, Row w k.1 k.2.1 k.2.2 ∧ ¬ Foot w g fl k.1 ∧ Else k.2.1
theorem grown_but {w0 w w' : World} {F : Nat → Prop} (h : w0.grownBy w none) (b : But F w w') (hF : ∀ i, F i → w0.heap.size ≤ i) : w0.grownBy w' none := by
  obtain ⟨b1, b2, b3, b4, b5⟩ := b
  refine ⟨b1.trans h.os, b2.trans h.tape, b3.trans h.output, Nat.le_trans h.size b4, fun i hi hne => ?_⟩
  rw [b5 i (Nat.lt_of_lt_of_le hi h.size) (fun hf => by have := hF i hf; omega)]
  exact h.block i hi hne
theorem JointF.grown0 {w0 w w' : World} {g g2 : Nat} {fl dl : List Flt} {K : List (Option Addr × Nat × List Nat)} {B : List (Nat × TypeId × Array Value)} (h : JointF w0 g g2 fl dl K B w) (hg : w.grownBy w' none) : JointF w0 g g2 fl dl K B w' := by
  obtain ⟨h1, h2, h3, h4, h5, h6⟩ := h
  exact ⟨grown_trans h1 hg, h2.grown0 hg, h3.grown0 hg, fun d hd b hb hf => h4 d hd b hb (h2.foot0 hg b hf), fun k hk => ⟨(h5 k hk).1.grown0 h2 hg, (h5 k hk).2⟩, fun k hk => ⟨(h6 k hk).1.kept0 hg, fun hf => (h6 k hk).2.1 (h2.foot0 hg _ hf), (h6 k hk).2.2⟩⟩
theorem JointF.box {w0 w : World} {g g2 : Nat} {fl dl : List Flt} {K : List (Option Addr × Nat × List Nat)} {B : List (Nat × TypeId × Array Value)} (h : JointF w0 g g2 fl dl K B w) (T : TypeId) (cs : Array Value) (hT : Else T) : JointF w0 g g2 fl dl K (⟨w.heap.size, T, cs⟩ :: B) (w.alloc (.cells cs T)) := by
  obtain ⟨h1, h2, h3, h4, h5, h6⟩ := h.grown0 (World.grownBy_alloc w (.cells cs T) none)
  refine ⟨h1, h2, h3, h4, h5, fun k hk => ?_⟩
  rcases List.mem_cons.1 hk with rfl | hk
  · exact ⟨Row.new w T cs, fun hf => by have := (h.2.1.foot_ge _ (h.2.1.foot0 (World.grownBy_alloc w (.cells cs T) none) _ hf)).2; simp at this, hT⟩
  · exact h6 k hk
theorem JointF.step {w0 w w' : World} {g g2 : Nat} {fl fl' dl : List Flt} {K : List (Option Addr × Nat × List Nat)} {B : List (Nat × TypeId × Array Value)} (h : JointF w0 g g2 fl dl K B w) (s : Step w w' w0.heap.size g fl fl') : JointF w0 g g2 fl' dl K B w' := by
  obtain ⟨h1, h2, h3, h4, h5, h6⟩ := h
  refine ⟨grown_but h1 s.2.1 (fun i hi => (h2.foot_ge i hi).1), s.1, h3.but s.2.1 (fun b hb hf => ?_) h4, fun d hd b hb hf => ?_, fun k hk => ⟨(h5 k hk).1.step s, (h5 k hk).2⟩, fun k hk => ?_⟩
  · obtain ⟨_, cur, T, e1, e2⟩ := hb
    obtain ⟨cur', T', e3, e4⟩ := h2.foot_type hf
    rw [e1] at e3
    cases e3
    rcases e2 with rfl | rfl <;> rcases e4 with e | e | e <;> cases e
  · rcases s.2.2 b hf with e | e
    · exact h4 d hd b hb e
    · have := ((h3.2.2.1 d hd).2.row_ge b hb).2
      omega
  · obtain ⟨r1, r2, r3⟩ := h6 k hk
    refine ⟨?_, fun hf => ?_, r3⟩
    · show w'.heap[k.1]? = _
      rw [s.2.1.2.2.2.2 k.1 r1.lt r2]
      exact r1
    · rcases s.2.2 _ hf with e | e
      · exact r2 e
      · have := r1.lt
        omega
theorem JointF.dstep {w0 w w' : World} {g g2 : Nat} {fl dl dl' : List Flt} {K : List (Option Addr × Nat × List Nat)} {B : List (Nat × TypeId × Array Value)} (h : JointF w0 g g2 fl dl K B w) (s : DStep w w' w0.heap.size g2 dl dl') : JointF w0 g g2 fl dl' K B w' := by
  obtain ⟨h1, h2, h3, h4, h5, h6⟩ := h
  obtain ⟨s1, s2, s3⟩ := s
  obtain ⟨n1, n2⟩ := h2.but s2 (fun b hf hb => by
    obtain ⟨_, cur, T, e1, e2⟩ := hb
    obtain ⟨cur', T', e3, e4⟩ := h2.foot_type hf
    rw [e1] at e3
    cases e3
    rcases e2 with rfl | rfl <;> rcases e4 with e | e | e <;> cases e)
  refine ⟨grown_but h1 s2 (fun i hi => hi.1), n1, s1, fun d hd b hb hf => ?_, fun k hk => ⟨⟨(h5 k hk).1.1.dblk s2, fun b hb hf => (h5 k hk).1.2 b hb (n2 b hf)⟩, fun d hd b hb hr => ?_⟩, fun k hk => ?_⟩
  · rcases s3 d hd with e | e
    · exact h4 d e b hb (n2 b hf)
    · have a1 := e b hb
      have a2 := (h2.foot_ge b (n2 b hf)).2
      omega
  · rcases s3 d hd with e | e
    · exact (h5 k hk).2 d e b hb hr
    · have a1 := e b hb
      have a2 := ((h5 k hk).1.1.row_ge b hr).2
      omega
  · obtain ⟨r1, r2, r3⟩ := h6 k hk
    refine ⟨?_, fun hf => r2 (n2 _ hf), r3⟩
    show w'.heap[k.1]? = _
    rw [s2.2.2.2.2 k.1 r1.lt (fun hb => ?_)]
    · exact r1
    · obtain ⟨_, cur, T, e1, e2⟩ := hb
      have e3 : w.heap[k.1]? = some (.cells k.2.2 k.2.1 (0, 0)) := r1
      rw [e3] at e1
      cases e1
      rcases e2 with e | e
      · exact r3.1 e
      · exact r3.2.1 e
theorem JointF.take {w0 w w' : World} {g g2 p : Nat} {fl dl : List Flt} {x : Flt} {K : List (Option Addr × Nat × List Nat)} {B : List (Nat × TypeId × Array Value)} (h : JointF w0 g g2 fl dl K B w) (s : Step w w' w0.heap.size g fl (fl.eraseIdx p)) (hx : x ∈ fl)
    (hfr : Kept w0 w' g (fl.eraseIdx p) x.A x.cap x.bs) : JointF w0 g g2 (fl.eraseIdx p) dl (⟨x.A, x.cap, x.bs⟩ :: K) B w' := by
  have h4 := h.2.2.2.1
  obtain ⟨j1, j2, j3, j4, j5, j6⟩ := h.step s
  refine ⟨j1, j2, j3, j4, fun k hk => ?_, j6⟩
  rcases List.mem_cons.1 hk with rfl | hk
  · exact ⟨hfr, fun d hd b hb hr => h4 d hd b hb (.inr (.inr ⟨x, hx, hr⟩))⟩
  · exact j5 k hk
theorem JointF.keep {w0 w w' : World} {g g2 : Nat} {fl dl : List Flt} {K : List (Option Addr × Nat × List Nat)} {B : List (Nat × TypeId × Array Value)} (h : JointF w0 g g2 fl dl K B w) (hg : w.grownBy w' none) (A : Option Addr) (c : Nat) (l : List Nat) {b1 : Nat} (hb1 : w.heap.size ≤ b1) (ho : Own w' b1 5 1 A l.length c (l.map byte)) :
    JointF w0 g g2 fl dl (⟨A, c, l⟩ :: K) B w' := by
  obtain ⟨j1, j2, j3, j4, j5, j6⟩ := h.grown0 hg
  refine ⟨j1, j2, j3, j4, fun k hk => ?_, j6⟩
  rcases List.mem_cons.1 hk with rfl | hk
  · refine ⟨⟨ho.base_ (Nat.le_trans h.1.size hb1), fun b hb hf => ?_⟩, fun d hd b hb hr => ?_⟩
    · have a1 := (ho.row_ge b hb).1
      have a2 := (h.2.1.foot_ge b (h.2.1.foot0 hg b hf)).2
      omega
    · have a1 := (ho.row_ge b hr).1
      have a2 := ((h.2.2.1.2.2.1 d hd).2.row_ge b hb).2
      omega
  · exact j5 k hk
/-- A row of the law's own is written over. -/
theorem JointF.write {w0 w w' : World} {g g2 c : Nat} {fl dl : List Flt} {A : Option Addr} {l : List Nat} {K : List (Option Addr × Nat × List Nat)} {B : List (Nat × TypeId × Array Value)} (h : JointF w0 g g2 fl dl (⟨A, c, l⟩ :: K) B w) (hg : w.grownBy w' (rowOf A c)) : JointF w0 g g2 fl dl [] B w' := by
  obtain ⟨h1, h2, h3, h4, h5, h6⟩ := h
  obtain ⟨⟨k1, k2⟩, k3⟩ := h5 _ List.mem_cons_self
  dsimp only at k1 k2 k3
  have hb : But (fun b => rowOf A c = some b) w w' := But.of_grown hg (fun b e => e)
  obtain ⟨n1, n2⟩ := h2.but hb (fun b hf hr => k2 b hr hf)
  refine ⟨grown_new h1 hg (fun b hr => (k1.row_ge b hr).1), n1, h3.but hb (fun b hb hr => ?_) (fun d hd b hb hr => k3 d hd b hb hr), fun d hd b hb hf => h4 d hd b hb (n2 b hf), fun k hk => (nomatch hk), fun k hk => ?_⟩
  · obtain ⟨_, cur, T, e1, e2⟩ := hb
    obtain ⟨cur', e3⟩ := k1.row_of hr
    rw [e1] at e3
    cases e3
    rcases e2 with e | e <;> cases e
  · obtain ⟨r1, r2, r3⟩ := h6 k hk
    refine ⟨r1.keptO hg (fun hr => ?_), fun hf => r2 (n2 _ hf), r3⟩
    obtain ⟨cur', e3⟩ := k1.row_of hr
    have e4 : w.heap[k.1]? = some (.cells k.2.2 k.2.1 (0, 0)) := r1
    rw [e3] at e4
    injection e4 with e4
    injection e4 with _ e5
    exact r3.2.2 e5.symm
end Go.Proofs.Ytdmhaigldckdbaa
