/- The walk of RingTwo. -/
import Derived.Test.YtkailfigoogfeaaRa
import Derived.Test.YtkailfigoogfeaaRn
namespace Go.Proofs.Ytkailfigoogfeaa
open Go Go.RowKit
/-- A first document, then one document again and again. -/
def gF (D0 D : List (List Value) × Int) : Nat → Nat → List (List Value) × Int
  | 0 => fun _ => ([], 0)
  | k + 1 => upd (gF D0 D k) ((k + 1) % 4) (if k = 0 then D0 else D)
theorem gF_get (D0 D : List (List Value) × Int) : ∀ (k v : Nat), 1 ≤ v → v ≤ k → k ≤ v + 3 → gF D0 D k (v % 4) = if v = 1 then D0 else D
  | 0, v, h1, h2, _ => by omega
  | k + 1, v, h1, h2, h3 => by
    rw [gF]
    by_cases e : v = k + 1
    · subst e
      rw [upd_same]
      by_cases hk : k = 0
      · rw [if_pos hk, if_pos (by omega)]
      · rw [if_neg hk, if_neg (by omega)]
    · rw [upd_ne _ _ (by omega)]
      exact gF_get D0 D k v h1 (by omega) (by omega)
theorem RingIs.made {w : World} {base g last : Nat} {f : Nat → List (List Value) × Int} (h : RingIs w base g last f) : ∃ cur, w.heap[g]? = some (.cells cur 29 (0, 0)) := by
  obtain ⟨_, cur, h1, _⟩ := h
  exact ⟨cur, h1⟩
/-- What is done to one ring leaves another one as it was. -/
theorem RingIs.other {w w' : World} {base g last g2 : Nat} {f : Nat → List (List Value) × Int} (h : RingIs w base g last f) (hg : w.grownBy w' (some g2)) (hne : g ≠ g2) (hm : ∃ cur, w.heap[g2]? = some (.cells cur 29 (0, 0))) : RingIs w' base g last f := by
  obtain ⟨cur2, hm⟩ := hm
  obtain ⟨h0, cur, h1, h2, h3, h4⟩ := h
  refine ⟨h0, cur, by rw [hg.block g (Array.getElem?_eq_some_iff.1 h1).1 (fun e => hne (by cases e; rfl))]; exact h1, h2, h3, fun j hj => ?_⟩
  obtain ⟨A, c, a1, a2, a3, a4, a5⟩ := h4 j hj
  exact ⟨A, c, a1, a2, a3.kept_ hg hm (by decide), a4, a5⟩
theorem RingIs.base_' {w : World} {base base' g last : Nat} {f : Nat → List (List Value) × Int} (h : RingIs w base g last f) (hb : base' ≤ base) : RingIs w base' g last f := h.base_ hb
/-- Both rings, and what lies around. -/
def Both (w0 w : World) (b : Nat) (A : Option Addr) (n c : Nat) (x : Int) (D : List (List Value) × Int) (ga gb la lb : Nat) : Prop :=
  RingIs w w0.heap.size ga la (gF D D la) ∧ RingIs w w0.heap.size gb lb (gF ([], 0) D lb) ∧ ga ≠ gb ∧ b < ga ∧ b < gb ∧ Two w b 24 (.slice A n c) (.int .i64 x) ∧ w0.grownBy w none
theorem Both.grown0 {w0 w w' : World} {b n c ga gb la lb : Nat} {A : Option Addr} {x : Int} {D : List (List Value) × Int} (h : Both w0 w b A n c x D ga gb la lb) (hg : w.grownBy w' none) : Both w0 w' b A n c x D ga gb la lb :=
  ⟨h.1.grown0 hg, h.2.1.grown0 hg, h.2.2.1, h.2.2.2.1, h.2.2.2.2.1, h.2.2.2.2.2.1.kept hg (by simp), grown_trans h.2.2.2.2.2.2 hg⟩
theorem pushA {w0 w : World} {b n c ga gb la lb : Nat} {A : Option Addr} {x : Int} {L : List (List Value)} (h : Both w0 w b A n c x (L, x) ga gb la lb) (h1 : 1 ≤ la) (hb : la ≤ 1000) (hL : ∀ y ∈ L, OkAll nodeLs y) (hl : L.length = n) (hn : n ≤ 100000) (hr : Reads w0 w0.heap.size A L.flatten) :
    Calls Try.prog 9 #[.pointer (some ⟨ga, 0, none⟩), .agg #[.slice A n c, .int .i64 x]] w fun e w' => (∃ v, e = .returned v) ∧ Both w0 w' b A n c x (L, x) ga gb (la + 1) lb := by
  obtain ⟨hA, hB, hne, hba, hbb, hT, hg⟩ := h
  have hge := hA.ge
  refine (push_any w w0.heap.size ga la _ A n c L x hA h1 hg.size (by omega) hL hl hn (fun W hgW => by
    have := hr.grown0 (grown_new hg hgW (fun y e => by cases e; exact hge))
    exact this.more (grown_new hg hgW (fun y e => by cases e; exact hge)).size)).mono fun e w' ⟨he, hR, hg2⟩ => ⟨⟨_, he⟩, ?_, hB.other hg2 (Ne.symm hne) hA.made, hne, hba, hbb, hT.kept hg2 (fun e => by cases e; omega), grown_new hg hg2 (fun y e => by cases e; exact hge)⟩
  have e1 : gF (L, x) (L, x) (la + 1) = upd (gF (L, x) (L, x) la) ((la + 1) % 4) (L, x) := by
    rw [gF]; simp
  rw [e1]
  exact hR
theorem pushB {w0 w : World} {b n c ga gb la lb : Nat} {A : Option Addr} {x : Int} {L : List (List Value)} (h : Both w0 w b A n c x (L, x) ga gb la lb) (h1 : 1 ≤ lb) (hb : lb ≤ 1000) (hL : ∀ y ∈ L, OkAll nodeLs y) (hl : L.length = n) (hn : n ≤ 100000) (hr : Reads w0 w0.heap.size A L.flatten) :
    Calls Try.prog 9 #[.pointer (some ⟨gb, 0, none⟩), .agg #[.slice A n c, .int .i64 x]] w fun e w' => (∃ v, e = .returned v) ∧ Both w0 w' b A n c x (L, x) ga gb la (lb + 1) := by
  obtain ⟨hA, hB, hne, hba, hbb, hT, hg⟩ := h
  have hge := hB.ge
  refine (push_any w w0.heap.size gb lb _ A n c L x hB h1 hg.size (by omega) hL hl hn (fun W hgW => by
    have := hr.grown0 (grown_new hg hgW (fun y e => by cases e; exact hge))
    exact this.more (grown_new hg hgW (fun y e => by cases e; exact hge)).size)).mono fun e w' ⟨he, hR, hg2⟩ => ⟨⟨_, he⟩, hA.other hg2 hne hB.made, ?_, hne, hba, hbb, hT.kept hg2 (fun e => by cases e; omega), grown_new hg hg2 (fun y e => by cases e; exact hge)⟩
  have e1 : gF ([], 0) (L, x) (lb + 1) = upd (gF ([], 0) (L, x) lb) ((lb + 1) % 4) (L, x) := by
    rw [gF, if_neg (by omega)]
  rw [e1]
  exact hR
theorem okAll_nil : ∀ y ∈ ([] : List (List Value)), OkAll nodeLs y := fun y hy => by simp at hy
/-- The version that is asked of the second ring. -/
theorem getB {w0 w : World} {b n c ga gb la lb : Nat} {A : Option Addr} {x : Int} {D : List (List Value) × Int} (h : Both w0 w b A n c x D ga gb la lb) (h1 : 1 ≤ lb) (hb : lb ≤ 4) :
    Calls Try.prog 10 #[.pointer (some ⟨gb, 0, none⟩), .int .i64 1] w fun e w' => ∃ A', e = .returned (.tuple #[.agg #[.slice A' 0 0, .int .i64 0], .int .i64 0]) ∧ w.grownBy w' none := by
  have hf : firstOf lb = max 1 (lb - 3) := if_neg (by omega)
  have := get_yes w w0.heap.size gb lb 1 _ h.2.1 h1 (by omega) (by omega) h1
  rw [gF_get _ _ lb 1 (by omega) h1 (by omega), if_pos rfl] at this
  exact this.mono fun e w' ⟨A', h1, _, h3⟩ => ⟨A', h1, h3⟩
theorem same_empty (A1 : Option Addr) (w : World) : Calls Try.prog 11 #[.agg #[.slice A1 0 0, .int .i64 0], .agg #[.slice none 0 0, .int .i64 0]] w fun e w' => e = .returned (.bool true) ∧ w.grownBy w' none := by
  have := dsame_any A1 0 0 [] 0 none 0 0 [] 0 w okAll_nil okAll_nil rfl rfl Reads.nil_ Reads.nil_ (by omega) (by omega)
  exact this
theorem getA {w0 w : World} {b n c ga gb la lb : Nat} {A : Option Addr} {x : Int} {L : List (List Value)} (h : Both w0 w b A n c x (L, x) ga gb la lb) (h1 : 1 ≤ la) (hb : la ≤ 1000) (hl : L.length = n) (v : Int) (hv : v = (la : Int)) :
    Calls Try.prog 10 #[.pointer (some ⟨ga, 0, none⟩), .int .i64 v] w fun e w' => ∃ A', e = .returned (.tuple #[.agg #[.slice A' n n, .int .i64 x], .int .i64 0]) ∧ Own w' w.heap.size 59 51 A' n n L.flatten ∧ w.grownBy w' none := by
  subst hv
  have hf : firstOf la = max 1 (la - 3) := if_neg (by omega)
  have := get_yes w w0.heap.size ga la la _ h.1 h1 (by omega) (by omega) (Nat.le_refl _)
  rw [gF_get _ _ la la h1 (Nat.le_refl _) (by omega)] at this
  have e : (if la = 1 then (L, x) else (L, x)) = (L, x) := by split <;> rfl
  rw [e] at this
  rw [← hl]
  exact this
set_option maxRecDepth 100000 in
set_option maxHeartbeats 4000000 in
theorem RingTwo_walk (w : World) (A : Option Addr) (n c : Nat) (L : List (List Value)) (x : Int) (_wx : (Lit.int .i64 x).wf = true) (R : IsNodes w A n c L) (p : Int) (wp : (Lit.int .i64 p).wf = true) (q : Int) (wq : (Lit.int .i64 q).wf = true) :
    Calls Try.prog 7 #[.agg #[.slice A n c, .int .i64 x], .int .i64 p, .int .i64 q] w fun e w' => e = .returned (.bool true) ∧ Below w.heap.size w w' := by
  have hlen := R.len_
  obtain ⟨hL1, hL2, _⟩ := R.size_
  have hr : Reads w w.heap.size A L.flatten := R.2.2.2.2
  have hp0 : 0 ≤ IntKind.u64.wrap p := by rw [IntKind.wrap_u64]; omega
  have hq0 : 0 ≤ IntKind.u64.wrap q := by rw [IntKind.wrap_u64]; omega
  obtain ⟨i0, hi0⟩ : ∃ i0 : Nat, (IntKind.u64.wrap p).tmod 21 = i0 := by
    rw [Int.tmod_eq_emod_of_nonneg hp0]
    exact ⟨(IntKind.u64.wrap p % 21).toNat, by omega⟩
  obtain ⟨m0, hm0⟩ : ∃ m0 : Nat, (IntKind.u64.wrap q).tmod 21 = m0 := by
    rw [Int.tmod_eq_emod_of_nonneg hq0]
    exact ⟨(IntKind.u64.wrap q % 21).toNat, by omega⟩
  have hib : i0 ≤ 20 := by rw [Int.tmod_eq_emod_of_nonneg hp0] at hi0; omega
  have hmb : m0 ≤ 20 := by rw [Int.tmod_eq_emod_of_nonneg hq0] at hm0; omega
  have hi1 : (IntKind.u64.wrap p) % 21 = i0 := by rw [← Int.tmod_eq_emod_of_nonneg hp0]; exact hi0
  have hm1 : (IntKind.u64.wrap q) % 21 = m0 := by rw [← Int.tmod_eq_emod_of_nonneg hq0]; exact hm0
  have CG := Lib.hid (fun W (hg : w.grownBy W none) => great_any A n c L x W hL2 hL1 ((hr.grown0 hg).more hg.size) (by omega))
  have bT := Two.new w 24 (.slice A n c) (.int .i64 x)
  have hgB := World.grownBy_alloc w (.cells #[.slice A n c, .int .i64 x] 24) none
  clear R wp wq hp0 hq0
  generalize hW : w.alloc (.cells #[.slice A n c, .int .i64 x] 24) = W0 at *
  have hW' := Lib.hid hW
  clear hW
  go_enter Try.func7, Try.ntmps7
  go_wp2_with fail
  rw [hW'.out]
  refine (rawake_any _).mono ?_; rintro e w1 ⟨rfl, hg1⟩
  have bT1 := bT.kept hg1 (by simp)
  have hgA := grown_trans hgB hg1
  have d0 := bT1.c0
  have d1 := bT1.c1
  clear bT hg1
  go_wp2_with fail
  refine (CG.out _ hgA).mono ?_; rintro e w2 ⟨b, rfl, hb, hg2⟩
  have bT2 := bT1.kept hg2 (by simp)
  have hgC := grown_trans hgA hg2
  clear bT1 hgA hg2 CG d0 d1
  cases b with
  | true =>
    go_wp2_with fail
    go_ret
    exact ⟨rfl, grown_below hgC⟩
  | false =>
    have hn := hb rfl
    clear hb
    have d0 := bT2.c0
    have d1 := bT2.c1
    have CN := Lib.hid (new_any w2 A n c L x hL2 hL1 (by omega) ((hr.grown0 hgC).more hgC.size))
    go_wp2_with fail
    refine CN.out.mono ?_; rintro e w3 ⟨ga, rfl, hRa, hg3⟩
    have CM := Lib.hid (new_any w3 none 0 0 [] 0 okAll_nil rfl (by omega) Reads.nil_)
    go_wp2_with fail
    refine CM.out.mono ?_; rintro e w4 ⟨gb, rfl, hRb, hg4⟩
    have hBo : Both w w4 w.heap.size A n c x (L, x) ga gb 1 1 := by
      have h1 := hRa.lt
      have h2 := hRa.ge
      have h3 := hRb.ge
      have h4 := hgC.size
      have h5 := hg3.size
      have h6 := bT2.lt
      refine ⟨(hRa.grown0 hg4).base_ h4, hRb.base_ (by omega), by omega, by omega, by omega, (bT2.kept hg3 (by simp)).kept hg4 (by simp), grown_trans hgC (grown_trans hg3 hg4)⟩
    clear hRa hRb hg3 hg4 bT2 CN CM d0 d1 hgC hgB
    have hBh := Lib.hid hBo
    clear hBo
    go_wp2_with fail
    go_loopw [9] (fun u wr => ∃ k : Nat, (k ≤ i0 ∨ k ≤ m0) ∧ u = .int .i64 (k : Int) ∧ Both w wr w.heap.size A n c x (L, x) ga gb (1 + min k i0) (1 + min k m0)) (fun u _ => 40 - (intOf u).toNat)
    case atStart => exact ⟨0, by omega, rfl, by simpa using hBh.out⟩
    case round =>
      obtain ⟨k, hk, rfl, hB⟩ := hrel
      have hBr := Lib.hid hB
      have d0 := hB.2.2.2.2.2.1.c0
      have d1 := hB.2.2.2.2.2.1.c1
      clear hB
      by_cases hki : k < i0
      · have CA := Lib.hid (pushA hBr.out (by omega) (by omega) hL2 hL1 (by omega) hr)
        have e1 : 1 + min k i0 + 1 = 1 + min (k + 1) i0 := by omega
        rw [e1] at CA
        by_cases hkm : k < m0
        · have hde1 : decide ((k : Int) < (i0 : Int)) = true := by simp; omega
          have hde2 : decide ((k : Int) < (m0 : Int)) = true := by simp; omega
          clear e1
          go_wp2_with fail
          refine CA.out.mono ?_; rintro e w5 ⟨⟨v5, rfl⟩, hB5⟩
          have CB := Lib.hid (pushB hB5 (by omega) (by omega) hL2 hL1 (by omega) hr)
          have e2 : 1 + min k m0 + 1 = 1 + min (k + 1) m0 := by omega
          rw [e2] at CB
          have d2 := hB5.2.2.2.2.2.1.c0
          have d3 := hB5.2.2.2.2.2.1.c1
          clear d0 d1 e2 hB5 CA
          go_wp2_with fail
          refine CB.out.mono ?_; rintro e w6 ⟨⟨v6, rfl⟩, hB6⟩
          clear d2 d3 CB
          go_wp2_with fail
          go_roundw
          case rel => exact ⟨k + 1, by omega, by go_num, hB6⟩
          case measure => simp [intOf]; omega
        · have hde1 : decide ((k : Int) < (i0 : Int)) = true := by simp; omega
          have hde2 : decide ((k : Int) < (m0 : Int)) = false := by simp; omega
          have e2 : 1 + min k m0 = 1 + min (k + 1) m0 := by omega
          rw [e2] at CA
          clear e1 e2
          go_wp2_with fail
          refine CA.out.mono ?_; rintro e w5 ⟨⟨v5, rfl⟩, hB5⟩
          clear d0 d1 CA
          go_wp2_with fail
          go_roundw
          case rel => exact ⟨k + 1, by omega, by go_num, hB5⟩
          case measure => simp [intOf]; omega
      · by_cases hkm : k < m0
        · have CB := Lib.hid (pushB hBr.out (by omega) (by omega) hL2 hL1 (by omega) hr)
          have e1 : 1 + min k m0 + 1 = 1 + min (k + 1) m0 := by omega
          have e2 : 1 + min k i0 = 1 + min (k + 1) i0 := by omega
          rw [e1, e2] at CB
          have hde1 : decide ((k : Int) < (i0 : Int)) = false := by simp; omega
          have hde2 : decide ((k : Int) < (m0 : Int)) = true := by simp; omega
          clear e1 e2
          go_wp2_with fail
          refine CB.out.mono ?_; rintro e w5 ⟨⟨v5, rfl⟩, hB5⟩
          clear d0 d1 CB
          go_wp2_with fail
          go_roundw
          case rel => exact ⟨k + 1, by omega, by go_num, hB5⟩
          case measure => simp [intOf]; omega
        · have hde1 : decide (k < i0) = false := by simp; omega
          have hde2 : decide (k < m0) = false := by simp; omega
          have e1 : 1 + min k i0 = i0 + 1 := by omega
          have e2 : 1 + min k m0 = m0 + 1 := by omega
          rw [e1, e2] at hBr
          have e3 : ((i0 + 1 : Nat) : Int) = (i0 : Int) + 1 := by omega
          have e4 : ((m0 + 1 : Nat) : Int) = (m0 : Int) + 1 := by omega
          have CL := Lib.hid (fun V (h : wr.grownBy V none) => last_any V w.heap.size ga (i0 + 1) _ (hBr.out.grown0 h).1)
          have CM := Lib.hid (fun V (h : wr.grownBy V none) => last_any V w.heap.size gb (m0 + 1) _ (hBr.out.grown0 h).2.1)
          rw [e3] at CL
          rw [e4] at CM
          have CGa := Lib.hid (fun V (h : wr.grownBy V none) => getA (hBr.out.grown0 h) (by omega) (by omega) hL1 ((i0 : Int) + 1) (by omega))
          have HBx := Lib.hid (fun V (h : wr.grownBy V none) => (hBr.out.grown0 h).2.2.2.2.2.1)
          have hs1 : (((i0 : Int) + 1) != ((i0 : Int) + 1)) = false := by simp
          have hs2 : (((m0 : Int) + 1) != ((m0 : Int) + 1)) = false := by simp
          have hgw := hBr.out.2.2.2.2.2.2
          have CD := Lib.hid (fun A' V (h : wr.grownBy V none) (r1 : Reads V V.heap.size A' L.flatten) => dsame_any A' n n L x A n c L x V hL2 hL2 hL1 hL1 r1 ((hr.grown0 (grown_trans hgw h)).more (grown_trans hgw h).size) (by omega) (by omega))
          have hdd : docEq L x L x = true := by unfold docEq; rw [(nodesEq_iff hL2 hL2).2 rfl]; simp
          rw [hdd] at CD
          have hgwh := Lib.hid hgw
          clear e1 e2 e3 e4 d0 d1 hdd hgw hki hkm hi0 hi1 hm0 hm1
          go_wp2_with fail
          refine (CL.out _ (World.grownBy.refl _ _)).mono ?_; rintro e w5 ⟨rfl, rfl⟩
          go_wp2_with fail
          refine (CGa.out _ (World.grownBy.refl _ _)).mono ?_; rintro e w5 ⟨A5, rfl, ho5, hg5⟩
          have b5 := Two.new w5 24 (.slice A5 n n) (.int .i64 x)
          have ho6 := ho5.alloc (.cells #[.slice A5 n n, .int .i64 x] 24)
          have hgE := grown_trans hg5 (World.grownBy_alloc w5 (.cells #[.slice A5 n n, .int .i64 x] 24) none)
          clear ho5 hg5
          by_cases hm4 : m0 < 4
          · have CGb := Lib.hid (fun V (h : wr.grownBy V none) => getB (hBr.out.grown0 h) (by omega) (by omega))
            clear hBr
            go_wp2_with fail
            refine (CGb.out _ hgE).mono ?_; rintro e w6 ⟨A6, rfl, hg6⟩
            have b6 := Two.new w6 24 (.slice A6 0 0) (.int .i64 0)
            have b5' := (b5.kept hg6 (by simp)).kept (World.grownBy_alloc w6 (.cells #[.slice A6 0 0, .int .i64 0] 24) none) (by simp)
            have ho7 := (ho6.grown0 hg6).alloc (.cells #[.slice A6 0 0, .int .i64 0] 24)
            have hgF := grown_trans (grown_trans hgE hg6) (World.grownBy_alloc w6 (.cells #[.slice A6 0 0, .int .i64 0] 24) none)
            clear b5 ho6 hgE hg6
            go_wp2_with fail
            refine (CL.out _ hgF).mono ?_; rintro e w7 ⟨rfl, rfl⟩
            go_wp2_with fail
            refine (CM.out _ hgF).mono ?_; rintro e w7 ⟨rfl, rfl⟩
            have x0 := b5'.c0
            have x1 := b5'.c1
            have x2 := (HBx.out _ hgF).c0
            have x3 := (HBx.out _ hgF).c1
            have CDD := Lib.hid (CD.out A5 _ hgF ho7.reads)
            go_wp2_with fail
            refine CDD.out.mono ?_; rintro e w8 ⟨rfl, hg8⟩
            have x4 := (b6.kept hg8 (by simp)).c0
            have x5 := (b6.kept hg8 (by simp)).c1
            clear x0 x1 x2 x3 CDD
            go_wp2_with fail
            refine (same_empty A6 _).mono ?_; rintro e w9 ⟨rfl, hg9⟩
            go_wp2
            go_ret
            exact ⟨rfl, grown_below (grown_trans hgwh.out (grown_trans hgF (grown_trans hg8 hg9)))⟩
          · have CGb := Lib.hid (fun V (h : wr.grownBy V none) => get_none V w.heap.size gb (m0 + 1) 1 _ (hBr.out.grown0 h).2.1 (by omega) (by omega) (.inl (by
              have hf : firstOf (m0 + 1) = max 1 (m0 + 1 - 3) := if_neg (by omega)
              omega)))
            have hd4 : decide ((m0 : Int) < 4) = false := by simp; omega
            clear hBr
            go_wp2_with fail
            refine (CGb.out _ hgE).mono ?_; rintro e w6 ⟨rfl, hg6⟩
            have b5' := (b5.kept hg6 (by simp)).kept (World.grownBy_alloc w6 (.cells #[.slice none 0 0, .int .i64 0] 24) none) (by simp)
            have ho7 := (ho6.grown0 hg6).alloc (.cells #[.slice none 0 0, .int .i64 0] 24)
            have hgF := grown_trans (grown_trans hgE hg6) (World.grownBy_alloc w6 (.cells #[.slice none 0 0, .int .i64 0] 24) none)
            clear b5 ho6 hgE hg6
            go_wp2_with fail
            refine (CL.out _ hgF).mono ?_; rintro e w7 ⟨rfl, rfl⟩
            go_wp2_with fail
            refine (CM.out _ hgF).mono ?_; rintro e w7 ⟨rfl, rfl⟩
            have x0 := b5'.c0
            have x1 := b5'.c1
            have x2 := (HBx.out _ hgF).c0
            have x3 := (HBx.out _ hgF).c1
            have CDD := Lib.hid (CD.out A5 _ hgF ho7.reads)
            go_wp2_with fail
            refine CDD.out.mono ?_; rintro e w8 ⟨rfl, hg8⟩
            clear x0 x1 x2 x3 CDD
            go_wp2
            go_ret
            exact ⟨rfl, grown_below (grown_trans hgwh.out (grown_trans hgF hg8))⟩
end Go.Proofs.Ytkailfigoogfeaa
