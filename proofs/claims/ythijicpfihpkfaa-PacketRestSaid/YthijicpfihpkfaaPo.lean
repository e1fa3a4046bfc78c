/- What a datagram opens to, in plain words; the walks of the document's Open and of packet's. -/
import Derived.Test.YthijicpfihpkfaaPk
import Derived.Test.YthijicpfihpkfaaRq
import Derived.Defers
import Derived.Recover
namespace Go.Proofs.Ythijicpfihpkfaa
open Go Go.RowKit
/-- What stands within a datagram with its sum: its length's word, and as many bytes. -/
def innL (a : List Nat) : Option (List Nat) :=
  match getL a with
  | none => none
  | some (n, u) => if n = a.length - u then some (a.drop u) else none
def openL (b : List Nat) : Option (List Nat) := if b.length ≤ 128 ∧ wholeB b = true then innL (b.take (b.length - 4)) else none
def openV (b : List Nat) : List Nat := (openL b).getD []
def openE (b : List Nat) : Int := if (openL b).isSome = true then 0 else 250
theorem innL_put (m : List Nat) (hm : m.length < 1000000) : innL (putL m.length ++ m) = some m := by
  unfold innL
  rw [getL_putL m.length (by omega) m]
  simp only
  rw [if_pos (by rw [List.length_append]; omega), List.drop_left]
theorem innL_some {a m : List Nat} (hb : Byt a) (h : innL a = some m) : a = putL m.length ++ m := by
  unfold innL at h
  cases hg : getL a with
  | none => rw [hg] at h; simp at h
  | some p =>
    obtain ⟨n, u⟩ := p
    rw [hg] at h
    simp only at h
    split at h
    · rename_i hn
      cases h
      obtain ⟨e1, e2, e3, _⟩ := getL_put hb hg
      rw [List.length_drop, ← hn, e1, List.take_append_drop]
    · cases h
theorem whole_len {b : List Nat} (h : wholeB b = true) : 4 ≤ b.length := by
  unfold wholeB at h
  simp only [Bool.and_eq_true, decide_eq_true_eq] at h
  exact h.1
theorem whole_eq {b : List Nat} (h : wholeB b = true) : withs (b.take (b.length - 4)) = b := by
  unfold wholeB at h
  simp only [Bool.and_eq_true, beq_iff_eq] at h
  exact h.2
theorem withs_take (l : List Nat) : (withs l).take ((withs l).length - 4) = l := by
  rw [withs_len, Nat.add_sub_cancel]
  unfold withs
  exact List.take_left
theorem openL_seal {m : List Nat} (hm : m.length ≤ 123) : openL (sealL m) = some m := by
  unfold openL
  rw [if_pos ⟨(sealL_fits m).2 hm, by unfold sealL; exact whole_withs _⟩]
  unfold sealL
  rw [withs_take]
  exact innL_put m (by omega)
theorem openL_some {b m : List Nat} (hb : Byt b) (h : openL b = some m) : b = sealL m ∧ m.length ≤ 123 := by
  unfold openL at h
  split at h
  · rename_i hc
    have h1 := innL_some (byt_take hb _) h
    have h2 := whole_eq hc.2
    have h3 : b = sealL m := by
      unfold sealL
      rw [← h1, h2]
    exact ⟨h3, (sealL_fits m).1 (by rw [← h3]; exact hc.1)⟩
  · cases h
/-- The document's way: of which bytes within is this the datagram? -/
theorem openL_first {b : List Nat} (hb : Byt b) (h5 : 5 ≤ b.length) (h128 : b.length ≤ 128) : openL b = if (sealL ((b.drop 1).take (b.length - 5)) == b) = true then some ((b.drop 1).take (b.length - 5)) else none := by
  have hl : ((b.drop 1).take (b.length - 5)).length = b.length - 5 := by rw [List.length_take, List.length_drop]; omega
  by_cases hq : sealL ((b.drop 1).take (b.length - 5)) = b
  · rw [if_pos (by simpa using hq)]
    have := openL_seal (m := (b.drop 1).take (b.length - 5)) (by omega)
    rwa [hq] at this
  · rw [if_neg (by simpa using hq)]
    cases ho : openL b with
    | none => rfl
    | some m =>
      obtain ⟨h1, h2⟩ := openL_some hb ho
      exfalso
      apply hq
      have hml : m.length = b.length - 5 := by
        have := sealL_len5 h2
        rw [← h1] at this
        omega
      have hm : (b.drop 1).take (b.length - 5) = m := by
        rw [← hml, h1]
        unfold sealL withs
        rw [putL_lo (by omega)]
        simp only [List.cons_append, List.nil_append, List.drop_succ_cons, List.drop_zero]
        exact List.take_left
      rw [hm, ← h1]
theorem openL_small {b : List Nat} (hb : Byt b) (h5 : b.length < 5) : openL b = none := by
  cases ho : openL b with
  | none => rfl
  | some m =>
    obtain ⟨h1, h2⟩ := openL_some hb ho
    have := sealL_len5 h2
    rw [← h1] at this
    omega
theorem openL_great {b : List Nat} (h : 128 < b.length) : openL b = none := by
  unfold openL
  rw [if_neg (by omega)]
/-- With two bytes of length it is none. -/
theorem second_no (b m : List Nat) (hm : m.length + 6 = b.length) (h : m.length ≤ 123) : (sealL m == b) = false := by
  have := sealL_len5 h
  by_cases e : sealL m = b
  · rw [e] at this; omega
  · simpa using e
/-- A rest of a row of bytes of the call's own. -/
def Tail (w : World) (base : Nat) (A : Option Addr) (l : List Nat) : Prop :=
  0 < l.length → ∃ (g u n c : Nat) (ys : List Nat), A = some ⟨g, u, none⟩ ∧ Own w base 5 1 (some ⟨g, 0, none⟩) n c (ys.map byte) ∧ base ≤ g ∧ u + l.length ≤ n ∧ (ys.drop u).take l.length = l
theorem Tail.nil_ (w : World) (base : Nat) (A : Option Addr) : Tail w base A [] := fun h => absurd h (by simp)
theorem Tail.base_ {w : World} {base base' : Nat} {A : Option Addr} {l : List Nat} (h : Tail w base A l) (hb : base' ≤ base) : Tail w base' A l := fun hn => by
  obtain ⟨g, u, n, c, ys, h1, h2, h3, h4, h5⟩ := h hn
  exact ⟨g, u, n, c, ys, h1, h2.base_ hb, by omega, h4, h5⟩
theorem Tail.grown0 {w w' : World} {base : Nat} {A : Option Addr} {l : List Nat} (h : Tail w base A l) (hg : w.grownBy w' none) : Tail w' base A l := fun hn => by
  obtain ⟨g, u, n, c, ys, h1, h2, h3, h4, h5⟩ := h hn
  exact ⟨g, u, n, c, ys, h1, h2.grown0 hg, h3, h4, h5⟩
theorem Own.tail {w : World} {base n c g : Nat} {l : List Nat} (h : Own w base 5 1 (some ⟨g, 0, none⟩) n c (l.map byte)) (hb : base ≤ g) {u : Nat} (hu : u ≤ n) : Tail w base (some ⟨g, u, none⟩) (l.drop u) := fun hn => by
  have hl : l.length = n := by have := h.len; simpa using this
  refine ⟨g, u, n, c, l, rfl, h, hb, by rw [List.length_drop]; omega, ?_⟩
  rw [List.take_of_length_le (Nat.le_refl _)]
theorem Tail.reads {w : World} {base : Nat} {A : Option Addr} {l : List Nat} (h : Tail w base A l) : Reads w w.heap.size A (l.map byte) := fun hn => by
  obtain ⟨g, u, n, c, ys, rfl, h2, h3, h4, h5⟩ := h (by simpa using hn)
  have hr := h2.reads
  have := (hr.drop (k := u) rfl).take l.length
  rw [← List.map_drop, ← List.map_take, h5] at this
  have e : (⟨g, 0, none⟩ : Addr).add u = ⟨g, u, none⟩ := by unfold Addr.add; split <;> simp_all
  rw [e] at this
  exact this hn
theorem openParts (ad : Addr) (n c : Nat) (l : List Nat) (u : Nat) (y s : List Nat) (w : World) (hl : l.length = n) (hr : Reads w w.heap.size (some ad) (l.map byte)) (hb : Byt l) (hn : n ≤ 128) (hu : u ≤ 2) (hum : u + 4 ≤ n) (hy : y = (l.drop u).take (n - 4 - u)) (hs : s = sealL y) :
    (∀ m c' W, m = n - 4 - u → w.grownBy W none → Calls Try.prog 15 #[.slice (some (ad.add u)) m c'] W fun e w' => ∃ A' c', e = .returned (.slice A' m c') ∧ Own w' W.heap.size 5 1 A' m c' (y.map byte) ∧ W.grownBy w' none) ∧
    (∀ A1 m c1 W, m = n - 4 - u → Reads W W.heap.size A1 (y.map byte) → Calls Try.prog 46 #[.slice A1 m c1] W fun e w' => ∃ A' c', e = .returned (.slice A' s.length c') ∧ Own w' W.heap.size 5 1 A' s.length c' (s.map byte) ∧ W.grownBy w' none) ∧
    (∀ A1 c1 W b, (s == l) = b → Reads W W.heap.size A1 (s.map byte) → w.grownBy W none → Calls Try.prog 17 #[.slice A1 s.length c1, .slice (some ad) n c] W fun e w' => e = .returned (.bool b) ∧ W.grownBy w' none) := by
  have hyl : y.length = n - 4 - u := by rw [hy, List.length_take, List.length_drop]; omega
  have hyb : Byt y := by rw [hy]; exact byt_take (fun x hx => hb x (List.mem_of_mem_drop hx)) _
  have hsl : s.length ≤ 1000 := by
    have h2 := putL_len10 y.length (by omega)
    rw [hs, sealL_len]
    omega
  refine ⟨fun m c' W hm hg => ?_, fun A1 m c1 W hm hrr => ?_, fun A1 c1 W b hbb hrr hg => ?_⟩
  · exact copy_any (some (ad.add u)) m c' y W w.heap.size (by omega) (by
      have := ((hr.grown0 hg).drop (k := u) rfl).take (n - 4 - u)
      rwa [← List.map_drop, ← List.map_take, ← hy] at this) (by omega)
  · rw [hs]
    exact made_any A1 m c1 y W (by omega) hrr hyb (by omega)
  · exact same_lit A1 (some ad) s.length c1 n c s l b hbb W W.heap.size w.heap.size rfl hl hrr (hr.grown0 hg) (by omega) (by omega)
set_option maxHeartbeats 1000000 in
theorem ropen_any (A : Option Addr) (n c : Nat) (l : List Nat) (w : World) (hl : l.length = n) (hr : Reads w w.heap.size A (l.map byte)) (hb : Byt l) (hn : n ≤ 800000) (hnc : n ≤ c) (hc : c ≤ 9223372036854775807) :
    Calls Try.prog 37 #[.slice A n c] w fun e w' => ∃ A' c', e = .returned (.tuple #[.slice A' (openV l).length c', .int .i64 (openE l)]) ∧ Reads w' w'.heap.size A' ((openV l).map byte) ∧ w.grownBy w' none := by
  by_cases hbig : 128 < n
  · have hv : openV l = [] := by unfold openV; rw [openL_great (by omega)]; rfl
    have he : openE l = 250 := by unfold openE; rw [openL_great (by omega)]; rfl
    rw [hv, he]
    clear hv he
    have hd : decide ((5 : Int) ≤ (n : Int)) = true := by simp; omega
    go_enter Try.func37, Try.ntmps37
    go_wp2_with fail
    refine wp_loop_rounds 1 ?_
    rw [rounds_succ]
    go_wp2_with fail
    go_ret2
    exact ⟨none, 0, rfl, Reads.nil_, World.grownBy.refl _ _⟩
  by_cases hsm : n < 5
  · have hv : openV l = [] := by unfold openV; rw [openL_small hb (by omega)]; rfl
    have he : openE l = 250 := by unfold openE; rw [openL_small hb (by omega)]; rfl
    rw [hv, he]
    clear hv he
    have hd : decide ((5 : Int) ≤ (n : Int)) = false := by simp; omega
    go_enter Try.func37, Try.ntmps37
    go_wp2_with fail
    refine wp_loop_rounds 1 ?_
    rw [rounds_succ]
    go_wp2_with fail
    go_ret2
    exact ⟨none, 0, rfl, Reads.nil_, World.grownBy.refl _ _⟩
  obtain ⟨ad, rfl⟩ : ∃ ad, A = some ad := by
    obtain ⟨ad, e, _⟩ := hr.at_ (k := 0) (by simp; omega)
    exact ⟨ad, e⟩
  obtain ⟨y1, hy1⟩ : ∃ y, y = (l.drop 1).take (n - 4 - 1) := ⟨_, rfl⟩
  obtain ⟨s1, hs1⟩ : ∃ s, s = sealL y1 := ⟨_, rfl⟩
  have P1 := Lib.hid (openParts ad n c l 1 y1 s1 w hl hr hb (by omega) (by omega) (by omega) hy1 hs1)
  have hl1 := Lib.hid (show y1.length = n - 4 - 1 by rw [hy1, List.length_take, List.length_drop]; omega)
  have hfirst := openL_first hb (by omega) (by omega)
  rw [show l.length - 5 = n - 4 - 1 by omega, ← hy1, ← hs1] at hfirst
  have hd : decide ((5 : Int) ≤ (n : Int)) = true := by simp; omega
  cases hq : (s1 == l) with
  | true =>
    rw [hq, if_pos rfl] at hfirst
    have hv : openV l = y1 := by unfold openV; rw [hfirst]; rfl
    have he : openE l = 0 := by unfold openE; rw [hfirst]; rfl
    rw [hv, he, hl1.out]
    have hq' := Lib.hid hq
    clear hv he hq hfirst hl hr hb hy1 hs1
    go_enter Try.func37, Try.ntmps37
    go_wp2_with fail
    refine wp_loop_rounds 3 ?_
    rw [rounds_succ]
    go_wp2_with fail
    refine (P1.out.1 _ _ _ (by omega) (World.grownBy.refl _ _)).mono ?_; rintro e w1 ⟨A1, c1, rfl, hown1, hg1⟩
    go_wp2_with fail
    refine (P1.out.2.1 _ _ _ _ (by omega) hown1.reads).mono ?_; rintro e w2 ⟨A2, c2, rfl, hown2, hg2⟩
    go_wp2_with fail
    refine (P1.out.2.2 _ _ _ true hq'.out hown2.reads (grown_trans hg1 hg2)).mono ?_; rintro e w3 ⟨rfl, hg3⟩
    go_wp2_with fail
    go_ret2
    exact ⟨A1, c1, rfl, ((hown1.grown0 hg2).grown0 hg3).reads, grown_trans (grown_trans hg1 hg2) hg3⟩
  | false =>
    rw [hq, if_neg (by simp)] at hfirst
    have hv : openV l = [] := by unfold openV; rw [hfirst]; rfl
    have he : openE l = 250 := by unfold openE; rw [hfirst]; rfl
    rw [hv, he]
    have hq' := Lib.hid hq
    clear hv he hq hfirst
    by_cases h6 : n = 5
    · have hd2 : decide ((6 : Int) ≤ (n : Int)) = false := by simp; omega
      clear hl hr hb hy1 hs1 h6
      go_enter Try.func37, Try.ntmps37
      go_wp2_with fail
      refine wp_loop_rounds 3 ?_
      rw [rounds_succ]
      go_wp2_with fail
      refine (P1.out.1 _ _ _ (by omega) (World.grownBy.refl _ _)).mono ?_; rintro e w1 ⟨A1, c1, rfl, hown1, hg1⟩
      go_wp2_with fail
      refine (P1.out.2.1 _ _ _ _ (by omega) hown1.reads).mono ?_; rintro e w2 ⟨A2, c2, rfl, hown2, hg2⟩
      go_wp2_with fail
      refine (P1.out.2.2 _ _ _ false hq'.out hown2.reads (grown_trans hg1 hg2)).mono ?_; rintro e w3 ⟨rfl, hg3⟩
      go_wp2_with fail
      rw [rounds_succ]
      go_wp2_with fail
      go_ret2
      exact ⟨none, 0, rfl, Reads.nil_, grown_trans (grown_trans hg1 hg2) hg3⟩
    · have hd2 : decide ((6 : Int) ≤ (n : Int)) = true := by simp; omega
      obtain ⟨y2, hy2⟩ : ∃ y, y = (l.drop 2).take (n - 4 - 2) := ⟨_, rfl⟩
      obtain ⟨s2, hs2⟩ : ∃ s, s = sealL y2 := ⟨_, rfl⟩
      have hl2 : y2.length = n - 4 - 2 := by rw [hy2, List.length_take, List.length_drop]; omega
      have hq2 := Lib.hid (second_no l y2 (by omega) (by omega))
      rw [← hs2] at hq2
      have P2 := Lib.hid (openParts ad n c l 2 y2 s2 w hl hr hb (by omega) (by omega) (by omega) hy2 hs2)
      have h6' : 6 ≤ n := by omega
      clear hl hr hb hy1 hs1 h6 hy2 hs2 hl2
      go_enter Try.func37, Try.ntmps37
      go_wp2_with fail
      refine wp_loop_rounds 3 ?_
      rw [rounds_succ]
      go_wp2_with fail
      refine (P1.out.1 _ _ _ (by omega) (World.grownBy.refl _ _)).mono ?_; rintro e w1 ⟨A1, c1, rfl, hown1, hg1⟩
      go_wp2_with fail
      refine (P1.out.2.1 _ _ _ _ (by omega) hown1.reads).mono ?_; rintro e w2 ⟨A2, c2, rfl, hown2, hg2⟩
      go_wp2_with fail
      refine (P1.out.2.2 _ _ _ false hq'.out hown2.reads (grown_trans hg1 hg2)).mono ?_; rintro e w3 ⟨rfl, hg3⟩
      have hgA := grown_trans (grown_trans hg1 hg2) hg3
      clear hown1 hown2 hg1 hg2 hg3
      go_wp2_with fail
      rw [rounds_succ]
      go_wp2_with fail
      refine (P2.out.1 _ _ _ (by omega) hgA).mono ?_; rintro e w4 ⟨A4, c4, rfl, hown4, hg4⟩
      go_wp2_with fail
      refine (P2.out.2.1 _ _ _ _ (by omega) hown4.reads).mono ?_; rintro e w5 ⟨A5, c5, rfl, hown5, hg5⟩
      go_wp2_with fail
      refine (P2.out.2.2 _ _ _ false hq2.out hown5.reads (grown_trans (grown_trans hgA hg4) hg5)).mono ?_; rintro e w6 ⟨rfl, hg6⟩
      go_wp2_with fail
      rw [rounds_succ]
      go_wp2_with fail
      go_ret2
      exact ⟨none, 0, rfl, Reads.nil_, grown_trans (grown_trans (grown_trans hgA hg4) hg5) hg6⟩
end Go.Proofs.Ythijicpfihpkfaa
