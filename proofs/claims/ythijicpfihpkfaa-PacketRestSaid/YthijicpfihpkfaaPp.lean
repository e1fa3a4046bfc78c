/- The walk of packet's Open. -/
import Derived.Test.YthijicpfihpkfaaPo
import Derived.RangeFuncNested
namespace Go.Proofs.Ythijicpfihpkfaa
open Go Go.RowKit
theorem open1_no (pe pm : Nat) (W : World) (hc : Boxed W pe 41 (.int .i64 0)) :
    CallsD Try.prog 49 #[.pointer (some ⟨pe, 0, none⟩), .pointer (some ⟨pm, 0, none⟩)] .returning W fun e u' w' => u' = .returning ∧ (e = .returned (.tuple #[]) ∧ w' = W) := by
  have h1 := hc.cell
  go_enter_d Try.func49, Try.ntmps49
  go_wp2
  go_end0
  exact ⟨rfl, rfl⟩
theorem open1_yes (pe pm : Nat) (v : Value) (W : World) (hc : Boxed W pe 41 (.int .i64 250)) (hm : Boxed W pm 22 v) :
    CallsD Try.prog 49 #[.pointer (some ⟨pe, 0, none⟩), .pointer (some ⟨pm, 0, none⟩)] .returning W fun e u' w' => u' = .returning ∧ (e = .returned (.tuple #[]) ∧ w' = W.setCell ⟨pm, 0, none⟩ (.slice none 0 0)) := by
  have h1 := hc.cell
  have h2 := hm.cell
  have h3 := hm.frozen
  go_enter_d Try.func49, Try.ntmps49
  go_wp2
  go_end0
  exact ⟨rfl, rfl⟩
def OpenPost (l : List Nat) (w : World) (e : Ending) (w' : World) : Prop :=
  ∃ A' c', e = .returned (.tuple #[.slice A' (openV l).length c', .int .i64 (openE l)]) ∧ Tail w' w.heap.size A' (openV l) ∧ w.grownBy w' none
theorem OpenPost.no {l : List Nat} (h : openL l = none) {w w' : World} {e : Ending} (he : e = .returned (.tuple #[.slice none 0 0, .int .i64 250])) (hg : w.grownBy w' none) : OpenPost l w e w' := by
  have hv : openV l = [] := by unfold openV; rw [h]; rfl
  have hE : openE l = 250 := by unfold openE; rw [h]; rfl
  unfold OpenPost
  rw [hv, hE]
  exact ⟨none, 0, he, Tail.nil_ _ _ _, hg⟩
theorem boxes2 (w : World) : ∃ W, (w.alloc (.cells #[.slice none 0 0] 22)).alloc (.cells #[.int .i64 0] 41) = W ∧ Boxed W w.heap.size 22 (.slice none 0 0) ∧ Boxed W (w.heap.size + 1) 41 (.int .i64 0) ∧ w.grownBy W none :=
  ⟨_, rfl, (Boxed.new w _ _).alloc _, by
    have := Boxed.new (w.alloc (.cells #[.slice none 0 0] 22)) 41 (.int .i64 0)
    rwa [World.size_alloc] at this, grown_trans (World.grownBy_alloc _ _ _) (World.grownBy_alloc _ _ _)⟩
set_option maxRecDepth 100000 in
set_option maxHeartbeats 1000000 in
/-- Where the sum does not fit, or there are too many bytes. -/
theorem open_no1 (A : Option Addr) (n c : Nat) (l : List Nat) (w : World) (hl : l.length = n) (hr : Reads w w.heap.size A (l.map byte)) (hb : Byt l) (hn : n ≤ 800000) (hnc : n ≤ c) (hc : c ≤ 9223372036854775807) (hno : openL l = none)
    (h : 129 < n ∨ n = 129 ∨ (n ≤ 128 ∧ wholeB l = false)) :
    Calls Try.prog 38 #[.slice A n c] w (OpenPost l w) := by
  have hmf : ∀ (fn : Fn) (first cap : Array Value) (w : World), (Instr.makeFunc fn first cap).run Try.prog w = .ok (.func fn first cap) w := fun _ _ _ _ => rfl
  have CW := Lib.hid (fun m W (hm : m ≤ n) (hg : w.grownBy W none) => without_any A m c (l.take m) W w.heap.size (by rw [List.length_take]; omega) (take_reads (hr.grown0 hg) m) (byt_take hb m) (by omega) (by omega) hc)
  have h0 := map_add0 A
  have h0' := map_add0' A
  obtain ⟨W2, hW2, bm, be, hg2⟩ := boxes2 w
  have hno' := Lib.hid hno
  have hW2' := Lib.hid hW2
  have hall := Lib.hid (show l.take n = l by rw [List.take_of_length_le (by omega)])
  have hk : ∃ m b, m ≤ n ∧ ((n ≤ 129 ∧ m = n) ∨ (129 ≤ n ∧ m = 129)) ∧ wholeB (l.take m) = b ∧ (b = true → 128 < n) := by
    rcases h with h | h | ⟨h, h2⟩
    · exact ⟨129, _, by omega, .inr ⟨by omega, rfl⟩, rfl, fun _ => by omega⟩
    · exact ⟨n, _, by omega, .inl ⟨by omega, rfl⟩, rfl, fun _ => by omega⟩
    · exact ⟨n, _, by omega, .inl ⟨by omega, rfl⟩, rfl, fun h3 => by rw [hall.out, h2] at h3; cases h3⟩
  obtain ⟨m, b, hm1, hm2, hq, hbn⟩ := hk
  have CM := Lib.hid (CW.out m W2 hm1 hg2)
  rw [hq] at CM
  clear hq hno hW2 hb hr hl h CW
  have hm3 : (n < 129 ∧ m = n) ∨ (n = 129 ∧ m = 129) ∨ (129 < n ∧ m = 129) := by omega
  clear hm2
  cases b with
  | true =>
    have h128 := hbn rfl
    clear hbn
    rcases hm3 with ⟨h1, rfl⟩ | ⟨rfl, rfl⟩ | ⟨h1, rfl⟩
    · exact absurd h128 (by omega)
    all_goals
      go_enter_defers Try.func38, Try.ntmps38
      go_wp2_with fail
      rw [hW2'.out]
      (with_reducible refine CM.out.mono ?_); rintro e w3 ⟨A3, m3, c3, rfl, hown3, hg3⟩
      have hbm := bm.kept hg3 (by simp)
      have hbe := be.kept hg3 (by simp)
      have hc1 := hbm.cell
      have hf1 := hbm.frozen
      have hc2 := hbe.cell
      have hf2 := hbe.frozen
      go_wp2_with fail
      have hgF := grown_put (grown_put (grown_put (grown_trans hg2 hg3) (Nat.le_refl _) 0 (.slice none 0 0)) (Nat.le_succ _) 0 (.int .i64 250)) (Nat.le_refl _) 0 (.slice none 0 0)
      have be4 := (hbe.other (B' := w.heap.size) (by omega) (.slice none 0 0)).set (.int .i64 250)
      have bm4 := (hbm.set (.slice none 0 0)).other (B' := w.heap.size + 1) (by omega) (.int .i64 250)
      refine leaves_cons (f := 49) (args := #[.pointer (some ⟨w.heap.size + 1, 0, none⟩), .pointer (some ⟨w.heap.size, 0, none⟩)]) (by simp) (by simp [go_sem]) ?_
      refine (open1_yes _ _ _ _ be4 bm4).mono ?_
      rintro e u' w'' ⟨rfl, rfl, rfl⟩
      have hc5 := (bm4.set (.slice none 0 0)).cell
      have hc6 := (be4.other (B' := w.heap.size) (by omega) (.slice none 0 0)).cell
      generalize (((w3.setCell ⟨w.heap.size, 0, none⟩ (.slice none 0 0)).setCell ⟨w.heap.size + 1, 0, none⟩ (.int .i64 250)).setCell ⟨w.heap.size, 0, none⟩ (.slice none 0 0)) = w5 at *
      refine ⟨.tuple #[.slice none 0 0, .int .i64 250], by simp [results, Try.results38, go_sem, hc5, hc6], OpenPost.no hno'.out rfl hgF⟩
  | false =>
    clear hbn
    rcases hm3 with ⟨h1, rfl⟩ | ⟨rfl, rfl⟩ | ⟨h1, rfl⟩
    all_goals
      go_enter_defers Try.func38, Try.ntmps38
      go_wp2_with fail
      rw [hW2'.out]
      (with_reducible refine CM.out.mono ?_); rintro e w3 ⟨A3, m3, c3, rfl, hown3, hg3⟩
      have hbm := bm.kept hg3 (by simp)
      have hbe := be.kept hg3 (by simp)
      have hc1 := hbm.cell
      have hf1 := hbm.frozen
      have hc2 := hbe.cell
      have hf2 := hbe.frozen
      go_wp2_with fail
      have hgF := grown_put (grown_put (grown_put (grown_trans hg2 hg3) (Nat.le_refl _) 0 (.slice none 0 0)) (Nat.le_succ _) 0 (.int .i64 250)) (Nat.le_refl _) 0 (.slice none 0 0)
      have be4 := (hbe.other (B' := w.heap.size) (by omega) (.slice none 0 0)).set (.int .i64 250)
      have bm4 := (hbm.set (.slice none 0 0)).other (B' := w.heap.size + 1) (by omega) (.int .i64 250)
      refine leaves_cons (f := 49) (args := #[.pointer (some ⟨w.heap.size + 1, 0, none⟩), .pointer (some ⟨w.heap.size, 0, none⟩)]) (by simp) (by simp [go_sem]) ?_
      refine (open1_yes _ _ _ _ be4 bm4).mono ?_
      rintro e u' w'' ⟨rfl, rfl, rfl⟩
      have hc5 := (bm4.set (.slice none 0 0)).cell
      have hc6 := (be4.other (B' := w.heap.size) (by omega) (.slice none 0 0)).cell
      generalize (((w3.setCell ⟨w.heap.size, 0, none⟩ (.slice none 0 0)).setCell ⟨w.heap.size + 1, 0, none⟩ (.int .i64 250)).setCell ⟨w.heap.size, 0, none⟩ (.slice none 0 0)) = w5 at *
      refine ⟨.tuple #[.slice none 0 0, .int .i64 250], by simp [results, Try.results38, go_sem, hc5, hc6], OpenPost.no hno'.out rfl hgF⟩
theorem getV0 (a : List Nat) : getV a 0 = getL a := by
  unfold getV
  by_cases h0 : a = []
  · subst h0; simp; rfl
  · have : 0 < a.length := List.length_pos_iff.2 h0
    rw [if_neg (by omega)]
    rfl
set_option maxRecDepth 100000 in
set_option maxHeartbeats 1000000 in
/-- Where there is no word, or not that of the bytes' number. -/
theorem open_no2 (A : Option Addr) (n c : Nat) (l : List Nat) (w : World) (hl : l.length = n) (hr : Reads w w.heap.size A (l.map byte)) (hb : Byt l) (hn : n ≤ 128) (hnc : n ≤ c) (hc : c ≤ 9223372036854775807) (hw : wholeB l = true) :
    Calls Try.prog 38 #[.slice A n c] w (OpenPost l w) := by
  have hmf : ∀ (fn : Fn) (first cap : Array Value) (w : World), (Instr.makeFunc fn first cap).run Try.prog w = .ok (.func fn first cap) w := fun _ _ _ _ => rfl
  have h0 := map_add0 A
  have h0' := map_add0' A
  obtain ⟨W2, hW2, bm, be, hg2⟩ := boxes2 w
  have hW2' := Lib.hid hW2
  have hal : (l.take (n - 4)).length = n - 4 := by rw [List.length_take]; omega
  have hop : openL l = innL (l.take (n - 4)) := by unfold openL; rw [if_pos ⟨by omega, hw⟩, hl]
  have hop' := Lib.hid hop
  have hab := byt_take hb (n - 4)
  have CM := Lib.hid (without_any A n c l W2 w.heap.size hl (hr.grown0 hg2) hb (by omega) hnc hc)
  rw [hw, if_pos rfl] at CM
  generalize l.take (n - 4) = a at *
  have CG := Lib.hid (fun A3 c3 W (hmc : n - 4 ≤ c3) (hc3 : c3 ≤ 9223372036854775807) (hrr : Reads W W.heap.size A3 (a.map byte)) => get_any A3 (n - 4) c3 0 a W hmc hc3 (by omega) hal hrr hab (by omega) (by omega))
  rw [getV0] at CG
  have hal' := Lib.hid hal
  clear hw hW2 hb hr hl hop hal
  cases hgl : getL a with
  | none =>
    have hno := Lib.hid (show openL l = none by rw [hop'.out]; unfold innL; rw [hgl])
    rw [hgl] at CG
    unfold resT at CG
    clear hgl hab
    go_enter_defers Try.func38, Try.ntmps38
    go_wp2_with fail
    rw [hW2'.out]
    (with_reducible refine CM.out.mono ?_); rintro e w3 ⟨A3, m3, c3, rfl, hown3, hg3⟩
    obtain rfl : m3 = n - 4 := by
      have h3 := hown3.len
      rw [List.length_map, hal'.out] at h3
      omega
    have hcc := hown3.2.1
    have hcm : c3 ≤ 9223372036854775807 := by have := hown3.2.2.1; unfold maxLen at this; omega
    go_wp2_with fail
    refine (CG.out _ _ _ hcc hcm hown3.reads).mono ?_; rintro e w4 ⟨rfl, hg4⟩
    have hg34 := grown_trans hg3 hg4
    have hbm := bm.kept hg34 (by simp)
    have hbe := be.kept hg34 (by simp)
    have hc1 := hbm.cell
    have hf1 := hbm.frozen
    have hc2 := hbe.cell
    have hf2 := hbe.frozen
    have h3 := map_add0 A3
    have h3' := map_add0' A3
    go_wp2_with fail
    have hgF := grown_put (grown_put (grown_put (grown_put (grown_trans hg2 hg34) (Nat.le_refl _) 0 (.slice A3 (n - 4) c3)) (Nat.le_refl _) 0 (.slice A3 (n - 4) c3)) (Nat.le_succ _) 0 (.int .i64 250)) (Nat.le_refl _) 0 (.slice none 0 0)
    have be4 := ((hbe.other (B' := w.heap.size) (by omega) (.slice A3 (n - 4) c3)).other (B' := w.heap.size) (by omega) (.slice A3 (n - 4) c3)).set (.int .i64 250)
    have bm4 := ((hbm.set (.slice A3 (n - 4) c3)).set (.slice A3 (n - 4) c3)).other (B' := w.heap.size + 1) (by omega) (.int .i64 250)
    refine leaves_cons (f := 49) (args := #[.pointer (some ⟨w.heap.size + 1, 0, none⟩), .pointer (some ⟨w.heap.size, 0, none⟩)]) (by simp) (by simp [go_sem]) ?_
    refine (open1_yes _ _ _ _ be4 bm4).mono ?_
    rintro e u' w'' ⟨rfl, rfl, rfl⟩
    have hc5 := (bm4.set (.slice none 0 0)).cell
    have hc6 := (be4.other (B' := w.heap.size) (by omega) (.slice none 0 0)).cell
    generalize ((((w4.setCell ⟨w.heap.size, 0, none⟩ (.slice A3 (n - 4) c3)).setCell ⟨w.heap.size, 0, none⟩ (.slice A3 (n - 4) c3)).setCell ⟨w.heap.size + 1, 0, none⟩ (.int .i64 250)).setCell ⟨w.heap.size, 0, none⟩ (.slice none 0 0)) = w5 at *
    refine ⟨.tuple #[.slice none 0 0, .int .i64 250], by simp [results, Try.results38, go_sem, hc5, hc6], OpenPost.no hno.out rfl hgF⟩
  | some p =>
    obtain ⟨v, u⟩ := p
    obtain ⟨u1, u2, u3, u4⟩ := getL_bd hgl
    rw [hal'.out] at u2
    have hin := Lib.hid (show openL l = if v = n - 4 - u then some (a.drop u) else none by rw [hop'.out]; unfold innL; rw [hgl, hal'.out])
    rw [hgl] at CG
    unfold resT at CG
    clear hgl hab
    by_cases hvu : v = n - 4 - u
    · have hvl := Lib.hid (show (a.drop u).length = n - 4 - u by rw [List.length_drop, hal'.out])
      have hov : openV l = a.drop u := by unfold openV; rw [hin.out, if_pos hvu]; rfl
      have hoe : openE l = 0 := by unfold openE; rw [hin.out, if_pos hvu]; rfl
      have hpost := Lib.hid (fun (B : Option Addr) (c' : Nat) (W : World) (h1 : Tail W w.heap.size B (a.drop u)) (h2 : w.grownBy W none) => show OpenPost l w (.returned (.tuple #[.slice B (n - 4 - u) c', .int .i64 0])) W by
        unfold OpenPost
        rw [hov, hoe, hvl.out]
        exact ⟨B, c', rfl, h1, h2⟩)
      have hW2s := Lib.hid (show w.heap.size + 2 ≤ W2.heap.size from be.lt)
      have hnee : (((n - 4 - u : Nat) : Int) != ((n - 4 - u : Nat) : Int)) = false := by simp
      subst hvu
      clear hov hoe hin hop'
      go_enter_defers Try.func38, Try.ntmps38
      go_wp2_with fail
      rw [hW2'.out]
      (with_reducible refine CM.out.mono ?_); rintro e w3 ⟨A3, m3, c3, rfl, hown3, hg3⟩
      obtain rfl : m3 = n - 4 := by
        have h3 := hown3.len
        rw [List.length_map, hal'.out] at h3
        omega
      have hcc := hown3.2.1
      have hcm : c3 ≤ 9223372036854775807 := by have := hown3.2.2.1; unfold maxLen at this; omega
      obtain ⟨g, rfl, _, hgb, _⟩ := hown3.cells_ (by rw [List.length_map, hal'.out]; omega)
      go_wp2_with fail
      refine (CG.out _ _ _ hcc hcm hown3.reads).mono ?_; rintro e w4 ⟨rfl, hg4⟩
      have hg34 := grown_trans hg3 hg4
      have hbm := bm.kept hg34 (by simp)
      have hbe := be.kept hg34 (by simp)
      have hc1 := hbm.cell
      have hf1 := hbm.frozen
      have hc2 := hbe.cell
      have hf2 := hbe.frozen
      have hwl := hW2s.out
      by_cases hcu : u = c3
      · have hz := Lib.hid (show n - 4 - u = 0 by omega)
        have hz0 := Lib.hid (show a.drop u = [] by
          have := hvl.out
          rw [hz.out] at this
          exact List.eq_nil_of_length_eq_zero this)
        rw [hz0.out, hz.out] at hpost
        have hz1 : ((n - 4 - u : Nat) : Int) = 0 := by omega
        have hz2 : n - 4 - u = 0 := by omega
        subst hcu
        go_wp2_with fail
        have hgF := grown_put (grown_put (grown_put (grown_trans hg2 hg34) (Nat.le_refl _) 0 (.slice (some ⟨g, 0, none⟩) 0 0)) (Nat.le_refl _) 0 (.slice (some ⟨g, 0, none⟩) 0 0)) (Nat.le_succ _) 0 (.int .i64 0)
        have be4 := ((hbe.other (B' := w.heap.size) (by omega) (.slice (some ⟨g, 0, none⟩) 0 0)).other (B' := w.heap.size) (by omega) (.slice (some ⟨g, 0, none⟩) 0 0)).set (.int .i64 0)
        have bm4 := ((hbm.set (.slice (some ⟨g, 0, none⟩) 0 0)).set (.slice (some ⟨g, 0, none⟩) 0 0)).other (B' := w.heap.size + 1) (by omega) (.int .i64 0)
        refine leaves_cons (f := 49) (args := #[.pointer (some ⟨w.heap.size + 1, 0, none⟩), .pointer (some ⟨w.heap.size, 0, none⟩)]) (by simp) (by simp [go_sem]) ?_
        refine (open1_no _ _ _ be4).mono ?_
        rintro e u' w'' ⟨rfl, rfl, rfl⟩
        have hc5 := bm4.cell
        have hc6 := be4.cell
        have hown4 := ((((hown3.grown0 hg4).setLow_ (b := w.heap.size) (by omega) (.slice (some ⟨g, 0, none⟩) 0 0)).setLow_ (b := w.heap.size) (by omega) (.slice (some ⟨g, 0, none⟩) 0 0)).setLow_ (b := w.heap.size + 1) (by omega) (.int .i64 0))
        generalize (((w4.setCell ⟨w.heap.size, 0, none⟩ (.slice (some ⟨g, 0, none⟩) 0 0)).setCell ⟨w.heap.size, 0, none⟩ (.slice (some ⟨g, 0, none⟩) 0 0)).setCell ⟨w.heap.size + 1, 0, none⟩ (.int .i64 0)) = w5 at *
        refine ⟨.tuple #[.slice (some ⟨g, 0, none⟩) 0 0, .int .i64 0], by simp [results, Try.results38, go_sem, hc5, hc6], ?_⟩
        exact hpost.out _ _ _ (Tail.nil_ _ _ _) hgF
      · go_wp2_with fail
        have hgF := grown_put (grown_put (grown_put (grown_trans hg2 hg34) (Nat.le_refl _) 0 (.slice (some ⟨g, u, none⟩) (n - 4 - u) (c3 - u))) (Nat.le_refl _) 0 (.slice (some ⟨g, u, none⟩) (n - 4 - u) (n - 4 - u))) (Nat.le_succ _) 0 (.int .i64 0)
        have be4 := ((hbe.other (B' := w.heap.size) (by omega) (.slice (some ⟨g, u, none⟩) (n - 4 - u) (c3 - u))).other (B' := w.heap.size) (by omega) (.slice (some ⟨g, u, none⟩) (n - 4 - u) (n - 4 - u))).set (.int .i64 0)
        have bm4 := ((hbm.set (.slice (some ⟨g, u, none⟩) (n - 4 - u) (c3 - u))).set (.slice (some ⟨g, u, none⟩) (n - 4 - u) (n - 4 - u))).other (B' := w.heap.size + 1) (by omega) (.int .i64 0)
        refine leaves_cons (f := 49) (args := #[.pointer (some ⟨w.heap.size + 1, 0, none⟩), .pointer (some ⟨w.heap.size, 0, none⟩)]) (by simp) (by simp [go_sem]) ?_
        refine (open1_no _ _ _ be4).mono ?_
        rintro e u' w'' ⟨rfl, rfl, rfl⟩
        have hc5 := bm4.cell
        have hc6 := be4.cell
        have hown4 := ((((hown3.grown0 hg4).setLow_ (b := w.heap.size) (by omega) (.slice (some ⟨g, u, none⟩) (n - 4 - u) (c3 - u))).setLow_ (b := w.heap.size) (by omega) (.slice (some ⟨g, u, none⟩) (n - 4 - u) (n - 4 - u))).setLow_ (b := w.heap.size + 1) (by omega) (.int .i64 0))
        generalize (((w4.setCell ⟨w.heap.size, 0, none⟩ (.slice (some ⟨g, u, none⟩) (n - 4 - u) (c3 - u))).setCell ⟨w.heap.size, 0, none⟩ (.slice (some ⟨g, u, none⟩) (n - 4 - u) (n - 4 - u))).setCell ⟨w.heap.size + 1, 0, none⟩ (.int .i64 0)) = w5 at *
        refine ⟨.tuple #[.slice (some ⟨g, u, none⟩) (n - 4 - u) (n - 4 - u), .int .i64 0], by simp [results, Try.results38, go_sem, hc5, hc6], ?_⟩
        exact hpost.out _ _ _ ((hown4.tail hgb (by omega)).base_ (by omega)) hgF
    · have hno := Lib.hid (show openL l = none by rw [hin.out, if_neg hvu])
      have hne : ((v : Int) != ((n - 4 - u : Nat) : Int)) = true := by simp; omega
      clear hvu
      go_enter_defers Try.func38, Try.ntmps38
      go_wp2_with fail
      rw [hW2'.out]
      (with_reducible refine CM.out.mono ?_); rintro e w3 ⟨A3, m3, c3, rfl, hown3, hg3⟩
      obtain rfl : m3 = n - 4 := by
        have h3 := hown3.len
        rw [List.length_map, hal'.out] at h3
        omega
      have hcc := hown3.2.1
      have hcm : c3 ≤ 9223372036854775807 := by have := hown3.2.2.1; unfold maxLen at this; omega
      obtain ⟨g, rfl, _⟩ := hown3.cells_ (by rw [List.length_map, hal'.out]; omega)
      go_wp2_with fail
      refine (CG.out _ _ _ hcc hcm hown3.reads).mono ?_; rintro e w4 ⟨rfl, hg4⟩
      have hg34 := grown_trans hg3 hg4
      have hbm := bm.kept hg34 (by simp)
      have hbe := be.kept hg34 (by simp)
      have hc1 := hbm.cell
      have hf1 := hbm.frozen
      have hc2 := hbe.cell
      have hf2 := hbe.frozen
      by_cases hcu : u = c3
      · have hcu' := Lib.hid hcu
        subst hcu
        go_wp2_with fail
        have hgF := grown_put (grown_put (grown_put (grown_put (grown_trans hg2 hg34) (Nat.le_refl _) 0 (.slice (some ⟨g, 0, none⟩) 0 0)) (Nat.le_refl _) 0 (.slice (some ⟨g, 0, none⟩) 0 0)) (Nat.le_succ _) 0 (.int .i64 250)) (Nat.le_refl _) 0 (.slice none 0 0)
        have be4 := ((hbe.other (B' := w.heap.size) (by omega) (.slice (some ⟨g, 0, none⟩) 0 0)).other (B' := w.heap.size) (by omega) (.slice (some ⟨g, 0, none⟩) 0 0)).set (.int .i64 250)
        have bm4 := ((hbm.set (.slice (some ⟨g, 0, none⟩) 0 0)).set (.slice (some ⟨g, 0, none⟩) 0 0)).other (B' := w.heap.size + 1) (by omega) (.int .i64 250)
        refine leaves_cons (f := 49) (args := #[.pointer (some ⟨w.heap.size + 1, 0, none⟩), .pointer (some ⟨w.heap.size, 0, none⟩)]) (by simp) (by simp [go_sem]) ?_
        refine (open1_yes _ _ _ _ be4 bm4).mono ?_
        rintro e u' w'' ⟨rfl, rfl, rfl⟩
        have hc5 := (bm4.set (.slice none 0 0)).cell
        have hc6 := (be4.other (B' := w.heap.size) (by omega) (.slice none 0 0)).cell
        generalize ((((w4.setCell ⟨w.heap.size, 0, none⟩ (.slice (some ⟨g, 0, none⟩) 0 0)).setCell ⟨w.heap.size, 0, none⟩ (.slice (some ⟨g, 0, none⟩) 0 0)).setCell ⟨w.heap.size + 1, 0, none⟩ (.int .i64 250)).setCell ⟨w.heap.size, 0, none⟩ (.slice none 0 0)) = w5 at *
        refine ⟨.tuple #[.slice none 0 0, .int .i64 250], by simp [results, Try.results38, go_sem, hc5, hc6], OpenPost.no hno.out rfl hgF⟩
      · go_wp2_with fail
        have hgF := grown_put (grown_put (grown_put (grown_put (grown_trans hg2 hg34) (Nat.le_refl _) 0 (.slice (some ⟨g, u, none⟩) (n - 4 - u) (c3 - u))) (Nat.le_refl _) 0 (.slice (some ⟨g, u, none⟩) (n - 4 - u) (c3 - u))) (Nat.le_succ _) 0 (.int .i64 250)) (Nat.le_refl _) 0 (.slice none 0 0)
        have be4 := ((hbe.other (B' := w.heap.size) (by omega) (.slice (some ⟨g, u, none⟩) (n - 4 - u) (c3 - u))).other (B' := w.heap.size) (by omega) (.slice (some ⟨g, u, none⟩) (n - 4 - u) (c3 - u))).set (.int .i64 250)
        have bm4 := ((hbm.set (.slice (some ⟨g, u, none⟩) (n - 4 - u) (c3 - u))).set (.slice (some ⟨g, u, none⟩) (n - 4 - u) (c3 - u))).other (B' := w.heap.size + 1) (by omega) (.int .i64 250)
        refine leaves_cons (f := 49) (args := #[.pointer (some ⟨w.heap.size + 1, 0, none⟩), .pointer (some ⟨w.heap.size, 0, none⟩)]) (by simp) (by simp [go_sem]) ?_
        refine (open1_yes _ _ _ _ be4 bm4).mono ?_
        rintro e u' w'' ⟨rfl, rfl, rfl⟩
        have hc5 := (bm4.set (.slice none 0 0)).cell
        have hc6 := (be4.other (B' := w.heap.size) (by omega) (.slice none 0 0)).cell
        generalize ((((w4.setCell ⟨w.heap.size, 0, none⟩ (.slice (some ⟨g, u, none⟩) (n - 4 - u) (c3 - u))).setCell ⟨w.heap.size, 0, none⟩ (.slice (some ⟨g, u, none⟩) (n - 4 - u) (c3 - u))).setCell ⟨w.heap.size + 1, 0, none⟩ (.int .i64 250)).setCell ⟨w.heap.size, 0, none⟩ (.slice none 0 0)) = w5 at *
        refine ⟨.tuple #[.slice none 0 0, .int .i64 250], by simp [results, Try.results38, go_sem, hc5, hc6], OpenPost.no hno.out rfl hgF⟩
theorem popen_any (A : Option Addr) (n c : Nat) (l : List Nat) (w : World) (hl : l.length = n) (hr : Reads w w.heap.size A (l.map byte)) (hb : Byt l) (hn : n ≤ 800000) (hnc : n ≤ c) (hc : c ≤ 9223372036854775807) :
    Calls Try.prog 38 #[.slice A n c] w fun e w' => ∃ A' c', e = .returned (.tuple #[.slice A' (openV l).length c', .int .i64 (openE l)]) ∧ Tail w' w.heap.size A' (openV l) ∧ w.grownBy w' none := by
  by_cases h : n ≤ 128
  · cases hw : wholeB l with
    | true => exact open_no2 A n c l w hl hr hb h hnc hc hw
    | false =>
      refine open_no1 A n c l w hl hr hb hn hnc hc ?_ (.inr (.inr ⟨h, hw⟩))
      unfold openL
      rw [if_neg (by rw [hw]; simp)]
  · exact open_no1 A n c l w hl hr hb hn hnc hc (openL_great (by omega)) (by omega)
end Go.Proofs.Ythijicpfihpkfaa
