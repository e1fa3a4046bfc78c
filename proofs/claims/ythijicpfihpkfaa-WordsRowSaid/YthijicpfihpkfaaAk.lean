/- The walk of the examples (awake) of the words' laws. -/
import Derived.Test.YthijicpfihpkfaaGa
import Derived.Test.YthijicpfihpkfaaWf
import Derived.BigGuardPart
namespace Go.Proofs.Ythijicpfihpkfaa
open Go Go.RowKit
theorem put300 : putL 300 = [172, 2] := by rw [putL_hi (by omega), putL_lo (by omega)]
theorem put127 : putL 127 = [127] := putL_lo (by omega)
theorem put2 : putL 2 = [2] := putL_lo (by omega)
theorem put1 : putL 1 = [1] := putL_lo (by omega)
theorem get300 : getV [9, 172, 2, 7] 1 = some (300, 2) := by
  have := getL_putL 300 (by omega) [7]
  rw [put300] at this
  exact this
theorem gettwo : getV [9, 172, 2, 7] 2 = some (2, 1) := by
  have := getL_putL 2 (by omega) [7]
  rw [put2] at this
  exact this
theorem getlong : getV [128, 0] 0 = none := by
  show getL [128, 0] = none
  unfold getL
  have : [128, 0].findIdx? low = some 1 := by decide
  rw [this]
  have h : valL (List.take (1 + 1) [128, 0]) = 0 := rfl
  simp only [h]
  rw [if_neg (by omega), if_neg]
  rw [putL_lo (by omega)]
  simp
theorem gettorn : getV [172] 0 = none := by
  show getL [172] = none
  rfl
theorem rows2 : rowsL [1, 172, 2] = some [1, 300] := by
  have h1 := getL_putL 1 (by omega) [172, 2]
  rw [put1] at h1
  simp only [List.cons_append, List.nil_append] at h1
  have h2 := getL_putL 300 (by omega) []
  rw [put300] at h2
  simp only [List.append_nil] at h2
  rw [rowsL_some h1]
  show (rowsL [172, 2]).map _ = _
  rw [rowsL_some h2]
  show ((rowsL []).map _).map _ = _
  rw [rowsL_nil]
  rfl
theorem rows0 : rowsL [172] = none := rowsL_none (by simp) gettorn
theorem get_lit (l : List Nat) (hb : Byt l) (hn : l.length ≤ 1000) (at' : Int) (h1 : -9223372036854775808 ≤ at') (h2 : at' ≤ 9223372036854775807) (r : Option (Nat × Nat)) (hr : getV l at' = r) (W : World) (e : TypeId) (B m : Nat) (hB : B = W.heap.size) (hm : m = l.length) (cs : Array Value) (hc : cs = (l.map byte).toArray) :
    Calls Try.prog 27 #[.slice (some ⟨B, 0, none⟩) m m, .int .i64 at'] (W.alloc (.cells cs e)) fun e' w' => e' = .returned (resT r) ∧ (W.alloc (.cells cs e)).grownBy w' none := by
  subst hB hm hc hr
  exact get_any _ _ _ at' l _ (Nat.le_refl _) (by omega) (by omega) rfl (by rw [World.size_alloc]; exact Reads.new_ W e l (by omega)) hb h1 h2
theorem rows_lit (l : List Nat) (hb : Byt l) (hn : l.length ≤ 1000) (r : Option (List Nat)) (hr : rowsL l = r) (W : World) (e : TypeId) (B m : Nat) (hB : B = W.heap.size) (hm : m = l.length) (cs : Array Value) (hc : cs = (l.map byte).toArray) :
    Calls Try.prog 33 #[.slice (some ⟨B, 0, none⟩) m m] (W.alloc (.cells cs e)) (RowsPost r (W.alloc (.cells cs e))) := by
  subst hB hm hc hr
  exact rows_any _ _ _ l _ (Nat.le_refl _) (by omega) (by omega) rfl (by rw [World.size_alloc]; exact Reads.new_ W e l (by omega)) hb
theorem fold_lit (i r : Int) (hr : foldV i = r) (w : World) (h1 : -9223372036854775808 ≤ i) (h2 : i ≤ 9223372036854775807) :
    Calls Try.prog 22 #[.int .i64 i] w fun e w' => e = .returned (.int .u64 r) ∧ w = w' := by subst hr; exact fold_any i w h1 h2
theorem unfold_lit (n r : Int) (hr : unfoldV n = r) (w : World) (h1 : 0 ≤ n) (h2 : n ≤ 18446744073709551615) :
    Calls Try.prog 24 #[.int .u64 n] w fun e w' => e = .returned (.int .i64 r) ∧ w = w' := by subst hr; exact unfold_any n w h1 h2
theorem put_lit (n : Nat) (h : n < 1000) (l : List Nat) (hl : putL n = l) (w : World) (v : Int) (hv : v = n) :
    Calls Try.prog 20 #[.int .u64 v] w fun e w' => ∃ A c, e = .returned (.slice A l.length c) ∧ Own w' w.heap.size 5 1 A l.length c (l.map byte) ∧ w.grownBy w' none := by
  subst hl hv
  exact put_any n w (by omega)
set_option maxRecDepth 100000 in
set_option maxHeartbeats 2000000 in
theorem awake_any (w : World) : Calls Try.prog 26 #[] w fun e w' => e = .returned (.bool true) ∧ w.grownBy w' none := by
  go_enter Try.func26, Try.ntmps26
  go_wp2_with fail
  refine (put_lit 300 (by omega) _ put300 _ _ rfl).mono ?_; rintro e w1 ⟨A1, c1, rfl, hown1, hg1⟩
  go_wp2_with fail
  refine (put_lit 127 (by omega) _ put127 _ _ rfl).mono ?_; rintro e w2 ⟨A2, c2, rfl, hown2, hg2⟩
  obtain ⟨g1, rfl, _, _, x0, _⟩ := (hown1.grown0 hg2).byte_at (k := 0) (by simp)
  obtain ⟨g1', e1, _, _, x1, _⟩ := (hown1.grown0 hg2).byte_at (k := 1) (by simp)
  cases e1
  obtain ⟨g2, rfl, _, _, x2, _⟩ := hown2.byte_at (k := 0) (by simp)
  have hgA := grown_trans hg1 hg2
  clear hown1 hown2 hg1 hg2
  go_wp2_with fail
  refine (get_lit [9, 172, 2, 7] (by unfold Byt; simp) (by simp) 1 (by omega) (by omega) _ get300 _ _ _ _ rfl rfl _ rfl).mono ?_; rintro e w3 ⟨rfl, hg3⟩
  clear x0 x1 x2
  have hgB := grown_trans hgA (grown_trans (World.grownBy_alloc _ _ _) hg3)
  clear hgA hg3
  unfold resT
  go_wp2_with fail
  refine (get_lit [9, 172, 2, 7] (by unfold Byt; simp) (by simp) 2 (by omega) (by omega) _ gettwo _ _ _ _ rfl rfl _ rfl).mono ?_; rintro e w4 ⟨rfl, hg4⟩
  have hgC := grown_trans hgB (grown_trans (World.grownBy_alloc _ _ _) hg4)
  clear hgB hg4
  unfold resT
  go_wp2_with fail
  refine (get_lit [128, 0] (by unfold Byt; simp) (by simp) 0 (by omega) (by omega) _ getlong _ _ _ _ rfl rfl _ rfl).mono ?_; rintro e w5 ⟨rfl, hg5⟩
  have hgD := grown_trans hgC (grown_trans (World.grownBy_alloc _ _ _) hg5)
  clear hgC hg5
  unfold resT
  go_wp2_with fail
  refine (get_lit [172] (by unfold Byt; simp) (by simp) 0 (by omega) (by omega) _ gettorn _ _ _ _ rfl rfl _ rfl).mono ?_; rintro e w6 ⟨rfl, hg6⟩
  have hgE := grown_trans hgD (grown_trans (World.grownBy_alloc _ _ _) hg6)
  clear hgD hg6
  unfold resT
  go_wp2_with fail
  refine (rows_lit [1, 172, 2] (by unfold Byt; simp) (by simp) _ rows2 _ _ _ _ rfl rfl _ rfl).mono ?_; rintro e w7 ⟨A7, c7, rfl, hown7, hg7⟩
  have hgF := grown_trans hgE (grown_trans (World.grownBy_alloc _ _ _) hg7)
  clear hgE hg7
  go_wp2_with fail
  refine (rows_lit [172] (by unfold Byt; simp) (by simp) _ rows0 _ _ _ _ rfl rfl _ rfl).mono ?_; rintro e w8 ⟨rfl, hg8⟩
  have hgG := grown_trans hgF (grown_trans (World.grownBy_alloc _ _ _) hg8)
  have hown8 := hown7.grown0 (grown_trans (World.grownBy_alloc _ _ _) hg8)
  obtain ⟨g7, rfl, _, _, _, hc7⟩ := hown8.cells_ (by simp)
  have y0 := hc7 0 (by simp)
  have y1 := hc7 1 (by simp)
  clear hc7 hown8 hown7 hgF hg8
  simp [w64] at y0 y1
  go_wp2_with fail
  refine (fold_lit 0 0 (by decide) _ (by omega) (by omega)).mono ?_; rintro e w9 ⟨rfl, rfl⟩
  go_wp2_with fail
  refine (fold_lit (-1) 1 (by decide) _ (by omega) (by omega)).mono ?_; rintro e w9 ⟨rfl, rfl⟩
  go_wp2_with fail
  refine (fold_lit 1 2 (by decide) _ (by omega) (by omega)).mono ?_; rintro e w9 ⟨rfl, rfl⟩
  go_wp2_with fail
  refine (fold_lit (-64) 127 (by decide) _ (by omega) (by omega)).mono ?_; rintro e w9 ⟨rfl, rfl⟩
  go_wp2_with fail
  refine (unfold_lit 127 (-64) (by decide) _ (by omega) (by omega)).mono ?_; rintro e w9 ⟨rfl, rfl⟩
  go_wp2
  go_ret
  exact ⟨rfl, hgG⟩
end Go.Proofs.Ythijicpfihpkfaa
