/- Whether a node's own fields may be. -/
import Derived.Test.YtjnbfgogmhfbiaaTs
namespace Go.Proofs.Ytjnbfgogmhfbiaa
open Go Go.RowKit
set_option maxRecDepth 100000 in
set_option maxHeartbeats 2000000 in
theorem fits_any (x : List Value) (nx : Int) (w : World) (hx : OkAll nodeLs x) :
    Calls Try.prog 36 #[.agg x.toArray, .int .i64 nx] w fun e w' => Tells (Fits x nx) e ∧ w.grownBy w' none := by
  have hg := World.grownBy_alloc w (.cells x.toArray 32) none
  have hR := Row.new w 32 x.toArray
  obtain ⟨q0, q1, q2, s, q3, hs, _⟩ := row_node hR hx
  obtain ⟨_, k1, k2⟩ := n_key hx
  obtain ⟨_, k3, k4⟩ := n_dep hx
  obtain ⟨_, k5, k6⟩ := n_kind hx
  have hsty := Lib.hid (row_style hR hx)
  have heq := Lib.hid (fun W => sty_equal (styN_ok hx) (ys := zeroSty) (styN_ok (x := zeroNode) zero_ok) W)
  have hF := Lib.hid (show Fits x nx ↔ (1 ≤ keyN x ∧ keyN x < nx ∧ 0 ≤ depN x ∧ depN x < 16 ∧ (kindN x = 0 ∧ lenN x = 0 ∨ kindN x = 1 ∧ styN x = zeroSty ∧ lenN x ≤ 200)) from Iff.rfl)
  have hsz := Lib.hid (show styN x = zeroSty ↔ eqV (styN x) zeroSty = true from (eqV_iff (styN_ok hx) (ys := zeroSty) (styN_ok (x := zeroNode) zero_ok)).symm)
  clear hR hx
  generalize eqV (styN x) zeroSty = bz at *
  generalize styN x = sy at *
  generalize keyN x = key at *
  generalize depN x = dep at *
  generalize kindN x = kind at *
  generalize lenN x = len at *
  generalize x.toArray = xa at *
  rcases (by omega : key < 1 ∨ (1 ≤ key ∧ nx ≤ key) ∨ ((1 ≤ key ∧ key < nx) ∧ dep < 0) ∨ ((1 ≤ key ∧ key < nx) ∧ 16 ≤ dep) ∨ ((1 ≤ key ∧ key < nx) ∧ 0 ≤ dep ∧ dep < 16)) with c | ⟨c0, c⟩ | ⟨c0, c⟩ | ⟨c0, c⟩ | ⟨c0, c1, c2⟩
  · have d0 : decide (key < 1) = true := by simp; omega
    go_enter Try.func36, Try.ntmps36
    go_wp2_with fail
    go_ret
    exact ⟨.no (by rw [hF.out]; omega), hg⟩
  · have d0 : decide (key < 1) = false := by simp; omega
    have d1 : decide (nx ≤ key) = true := by simp; omega
    clear c0 c
    go_enter Try.func36, Try.ntmps36
    go_wp2_with fail
    go_ret
    exact ⟨.no (by simp at d1; rw [hF.out]; omega), hg⟩
  · have d0 : decide (key < 1) = false := by simp; omega
    have d1 : decide (nx ≤ key) = false := by simp; omega
    have d2 : decide (dep < 0) = true := by simp; omega
    clear c0 c
    go_enter Try.func36, Try.ntmps36
    go_wp2_with fail
    go_ret
    exact ⟨.no (by simp at d2; rw [hF.out]; omega), hg⟩
  · have d0 : decide (key < 1) = false := by simp; omega
    have d1 : decide (nx ≤ key) = false := by simp; omega
    have d2 : decide (dep < 0) = false := by simp; omega
    have d3 : decide (16 ≤ dep) = true := by simp; omega
    clear c0 c
    go_enter Try.func36, Try.ntmps36
    go_wp2_with fail
    go_ret
    exact ⟨.no (by simp at d3; rw [hF.out]; omega), hg⟩
  · have d0 : decide (key < 1) = false := by simp; omega
    have d1 : decide (nx ≤ key) = false := by simp; omega
    have d2 : decide (dep < 0) = false := by simp; omega
    have d3 : decide (16 ≤ dep) = false := by simp; omega
    have hF2 := Lib.hid (show Fits x nx ↔ (kind = 0 ∧ len = 0 ∨ kind = 1 ∧ bz = true ∧ len ≤ 200) by rw [hF.out, hsz.out]; exact ⟨fun h => h.2.2.2.2, fun h => ⟨c0.1, c0.2, c1, c2, h⟩⟩)
    clear c0 c1 c2 hF hsz
    rcases (by omega : kind = 0 ∨ kind = 1 ∨ 2 ≤ kind) with rfl | rfl | c
    · have hsz := Lib.hid hs
      clear hs
      go_enter Try.func36, Try.ntmps36
      go_wp2_with fail
      go_ret
      exact ⟨.iff_ (by rw [str_empty, hsz.out, hF2.out]; simp), hg⟩
    · have hlen : ((s.size : Nat) : Int) = (len : Int) := by omega
      have hbz := Lib.hid (show bz = bz from rfl)
      cases bz with
      | false =>
        go_enter Try.func36, Try.ntmps36
        go_wp2_with (first
          | (refine wpList_value_w rfl (exec_load rfl rfl hsty.out) ?_; simp only [Act.put, List.setIfInBounds_toArray, List.set_cons_zero, List.set_cons_succ])
          | (refine wpList_value_w rfl (exec_eql sty_noguard rfl rfl rfl _ (heq.out _)) ?_; simp only [Act.put, List.setIfInBounds_toArray, List.set_cons_zero, List.set_cons_succ]))
        go_ret
        exact ⟨.no (by rw [hF2.out]; simp), hg⟩
      | true =>
        have hs' := Lib.hid hs
        clear hs
        rcases (by omega : len ≤ 200 ∨ 200 < len) with c | c
        · have d5 : decide ((s.size : Int) ≤ 200) = true := by simp; omega
          clear hlen
          go_enter Try.func36, Try.ntmps36
          go_wp2_with (first
            | (refine wpList_value_w rfl (exec_load rfl rfl hsty.out) ?_; simp only [Act.put, List.setIfInBounds_toArray, List.set_cons_zero, List.set_cons_succ])
            | (refine wpList_value_w rfl (exec_eql sty_noguard rfl rfl rfl _ (heq.out _)) ?_; simp only [Act.put, List.setIfInBounds_toArray, List.set_cons_zero, List.set_cons_succ]))
          go_ret
          exact ⟨.yes (by rw [hF2.out]; simp; omega), hg⟩
        · have d5 : decide ((s.size : Int) ≤ 200) = false := by simp; omega
          clear hlen
          go_enter Try.func36, Try.ntmps36
          go_wp2_with (first
            | (refine wpList_value_w rfl (exec_load rfl rfl hsty.out) ?_; simp only [Act.put, List.setIfInBounds_toArray, List.set_cons_zero, List.set_cons_succ])
            | (refine wpList_value_w rfl (exec_eql sty_noguard rfl rfl rfl _ (heq.out _)) ?_; simp only [Act.put, List.setIfInBounds_toArray, List.set_cons_zero, List.set_cons_succ]))
          go_ret
          exact ⟨.no (by rw [hF2.out]; omega), hg⟩
    · have e0 : (kind == 0) = false := by simp; omega
      have e1 : (kind == 1) = false := by simp; omega
      have c' := Lib.hid c
      clear c
      go_enter Try.func36, Try.ntmps36
      go_wp2_with fail
      go_ret
      exact ⟨.no (by have := c'.out; rw [hF2.out]; omega), hg⟩
end Go.Proofs.Ytjnbfgogmhfbiaa
