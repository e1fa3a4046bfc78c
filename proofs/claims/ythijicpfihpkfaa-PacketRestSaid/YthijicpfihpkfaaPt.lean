/- The walk of PacketOpens. -/
import Derived.Test.YthijicpfihpkfaaPp
import Derived.Test.YthijicpfihpkfaaPs
namespace Go.Proofs.Ythijicpfihpkfaa
open Go Go.RowKit
theorem openV_is {l : List Nat} (hb : Byt l) : (openV l).length ≤ 123 ∧ Byt (openV l) := by
  unfold openV
  cases h : openL l with
  | none => exact ⟨by simp, by intro x hx; simp at hx⟩
  | some m =>
    obtain ⟨h1, h2⟩ := openL_some hb h
    refine ⟨h2, fun x hx => hb x ?_⟩
    rw [h1]
    unfold sealL withs
    simp only [Option.getD_some] at hx
    simp [hx]
theorem Tail.at_ {w : World} {base : Nat} {A : Option Addr} {l : List Nat} (h : Tail w base A l) {j : Nat} (hj : j < l.length) :
    ∃ g u, A = some ⟨g, u, none⟩ ∧ base ≤ g ∧ w.cell? ⟨g, u + j, none⟩ = some (.int .u8 ((nth l j : Nat) : Int)) ∧ w.frozen? ⟨g, u + j, none⟩ = false ∧
      ∀ v : Nat, Tail (w.setCell ⟨g, u + j, none⟩ (.int .u8 (v : Int))) base (some ⟨g, u, none⟩) (l.set j v) := by
  obtain ⟨g, u, n, c, ys, rfl, h2, h3, h4, h5⟩ := h (by omega)
  have hyl : ys.length = n := by have := h2.len; simpa using this
  obtain ⟨g', e, _, _, hc, hf⟩ := h2.byte_at (k := u + j) (by omega)
  cases e
  have hnth : nth ys (u + j) = nth l j := by
    rw [nth_getElem (by omega), nth_getElem hj]
    have h6 : ((ys.drop u).take l.length)[j]? = l[j]? := by rw [h5]
    rw [List.getElem?_take, if_pos hj, List.getElem?_drop, List.getElem?_eq_getElem (by omega), List.getElem?_eq_getElem hj] at h6
    exact Option.some.inj h6
  refine ⟨g, u, rfl, h3, by rw [hc, hnth], hf, fun v _ => ⟨g, u, n, c, ys.set (u + j) v, rfl, h2.put_ _ _, h3, by rw [List.length_set]; exact h4, ?_⟩⟩
  rw [List.length_set, List.drop_set, if_neg (by omega), Nat.add_sub_cancel_left, List.take_set, h5]
set_option maxRecDepth 100000 in
set_option maxHeartbeats 2000000 in
theorem PacketOpens_walk (a0 : Option Addr) (len0 cap0 : Nat) (z0 : List Int) (w : World) (w0 : IsRow .u8 w a0 len0 cap0 z0) :
    Calls Try.prog 11 #[.slice a0 len0 cap0] w fun e w' => e = .returned (.bool true) ∧ Below w.heap.size w w' := by
  have b0 := w0.len_
  obtain ⟨l, hl, hb, hr⟩ := w0.bytes_
  by_cases h0 : 1000 < len0
  · go_enter Try.func11, Try.ntmps11
    go_wp2
    go_ret
    exact ⟨rfl, Below.refl _ _⟩
  obtain ⟨hsl, hsb0⟩ := openV_is hb
  have hsb := Lib.hid hsb0
  have CC := Lib.hid (copy_any a0 len0 cap0 l w _ hl hr (by omega))
  have CR := Lib.hid (fun W (hg : w.grownBy W none) => ropen_any a0 len0 cap0 l W hl ((hr.grown0 hg).more hg.size) hb (by omega) b0.1 b0.2)
  have CP := Lib.hid (fun A c W (hnc : len0 ≤ c) (hc : c ≤ 9223372036854775807) (hrr : Reads W W.heap.size A (l.map byte)) => popen_any A len0 c l W hl hrr hb (by omega) hnc hc)
  have CS := Lib.hid (fun A c W (hrr : Reads W W.heap.size A (l.map byte)) (hg : w.grownBy W none) => psame_yes A a0 len0 c len0 cap0 l W W.heap.size w.heap.size hl hl hrr (hr.grown0 hg) (by omega))
  have CT := Lib.hid (fun A1 A2 c1 c2 W B (h1 : Reads W W.heap.size A1 ((openV l).map byte)) (h2 : Reads W B A2 ((openV l).map byte)) => psame_yes A1 A2 (openV l).length c1 (openV l).length c2 (openV l) W _ _ rfl rfl h1 h2 (by omega))
  generalize openE l = E at *
  generalize hsv : openV l = sv at CR CP CT hsl hsb
  have hEE : (E != E) = false := by simp
  clear hl hb hsv hsb0
  go_enter Try.func11, Try.ntmps11
  go_wp2_with fail
  refine CC.out.mono ?_; rintro e w1 ⟨A1, c1, rfl, hown1, hg1⟩
  have k1 := hown1.2.1
  have k2 : c1 ≤ 9223372036854775807 := by have := hown1.2.2.1; unfold maxLen at this; omega
  go_wp2_with fail
  refine (CR.out _ hg1).mono ?_; rintro e w2 ⟨A2, c2, rfl, hr2, hg2⟩
  have hown1' := hown1.grown0 hg2
  have hgA := grown_trans hg1 hg2
  clear hown1 hg1 hg2 CC
  go_wp2_with fail
  go_loopw [6, 7, 8, 9] (fun v _ _ _ wr => ∃ t : Nat, t ≤ 2 ∧ v = .int .i64 t ∧ w2.grownBy wr none) (fun v _ _ _ _ => 2 - (intOf v).toNat)
  case atStart => exact ⟨0, by omega, rfl, World.grownBy.refl _ _⟩
  case round =>
    obtain ⟨t, ht, rfl, hg⟩ := hrel
    have hgB := grown_trans hgA hg
    by_cases hlt : t < 2
    · go_wp2_with fail
      refine (CP.out _ _ _ k1 k2 (hown1'.grown0 hg).reads).mono ?_; rintro e w3 ⟨A3, c3, rfl, htl3, hg3⟩
      have hgC := grown_trans hg hg3
      go_wp2_with fail
      refine (CT.out _ _ _ _ _ _ htl3.reads (hr2.grown0 hgC)).mono ?_; rintro e w4 ⟨rfl, hg4⟩
      have hgD := grown_trans hgC hg4
      go_wp2_with fail
      refine (CS.out _ _ _ (hown1'.grown0 hgD).reads (grown_trans hgA hgD)).mono ?_; rintro e w5 ⟨rfl, hg5⟩
      have hgE := grown_trans hgD hg5
      have htl5 := ((htl3.grown0 hg4).grown0 hg5).base_ (base' := w2.heap.size) (hg.size)
      clear hgD hgC hg3 hg4 hg5 htl3 hgB CR CP CT CS
      go_wp2_with fail
      obtain ⟨wo, rfl⟩ : ∃ wo : World, wo = wr := ⟨_, rfl⟩
      go_loopw [9] (fun v wr => ∃ (j : Nat) (xs : List Nat), j ≤ sv.length ∧ v = .int .i64 j ∧ xs.length = sv.length ∧ Byt xs ∧ Tail wr w2.heap.size A3 xs ∧ w2.grownBy wr none) (fun v _ => sv.length - (intOf v).toNat)
      case atStart => exact ⟨0, sv, by omega, rfl, rfl, hsb.out, htl5, hgE⟩
      case round =>
        obtain ⟨j, xs, hj, rfl, hxl, hxb, hxo, hxg⟩ := hrel
        clear htl5 hgE
        have hxl' := Lib.hid hxl; clear hxl
        by_cases hlt2 : j < sv.length
        · obtain ⟨g, u, rfl, hg0, hc, hf, hput⟩ := hxo.at_ (j := j) (by rw [hxl'.out]; exact hlt2)
          have hput' := Lib.hid hput
          clear hput
          have hx := hxb.nth j
          go_wp2
          go_roundw
          case rel => exact ⟨j + 1, xs.set j ((nth xs j + 1) % 256), by omega, by go_num, by rw [List.length_set]; exact hxl'.out, byt_set hxb (by omega), hput'.out _, grown_put hxg hg0 _ _⟩
          case measure => simp [intOf]; omega
        · go_wp2_with fail
          go_roundw
          case rel => exact ⟨t + 1, by omega, by go_num, hxg⟩
          case measure => simp [intOf]; omega
    · go_wp2_with fail
      go_ret
      exact ⟨rfl, grown_below hgB⟩
end Go.Proofs.Ythijicpfihpkfaa
