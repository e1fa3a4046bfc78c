/- The walk of WordsStand. -/
import Derived.Test.YthijicpfihpkfaaRr
import Derived.Test.YthijicpfihpkfaaLn
namespace Go.Proofs.Ythijicpfihpkfaa
open Go Go.RowKit
set_option maxRecDepth 100000 in
set_option maxHeartbeats 2000000 in
theorem WordsStand_walk (a0 : Option Addr) (len0 cap0 : Nat) (z0 : List Int) (at' : Int) (w : World) (w0 : IsRow .u8 w a0 len0 cap0 z0) (wb : (Lit.int .i64 at').wf = true) :
    Calls Try.prog 9 #[.slice a0 len0 cap0, .int .i64 at'] w fun e w' => e = .returned (.bool true) ∧ Below w.heap.size w w' := by
  have b1 := w0.len_
  obtain ⟨l, hl, hb, hr⟩ := w0.bytes_
  have hat := wfI64 wb
  clear w0 wb
  by_cases h1 : 500 < len0
  · go_enter Try.func9, Try.ntmps9
    go_wp2
    go_ret
    exact ⟨rfl, Below.refl _ _⟩
  obtain ⟨x, u, ok, hres⟩ := resT_is (getV l at')
  obtain ⟨hnl, hnb⟩ := rowsN_bd l
  have hnl2 : (rowsN l).length ≤ 500 := by omega
  have CC := Lib.hid (fun W (hg : w.grownBy W none) => copy_any a0 len0 cap0 l W w.heap.size hl (hr.grown0 hg) (by omega))
  have CG := Lib.hid (fun A c W (hnc : len0 ≤ c) (hc : c ≤ 9223372036854775807) (hrr : Reads W W.heap.size A (l.map byte)) => get_any A len0 c at' l W hnc hc (by omega) hl hrr hb hat.1 hat.2)
  have CR := Lib.hid (fun W (hg : w.grownBy W none) => rget_any a0 len0 cap0 at' l W b1.1 b1.2 (by omega) hl ((hr.grown0 hg).more hg.size) hb hat.1 hat.2)
  have DG := Lib.hid (fun A c W (hnc : len0 ≤ c) (hc : c ≤ 9223372036854775807) (hrr : Reads W W.heap.size A (l.map byte)) => rowsG (rows_any A len0 c l W hnc hc (by omega) hl hrr hb))
  have DR := Lib.hid (fun W (hg : w.grownBy W none) => rowsG (rrows_any a0 len0 cap0 l W b1.1 b1.2 (by omega) hl ((hr.grown0 hg).more hg.size) hb))
  have CS := Lib.hid (fun A c W (hrr : Reads W W.heap.size A (l.map byte)) (hg : w.grownBy W none) => same_yes A a0 len0 c len0 cap0 l W W.heap.size w.heap.size hl hl hrr (hr.grown0 hg) (by omega))
  have ER := Lib.hid (fun A c W (hrr : Reads W W.heap.size A ((rowsN l).map w64)) => row_any A (rowsN l).length c (rowsN l) W rfl hrr hnb (by omega))
  have EE := Lib.hid (fun A c W (hrr : Reads W W.heap.size A ((rowsN l).map w64)) => rrow_any A (rowsN l).length c (rowsN l) W rfl hrr hnb (by omega))
  have hrb := rowB_len (rowsN l) hnb
  rw [hres] at CG CR
  generalize (rowsL l).isSome = row at *
  generalize rowsN l = ns at *
  have ES := Lib.hid (fun A1 c1 A2 c2 W (h1 : Reads W W.heap.size A1 ((rowB ns).map byte)) (h2 : Reads W W.heap.size A2 ((rowB ns).map byte)) => same_yes A1 A2 (rowB ns).length c1 (rowB ns).length c2 (rowB ns) W _ _ rfl rfl h1 h2 (by omega))
  generalize rowB ns = rb at *
  have hxx : (x != x) = false := by simp
  have huu : (u != u) = false := by simp
  have hoo : (ok != ok) = false := by simp
  have hww : (row != row) = false := by simp
  have hl' := Lib.hid hl
  clear hl hr hb hres hnb
  go_enter Try.func9, Try.ntmps9
  go_wp2_with fail
  refine (CC.out _ (World.grownBy.refl _ _)).mono ?_; rintro e w1 ⟨A1, c1, rfl, hown1, hg1⟩
  have k1 := hown1.2.1
  have k2 : c1 ≤ 9223372036854775807 := by have := hown1.2.2.1; unfold maxLen at this; omega
  go_wp2_with fail
  refine (CG.out _ _ _ k1 k2 hown1.reads).mono ?_; rintro e w2 ⟨rfl, hg2⟩
  have hown2 := hown1.grown0 hg2
  have hgA := grown_trans hg1 hg2
  clear hown1 hg1 hg2
  go_wp2_with fail
  refine (CR.out _ hgA).mono ?_; rintro e w3 ⟨rfl, hg3⟩
  have hown3 := hown2.grown0 hg3
  have hgB := grown_trans hgA hg3
  clear hown2 hgA hg3
  go_wp2_with fail
  refine (DG.out _ _ _ k1 k2 hown3.reads).mono ?_; rintro e w4 ⟨A4, c4, rfl, hown4, hg4⟩
  have hown3' := hown3.grown0 hg4
  have hgC := grown_trans hgB hg4
  clear hown3 hgB hg4
  go_wp2_with fail
  refine (DR.out _ hgC).mono ?_; rintro e w5 ⟨A5, c5, rfl, hown5, hg5⟩
  have hown4' := hown4.grown0 hg5
  have hownM := hown3'.grown0 hg5
  have hgD := grown_trans hgC hg5
  clear hown3' hgC hg5 hown4
  have hlenn : ((ns.length : Int) != (ns.length : Int)) = false := by simp
  go_wp2_with fail
  refine (CS.out _ _ _ hownM.reads hgD).mono ?_; rintro e w6 ⟨rfl, hg6⟩
  have hown4 := hown4'.grown0 hg6
  have hown5' := hown5.grown0 hg6
  have hgE := grown_trans hgD hg6
  clear hownM hown4' hown5 hgD hg6
  go_wp2_with fail
  go_loopw [16] (fun i wr => ∃ j : Nat, j ≤ ns.length ∧ i = .int .i64 j ∧ Drew w6 wr) (fun i _ => ns.length - (intOf i).toNat)
  case atStart => exact ⟨0, by omega, rfl, Drew.refl_ _⟩
  case round =>
    obtain ⟨j, hj, rfl, q, rfl⟩ := hrel
    by_cases hlt : j < ns.length
    · obtain ⟨ad4, rfl, _, x4⟩ := hown4.reads.w64_ (k := j) hlt
      obtain ⟨ad5, rfl, _, x5⟩ := hown5'.reads.w64_ (k := j) hlt
      generalize nth ns j = y at *
      have hyy : ((y : Int) != (y : Int)) = false := by simp
      go_wp2_with fail
      go_quiet (fail)
      go_wp2
      go_roundw
      case rel => exact ⟨j + 1, by omega, by go_num, (Drew.refl_ _).more_ _⟩
      case measure => simp [intOf]; omega
    · have hown5q : Reads (w6.drewN q) (w6.drewN q).heap.size A5 (ns.map w64) := hown5'.reads
      have hgq := grown_drewN hgE q
      generalize w6.drewN q = w7 at *
      go_wp2_with fail
      refine (ER.out _ _ _ hown5q).mono ?_; rintro e w8 ⟨A8, c8, rfl, hown8, hg8⟩
      have hown5r := (hown5q.grown0 hg8).more hg8.size
      go_wp2_with fail
      refine (EE.out _ _ _ hown5r).mono ?_; rintro e w9 ⟨A9, c9, rfl, hown9, hg9⟩
      go_wp2_with fail
      refine (ES.out _ _ _ _ _ (hown8.grown0 hg9).reads hown9.reads).mono ?_; rintro e w10 ⟨rfl, hg10⟩
      go_wp2
      go_ret
      exact ⟨rfl, grown_below (grown_trans hgq (grown_trans hg8 (grown_trans hg9 hg10)))⟩
end Go.Proofs.Ythijicpfihpkfaa
