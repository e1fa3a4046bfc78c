/- The walks of packet's joined, Room and Seal, and of the document's Made and Seal. -/
import Derived.Test.YthijicpfihpkfaaT5
import Derived.Test.YthijicpfihpkfaaRw
import Derived.Deep.RegionWith
import Derived.OwnWalk
namespace Go.Proofs.Ythijicpfihpkfaa
open Go Go.RowKit
/-- The datagram of a message. -/
def sealL (m : List Nat) : List Nat := withs (putL m.length ++ m)
theorem sealL_len (m : List Nat) : (sealL m).length = m.length + (putL m.length).length + 4 := by
  unfold sealL
  rw [withs_len, List.length_append]
  omega
theorem sealL_byt {m : List Nat} (h : Byt m) : Byt (sealL m) := withs_byt (byt_append (putL_byt _) h)
theorem sealL_fits (m : List Nat) : (sealL m).length ≤ 128 ↔ m.length ≤ 123 := by
  rw [sealL_len]
  have hp := putL_pos m.length
  constructor
  · intro h; omega
  · intro h
    rw [putL_lo (by omega)]
    simp; omega
theorem sealL_len5 {m : List Nat} (h : m.length ≤ 123) : (sealL m).length = m.length + 5 := by
  rw [sealL_len, putL_lo (by omega)]; simp
def sealV (m : List Nat) : List Nat := if m.length ≤ 123 then sealL m else []
def sealE (m : List Nat) : Int := if m.length ≤ 123 then 0 else 3
theorem sealV_len (m : List Nat) : (sealV m).length ≤ 128 := by
  unfold sealV
  split
  · exact (sealL_fits m).2 (by assumption)
  · simp
theorem sealV_byt {m : List Nat} (h : Byt m) : Byt (sealV m) := by
  unfold sealV
  split
  · exact sealL_byt h
  · intro x hx; simp at hx
/-- joined, of two rows that lie in a new block. -/
theorem pjoin2 (X : World) (Bx : Nat) (hB : Bx = X.heap.size) (A1 A2 : Option Addr) (n1 c1 n2 c2 : Nat) (l1 l2 : List Nat) (h1 : l1.length = n1) (h2 : l2.length = n2) (r1 : Reads X X.heap.size A1 (l1.map byte)) (r2 : Reads X X.heap.size A2 (l2.map byte)) (b1 : Byt l1) (b2 : Byt l2) (hn : n1 + n2 ≤ 900000) :
    Calls Try.prog 47 #[.slice (some ⟨Bx, 0, none⟩) 2 2] (X.alloc (.cells #[.slice A1 n1 c1, .slice A2 n2 c2] 22)) fun e w' => ∃ A', e = .returned (.slice A' (n1 + n2 + 4) (n1 + n2 + 4)) ∧ Own w' X.heap.size 5 1 A' (n1 + n2 + 4) (n1 + n2 + 4) ((withs (l1 ++ l2)).map byte) ∧ (X.alloc (.cells #[.slice A1 n1 c1, .slice A2 n2 c2] 22)).grownBy w' none := by
  subst hB h1 h2
  have hf : [l1, l2].flatten = l1 ++ l2 := by simp
  have hfl : (l1 ++ l2).length = l1.length + l2.length := List.length_append
  have hc : Reads (X.alloc (.cells #[.slice A1 l1.length c1, .slice A2 l2.length c2] 22)) (X.alloc (.cells #[.slice A1 l1.length c1, .slice A2 l2.length c2] 22)).heap.size (some ⟨X.heap.size, 0, none⟩) [.slice A1 l1.length c1, .slice A2 l2.length c2] := fun _ =>
    ⟨_, rfl, by simp, fun j u hu => by
      have : (⟨X.heap.size, 0, none⟩ : Addr).add j = ⟨X.heap.size, j, none⟩ := by unfold Addr.add; split <;> simp_all
      rw [this, cell_of_row _ _ _ _ _ _ (heap_alloc_new X _), ← hu]
      simp⟩
  have hv : RowsAt (X.alloc (.cells #[.slice A1 l1.length c1, .slice A2 l2.length c2] 22)) (X.alloc (.cells #[.slice A1 l1.length c1, .slice A2 l2.length c2] 22)).heap.size [.slice A1 l1.length c1, .slice A2 l2.length c2] [l1, l2] :=
    ⟨rfl, fun j hj => by
      have : j = 0 ∨ j = 1 := by simp at hj; omega
      rcases this with rfl | rfl
      · exact ⟨A1, c1, rfl, (r1.alloc _).more (by simp)⟩
      · exact ⟨A2, c2, rfl, (r2.alloc _).more (by simp)⟩⟩
  have C1 := Lib.hid (concat_any (some ⟨X.heap.size, 0, none⟩) 2 2 _ [l1, l2] _ rfl hc hv (by omega) (by rw [hf, hfl]; omega))
  rw [hf, hfl] at C1
  have C2 := Lib.hid (fun A c W (hr : Reads W W.heap.size A ((l1 ++ l2).map byte)) => with_any' A (l1.length + l2.length) c (l1 ++ l2) W W.heap.size hfl hr (byt_append b1 b2) (by omega))
  have hsz : X.heap.size ≤ (X.alloc (.cells #[.slice A1 l1.length c1, .slice A2 l2.length c2] 22)).heap.size := by simp
  generalize l1 ++ l2 = l at *
  generalize l1.length = n1 at *
  generalize l2.length = n2 at *
  generalize X.alloc (.cells #[.slice A1 n1 c1, .slice A2 n2 c2] 22) = Y at *
  clear hf hfl hc hv r1 r2
  go_enter Try.func47, Try.ntmps47
  go_wp2_with fail
  refine C1.out.mono ?_; rintro e w1 ⟨A', c', rfl, hown, hg⟩
  go_wp2_with fail
  refine (C2.out _ _ _ hown.reads).mono ?_; rintro e w2 ⟨A2', rfl, hown2, hg2⟩
  go_wp2
  go_ret
  exact ⟨A2', rfl, hown2.base_ (Nat.le_trans hsz hg.size), grown_trans hg hg2⟩
theorem zeros_eq (n : Nat) : madeCells (#[.int .u8 0] : Array Value) (n * 1) = ((List.replicate n 0).map byte).toArray := by
  unfold madeCells
  apply Array.ext
  · simp
  · intro i h1 h2
    simp [byte, Nat.mod_one]
theorem make_run (n : Nat) (hn : n ≤ 1000) (W : World) : (Instr.makeSlice 22 (.int .i64 (n : Int)) (.int .i64 (n : Int))).run Try.prog W = .ok (.slice (some ⟨W.heap.size, 0, none⟩) n n) (W.alloc (.cells ((List.replicate n 0).map byte).toArray 5)) := by
  obtain ⟨i0, hi0, hz0, hz1, hz2⟩ := info_parts info8
  have := run_make (P := Try.prog) W 22 5 i0 _ Try.underlying22 hi0 hz0 .i64 .i64 n n (by omega) (Int.le_refl _) (by rw [hz2]; omega) (by omega)
  rw [this, hz1, Int.toNat_natCast, show (Value.int .u8 0).cells = #[.int .u8 0] from rfl, zeros_eq]
theorem byt_zeros (n : Nat) : Byt (List.replicate n 0) := fun x hx => by
  have := List.eq_of_mem_replicate hx
  omega
theorem grown_undrew {a b : World} {row : Option Nat} (h : a.drew.grownBy b row) : a.grownBy b row := ⟨h.os, h.tape, h.output, h.size, h.block⟩
set_option maxRecDepth 100000 in
set_option maxHeartbeats 2000000 in
theorem room_any (w : World) : Calls Try.prog 31 #[] w fun e w' => e = .returned (.int .i64 123) ∧ w.grownBy w' none := by
  go_enter Try.func31, Try.ntmps31
  go_wp2_with fail
  go_loopw [1] (fun v wr => ∃ n : Nat, 123 ≤ n ∧ n ≤ 128 ∧ v = .int .i64 n ∧ w.grownBy wr none) (fun v _ => (intOf v).toNat)
  case atStart => exact ⟨128, by omega, by omega, rfl, World.grownBy.refl _ _⟩
  case round =>
    obtain ⟨n, hn1, hn2, rfl, hg⟩ := hrel
    have hp := putL_pos n
    have hp1 := putL_len10 n (by omega)
    have hp2 := Lib.hid (fun h : n < 128 => show (putL n).length = 1 by rw [putL_lo h]; rfl)
    have CP := Lib.hid (fun W => put_any n W (by omega))
    have CM := make_run n (by omega)
    have HZ := Lib.hid (fun W => Own.new_ W W.heap.size 5 (List.replicate n 0) (Nat.le_refl _) (by rw [List.length_replicate]; omega))
    rw [List.length_replicate] at HZ
    have CJ := Lib.hid (fun X Bx (hB : Bx = X.heap.size) A1 A2 c1 c2 (r1 : Reads X X.heap.size A1 ((putL n).map byte)) (r2 : Reads X X.heap.size A2 ((List.replicate n 0).map byte)) => pjoin2 X Bx hB A1 A2 (putL n).length c1 n c2 (putL n) (List.replicate n 0) rfl (by simp) r1 r2 (putL_byt n) (byt_zeros n) (by omega))
    generalize (List.replicate n 0).map byte = zs at *
    generalize putL n = p at *
    have hgd := grown_drew hg
    have e0 : IntKind.u64.wrap (n : Int) = (n : Int) := by rw [IntKind.wrap_u64]; omega
    go_wp2_with fail
    go_region_with (first
      | (go_at_call 20; (with_reducible refine (CP.out _).mono ?_); rintro e w1 ⟨A1, c1, rfl, hown1, hg1⟩)
      | (go_at_call 47; (with_reducible refine (CJ.out _ _ ?_ _ _ _ _ ?_ ?_).mono ?_); (simp); (first | exact hown1.reads | exact (hown1.alloc _).reads); (first | exact (HZ.out w1).reads | exact ((HZ.out wr).grown0 (grown_undrew hg1)).reads | exact ((HZ.out wr.drew).grown0 hg1).reads); rintro e w3 ⟨A3, rfl, hown3, hg3⟩))
    all_goals
      have hgF : w.grownBy w3 none := by
        first
          | exact grown_trans (grown_trans (grown_trans (grown_trans hgd hg1) (World.grownBy_alloc _ _ _)) (World.grownBy_alloc _ _ _)) hg3
          | exact grown_trans (grown_trans (grown_trans (grown_trans hg (World.grownBy_alloc _ _ _)) (grown_undrew hg1)) (World.grownBy_alloc _ _ _)) hg3
      clear hg hgd hg1 hg3 hown1 hown3 CM HZ CJ CP e0
      by_cases h123 : n = 123
      · have h5 := hp2.out (by omega)
        obtain ⟨h6, h7⟩ : p.length ≤ 1 ∧ n ≤ 123 := ⟨by omega, by omega⟩
        clear h5 hp2
        obtain rfl : n = 123 := h123
        go_wp2_with fail
        go_ret
        exact ⟨rfl, hgF⟩
      · obtain ⟨h6, h7⟩ : 1 ≤ p.length ∧ 124 ≤ n := ⟨by omega, by omega⟩
        clear h123 hp2
        go_wp2_with fail
        go_roundw
        case rel => exact ⟨n - 1, by omega, by omega, by congr 1; omega, hgF⟩
        case measure => simp [intOf]; omega
/-- Seal, for a message for which there is room. -/
theorem seal_any (A : Option Addr) (n c : Nat) (l : List Nat) (w : World) (hl : l.length = n) (hr : Reads w w.heap.size A (l.map byte)) (hb : Byt l) (hn : n ≤ 800000) :
    Calls Try.prog 30 #[.slice A n c] w fun e w' => ∃ A' c', e = .returned (.tuple #[.slice A' (sealV l).length c', .int .i64 (sealE l)]) ∧ Own w' w.heap.size 5 1 A' (sealV l).length c' ((sealV l).map byte) ∧ w.grownBy w' none := by
  by_cases h : n ≤ 123
  · have hv : sealV l = withs (putL l.length ++ l) := if_pos (by omega)
    have he : sealE l = 0 := if_pos (by omega)
    have hvl : (withs (putL l.length ++ l)).length = (putL n).length + n + 4 := by rw [withs_len, List.length_append, hl]
    rw [hv, he, hvl, hl]
    have CP := Lib.hid (fun W => put_any n W (by omega))
    have hp10 := putL_len10 n (by omega)
    have CJ := Lib.hid (fun X Bx (hB : Bx = X.heap.size) A1 c1 c2 (r1 : Reads X X.heap.size A1 ((putL n).map byte)) (r2 : Reads X X.heap.size A (l.map byte)) => pjoin2 X Bx hB A1 A (putL n).length c1 n c2 (putL n) l rfl hl r1 r2 (putL_byt n) hb (by omega))
    generalize withs (putL n ++ l) = wl at *
    generalize putL n = p at *
    clear hv he hvl hl
    go_enter Try.func30, Try.ntmps30
    go_wp2_with fail
    refine (room_any _).mono ?_; rintro e w1 ⟨rfl, hg1⟩
    go_wp2_with fail
    refine (CP.out _).mono ?_; rintro e w2 ⟨A2, c2, rfl, hown2, hg2⟩
    go_wp2_with fail
    refine (CJ.out w2 _ rfl A2 c2 c hown2.reads ((hr.grown0 (grown_trans hg1 hg2)).more (grown_trans hg1 hg2).size)).mono ?_; rintro e w3 ⟨A3, rfl, hown3, hg3⟩
    go_wp2
    go_ret2
    exact ⟨A3, _, rfl, hown3.base_ (grown_trans hg1 hg2).size, grown_trans (grown_trans (grown_trans hg1 hg2) (World.grownBy_alloc _ _ _)) hg3⟩
  · have hv : sealV l = [] := if_neg (by omega)
    have he : sealE l = 3 := if_neg (by omega)
    rw [hv, he]
    clear hv he
    go_enter Try.func30, Try.ntmps30
    go_wp2_with fail
    refine (room_any _).mono ?_; rintro e w1 ⟨rfl, hg1⟩
    go_wp2
    go_ret2
    exact ⟨none, 0, rfl, Own.nil_ _ _ _ _ _, hg1⟩
theorem made_any (A : Option Addr) (n c : Nat) (l : List Nat) (w : World) (hl : l.length = n) (hr : Reads w w.heap.size A (l.map byte)) (hb : Byt l) (hn : n ≤ 800000) :
    Calls Try.prog 46 #[.slice A n c] w fun e w' => ∃ A' c', e = .returned (.slice A' (sealL l).length c') ∧ Own w' w.heap.size 5 1 A' (sealL l).length c' ((sealL l).map byte) ∧ w.grownBy w' none := by
  obtain ⟨i0, hi0, hz0, hz1, hz2⟩ := info_parts info8
  have hsl : (sealL l).length = (putL n).length + n + 4 := by rw [sealL_len, hl]; omega
  rw [hsl]
  have hu : sealL l = (putL n ++ l) ++ tail4 (rsum (putL n ++ l)) 4 := by rw [← hl]; rfl
  rw [hu]
  have CP := Lib.hid (fun W => rput_any n W (by omega))
  have hp10 := putL_len10 n (by omega)
  have h1 := byte_one l
  have CW := Lib.hid (fun A c W (hrr : Reads W W.heap.size A ((putL n ++ l).map byte)) => refwith_any A ((putL n).length + n) c (putL n ++ l) W W.heap.size (by rw [List.length_append, hl]) hrr (byt_append (putL_byt n) hb) (by omega))
  have hls := Lib.hid (show (l.map byte).length = n * 1 by simp [hl])
  rw [List.map_append] at CW
  generalize (putL n ++ l) ++ tail4 (rsum (putL n ++ l)) 4 = wl at *
  generalize putL n = p at *
  clear hu hsl hl
  go_enter Try.func46, Try.ntmps46
  go_wp2_with fail
  refine (CP.out _).mono ?_; rintro e w1 ⟨A1, c1, rfl, hown1, hg1⟩
  have hsz := hg1.size
  go_wp2_with (at_builtin; refine wpList_append_Own rfl (.tmp 6) (.tmp 7) _ rfl w.heap.size 5 i0 _ 1 1 Try.underlying22 hi0 hz0 hz1 hz2 rfl (by omega) A1 p.length c1 _ rfl hown1 A n c _ (l.map byte) rfl hls.out (hr.grown0 hg1) h1 (by simp only [maxLen]; omega) (by omega) hsz ?_; intro A2 c2 w2 hown2 hg2 _)
  have hgn := grown_new hg1 hg2 (fun g e => (hown1.row_ge g e).1)
  refine (CW.out _ _ _ hown2.reads).mono ?_; rintro e w3 ⟨A3, c3, rfl, hown3, hg3⟩
  go_wp2
  go_ret
  exact ⟨A3, c3, rfl, hown3.base_ hgn.size, grown_trans hgn hg3⟩
theorem rseal_any (A : Option Addr) (n c : Nat) (l : List Nat) (w : World) (hl : l.length = n) (hr : Reads w w.heap.size A (l.map byte)) (hb : Byt l) (hn : n ≤ 800000) :
    Calls Try.prog 29 #[.slice A n c] w fun e w' => ∃ A' c', e = .returned (.tuple #[.slice A' (sealV l).length c', .int .i64 (sealE l)]) ∧ Own w' w.heap.size 5 1 A' (sealV l).length c' ((sealV l).map byte) ∧ w.grownBy w' none := by
  have CM := Lib.hid (made_any A n c l w hl hr hb hn)
  have hfit := sealL_fits l
  by_cases h : n ≤ 123
  · have hv : sealV l = sealL l := if_pos (by omega)
    have he : sealE l = 0 := if_pos (by omega)
    rw [hv, he]
    have h128 : (sealL l).length ≤ 128 := by omega
    generalize sealL l = sl at *
    clear hv he hl hr hfit
    go_enter Try.func29, Try.ntmps29
    go_wp2_with fail
    refine CM.out.mono ?_; rintro e w1 ⟨A1, c1, rfl, hown1, hg1⟩
    go_wp2
    go_ret2
    exact ⟨A1, c1, rfl, hown1, hg1⟩
  · have hv : sealV l = [] := if_neg (by omega)
    have he : sealE l = 3 := if_neg (by omega)
    rw [hv, he]
    have h128 : 128 < (sealL l).length := by omega
    generalize sealL l = sl at *
    clear hv he hl hr hfit
    go_enter Try.func29, Try.ntmps29
    go_wp2_with fail
    refine CM.out.mono ?_; rintro e w1 ⟨A1, c1, rfl, hown1, hg1⟩
    go_wp2
    go_ret2
    exact ⟨none, 0, rfl, Own.nil_ _ _ _ _ _, hg1⟩
end Go.Proofs.Ythijicpfihpkfaa
