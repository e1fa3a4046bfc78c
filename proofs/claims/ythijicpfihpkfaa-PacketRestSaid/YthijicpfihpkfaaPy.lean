/- The walk of PacketRest. -/
import Derived.Test.YthijicpfihpkfaaPb
namespace Go.Proofs.Ythijicpfihpkfaa
open Go Go.RowKit
theorem open_less {t : List Nat} (hb : Byt t) : (openE t = 0 ∧ (openV t).length + 5 = t.length) ∨ openE t = 250 := by
  rcases openE_is hb with ⟨h1, _, _, h4⟩ | ⟨h1, _⟩
  · obtain ⟨h5, h6⟩ := openL_some hb h4
    refine .inl ⟨h1, ?_⟩
    have := sealL_len5 h6
    rw [← h5] at this
    omega
  · exact .inr h1
set_option maxRecDepth 100000 in
set_option maxHeartbeats 4000000 in
theorem PacketRest_walk (a0 : Option Addr) (len0 cap0 : Nat) (z0 : List Int) (missing : Int) (a1 : Option Addr) (len1 cap1 : Nat) (z1 : List Int) (w : World) (w0 : IsRow .u8 w a0 len0 cap0 z0) (wm : (Lit.int .i64 missing).wf = true) (w1 : IsRow .u8 w a1 len1 cap1 z1) :
    Calls Try.prog 14 #[.slice a0 len0 cap0, .int .i64 missing, .slice a1 len1 cap1] w fun e w' => e = .returned (.bool true) ∧ Below w.heap.size w w' := by
  have b0 := w0.len_
  have b1 := w1.len_
  have hmi : -9223372036854775808 ≤ missing ∧ missing ≤ 9223372036854775807 := by simpa [Lit.wf, IntKind.min, IntKind.max, IntKind.signed, IntKind.bits] using wm
  obtain ⟨l, hl, hb, hr⟩ := w0.bytes_
  obtain ⟨m, hm, hmb, hmr⟩ := w1.bytes_
  clear w0 w1 wm
  by_cases h0 : 123 < len0
  · go_enter Try.func14, Try.ntmps14
    go_wp2_with fail
    refine (pawake_any _).mono ?_; rintro e w0 ⟨rfl, hg0⟩
    go_wp2
    go_ret
    exact ⟨rfl, grown_below hg0⟩
  by_cases h1 : 300 < len1
  · go_enter Try.func14, Try.ntmps14
    go_wp2_with fail
    refine (pawake_any _).mono ?_; rintro e w0 ⟨rfl, hg0⟩
    go_wp2
    go_ret
    exact ⟨rfl, grown_below hg0⟩
  obtain ⟨e1, e2, e3, e4⟩ := open_seal (m := l) (by omega)
  have CS := Lib.hid (fun W (hg : w.grownBy W none) => seal_any a0 len0 cap0 l W hl ((hr.grown0 hg).more hg.size) hb (by omega))
  rw [e3, e4, hl] at CS
  have hsl : (sealV l).length = len0 + 5 := by omega
  have hsb := sealV_byt hb
  generalize sealV l = sv at *
  have hu0 : 0 ≤ IntKind.u64.wrap missing := by rw [IntKind.wrap_u64]; omega
  obtain ⟨q, hq⟩ : ∃ q : Nat, (IntKind.u64.wrap missing).tmod ((len0 : Int) + 5) = q := by
    rw [Int.tmod_eq_emod_of_nonneg hu0]
    have : 0 ≤ IntKind.u64.wrap missing % ((len0 : Int) + 5) := Int.emod_nonneg _ (by omega)
    exact ⟨(IntKind.u64.wrap missing % ((len0 : Int) + 5)).toNat, by omega⟩
  have hql : q < len0 + 5 := by
    rw [Int.tmod_eq_emod_of_nonneg hu0] at hq
    have := Int.emod_lt_of_pos (IntKind.u64.wrap missing) (show (0 : Int) < (len0 : Int) + 5 by omega)
    omega
  have CO := Lib.hid (fun A c k W (hk : k = len0 + 5 - (1 + q)) (hnc : len0 + 5 ≤ c) (hc : c ≤ 9223372036854775807) (hrr : Reads W W.heap.size A (sv.map byte)) => popen_any A k c (sv.take k) W (by rw [List.length_take, hsl]; omega) (take_reads hrr k) (byt_take hsb k) (by omega) (by omega) hc)
  have hls := open_less (byt_take hsb (len0 + 5 - (1 + q)))
  have hlt : (sv.take (len0 + 5 - (1 + q))).length = len0 + 5 - (1 + q) := by rw [List.length_take, hsl]; omega
  rw [hlt] at hls
  have CC := Lib.hid (fun A c W (hrr : Reads W W.heap.size A (sv.map byte)) => copy_any A (len0 + 5) c sv W W.heap.size hsl hrr (by omega))
  have CQ := Lib.hid (fun A k c W (hk : k = len0 + 5 + len1) (hnc : k ≤ c) (hc : c ≤ 9223372036854775807) (hrr : Reads W W.heap.size A ((sv ++ m).map byte)) => popen_any A k c (sv ++ m) W (by rw [List.length_append, hsl, hm, hk]) hrr (byt_append hsb hmb) (by omega) hnc hc)
  have hla := open_less (byt_append hsb hmb)
  rw [List.length_append, hsl, hm] at hla
  have hgr : 128 < len0 + 5 + len1 → openE (sv ++ m) = 250 := fun h => by
    unfold openE
    rw [openL_great (by rw [List.length_append, hsl, hm]; exact h)]
    rfl
  have h1m := byte_one m
  have hml := Lib.hid (show (m.map byte).length = len1 * 1 by simp [hm])
  rw [List.map_append] at CQ
  obtain ⟨i0, hi0, hz0, hz1, hz2⟩ := info_parts info8
  have CO' := Lib.hid (fun A c k W (hk : k = len0 + 5 - (1 + q)) (hnc : len0 + 5 ≤ c) (hc : c ≤ 9223372036854775807) (hrr : Reads W W.heap.size A (sv.map byte)) => show Calls Try.prog 38 #[.slice A k c] W fun e w' => ∃ A' c', e = .returned (.tuple #[.slice A' (openV (sv.take (len0 + 5 - (1 + q)))).length c', .int .i64 (openE (sv.take (len0 + 5 - (1 + q))))]) ∧ W.grownBy w' none from by
    subst hk
    exact (CO.out A c _ W rfl hnc hc hrr).mono fun e w' ⟨A', c', h1, _, h3⟩ => ⟨A', c', h1, h3⟩)
  have CQ' := Lib.hid (fun A k c W (hk : k = len0 + 5 + len1) (hnc : k ≤ c) (hc : c ≤ 9223372036854775807) (hrr : Reads W W.heap.size A (sv.map byte ++ m.map byte)) => show Calls Try.prog 38 #[.slice A k c] W fun e w' => ∃ A' c', e = .returned (.tuple #[.slice A' (openV (sv ++ m)).length c', .int .i64 (openE (sv ++ m))]) ∧ W.grownBy w' none from (CQ.out A k c W hk hnc hc hrr).mono fun e w' ⟨A', c', h1, _, h3⟩ => ⟨A', c', h1, h3⟩)
  generalize openE (sv.take (len0 + 5 - (1 + q))) = E1 at *
  generalize (openV (sv.take (len0 + 5 - (1 + q)))).length = x1 at *
  generalize openE (sv ++ m) = E2 at *
  generalize (openV (sv ++ m)).length = x2 at *
  clear CO CQ hlt hsl hm hu0 hmb hsb
  clear e1 e2 e3 e4 hl hr hb
  go_enter Try.func14, Try.ntmps14
  go_wp2_with fail
  refine (pawake_any _).mono ?_; rintro e w0 ⟨rfl, hg0⟩
  go_wp2_with fail
  refine (CS.out _ hg0).mono ?_; rintro e w1 ⟨A1, c1, rfl, hown1, hg1⟩
  have k1 := hown1.2.1
  have k2 : c1 ≤ 9223372036854775807 := by have := hown1.2.2.1; unfold maxLen at this; omega
  have hgA := grown_trans hg0 hg1
  have h10 := map_add0 A1
  have h10' := map_add0' A1
  clear hg0 hg1 CS
  go_wp2_with fail
  refine (CO'.out _ _ _ _ (by omega) k1 k2 hown1.reads).mono ?_; rintro e w2 ⟨A2, c2, rfl, hg2⟩
  have hgB := grown_trans hgA hg2
  have hown2 := hown1.grown0 hg2
  clear hgA hg2 hown1 CO'
  have key : (E1 = 0 ∧ ((x1 : Int) != (len0 : Int) - (1 + (q : Int))) = false) ∨ E1 = 250 := by
    rcases hls with ⟨h1, h2⟩ | h1
    · exact .inl ⟨h1, by simp; omega⟩
    · exact .inr h1
  have key2 : (E2 = 0 ∧ ((x2 : Int) == (len0 : Int) + (len1 : Int)) = true ∧ len0 + 5 + len1 ≤ 128) ∨ E2 = 250 := by
    rcases hla with ⟨h1, h2⟩ | h1
    · refine .inl ⟨h1, by simp; omega, ?_⟩
      rcases Nat.lt_or_ge 128 (len0 + 5 + len1) with h3 | h3
      · have := hgr h3
        omega
      · exact h3
    · exact .inr h1
  clear hls hla hgr
  have key' := Lib.hid key2
  clear key2
  rcases key with ⟨rfl, hne⟩ | rfl
  all_goals
    by_cases hz : len1 = 0
    · subst hz
      go_wp2_with fail
      go_ret
      exact ⟨rfl, grown_below hgB⟩
    · have hzz : ((len1 : Int) == 0) = false := by simp; omega
      clear hz
      go_wp2_with fail
      refine (CC.out _ _ _ hown2.reads).mono ?_; rintro e w3 ⟨A3, c3, rfl, hown3, hg3⟩
      have hgC := grown_trans hgB hg3
      have hsz := hg3.size
      clear hown2
      go_wp2_with (at_builtin; refine wpList_append_Own rfl (.tmp 65) (.tmp 66) _ rfl w2.heap.size 5 i0 _ 1 1 Try.underlying22 hi0 hz0 hz1 hz2 rfl (by omega) A3 (len0 + 5) c3 _ rfl hown3 a1 len1 cap1 _ (m.map byte) rfl hml.out (hmr.grown0 hgC) h1m (by simp only [maxLen]; omega) (by omega) hsz ?_; intro A4 c4 w4 hown4 hg4 _)
      have hgD := grown_trans hgB (grown_new hg3 hg4 (fun g e => (hown3.row_ge g e).1))
      have k3 := hown4.2.1
      have k4 : c4 ≤ 9223372036854775807 := by have := hown4.2.2.1; unfold maxLen at this; omega
      clear hown3 hg3 hg4 hgC
      refine (CQ'.out _ _ _ _ (by omega) k3 k4 hown4.reads).mono ?_; rintro e w5 ⟨A5, c5, rfl, hg5⟩
      rcases key'.out with ⟨rfl, q1, q2⟩ | rfl
      · go_wp2
        go_ret
        exact ⟨rfl, grown_below (grown_trans hgD hg5)⟩
      · by_cases h128 : len0 + 5 + len1 ≤ 128
        · go_wp2
          go_ret
          exact ⟨rfl, grown_below (grown_trans hgD hg5)⟩
        · go_wp2
          go_ret
          exact ⟨rfl, grown_below (grown_trans hgD hg5)⟩
end Go.Proofs.Ythijicpfihpkfaa
