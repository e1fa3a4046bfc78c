/- The walk of WordsOne. -/
import Derived.Test.YthijicpfihpkfaaLn
import Derived.OwnWalk
namespace Go.Proofs.Ythijicpfihpkfaa
open Go Go.RowKit
theorem isWord_last {l : List Nat} (h : isWord l = true) : 1 ≤ l.length := by
  cases l with
  | nil => simp [isWord] at h
  | cons d r => simp
/-- 'stands': the word stands there. -/
theorem stands_yes (A : Option Addr) (n c : Nat) (at' : Int) (l : List Nat) (v size : Nat) (w : World) (hnc : n ≤ c) (hc : c ≤ 9223372036854775807) (hn : n ≤ 1000000) (hl : l.length = n) (hr : Reads w w.heap.size A (l.map byte)) (hb : Byt l) (h1 : -9223372036854775808 ≤ at') (h2 : at' ≤ 9223372036854775807) (hg : getV l at' = some (v, size)) :
    Calls Try.prog 28 #[.slice A n c, .int .i64 at', .int .u64 v, .int .i64 size] w fun e w' => e = .returned (.bool true) ∧ w.grownBy w' none := by
  have C := Lib.hid (get_any A n c at' l w hnc hc hn hl hr hb h1 h2)
  rw [hg] at C
  unfold resT at C
  clear hg hr hl hb
  go_enter Try.func28, Try.ntmps28
  go_wp2_with fail
  refine C.out.mono ?_; rintro e w1 ⟨rfl, hg1⟩
  go_wp2
  go_ret
  exact ⟨by simp, hg1⟩
set_option maxRecDepth 100000 in
set_option maxHeartbeats 2000000 in
theorem WordsOne_walk (a0 : Int) (a1 : Option Addr) (len1 cap1 : Nat) (z1 : List Int) (a2 : Option Addr) (len2 cap2 : Nat) (z2 : List Int) (w : World) (w0 : (Lit.int .u64 a0).wf = true) (w1 : IsRow .u8 w a1 len1 cap1 z1) (w2 : IsRow .u8 w a2 len2 cap2 z2) :
    Calls Try.prog 5 #[.int .u64 a0, .slice a1 len1 cap1, .slice a2 len2 cap2] w fun e w' => e = .returned (.bool true) ∧ Below w.heap.size w w' := by
  have b1 := w1.len_
  have b2 := w2.len_
  obtain ⟨l1, hl1, hb1, hr1⟩ := w1.bytes_
  obtain ⟨l2, hl2, hb2, hr2⟩ := w2.bytes_
  have hn := wfU64 w0
  obtain ⟨n, rfl⟩ := Int.eq_ofNat_of_zero_le hn.1
  have bn : n < 18446744073709551616 := by omega
  clear w0 w1 w2
  by_cases h1 : 300 < len1
  · go_enter Try.func5, Try.ntmps5
    go_wp2_with fail
    refine (awake_any _).mono ?_; rintro e w0 ⟨rfl, hg0⟩
    go_wp2
    go_ret
    exact ⟨rfl, grown_below hg0⟩
  by_cases h2 : 300 < len2
  · go_enter Try.func5, Try.ntmps5
    go_wp2_with fail
    refine (awake_any _).mono ?_; rintro e w0 ⟨rfl, hg0⟩
    go_wp2
    go_ret
    exact ⟨rfl, grown_below hg0⟩
  obtain ⟨i0, hi0, hz0, hz1, hz2⟩ := info_parts infoB
  have CP := Lib.hid (fun W => put_any n W bn)
  have CS := Lib.hid (fun W => size_any n W bn)
  have hp1 := putL_pos n
  have hp2 := putL_len10 n bn
  have hpb := putL_byt n
  have G1 := Lib.hid (show getV (l1 ++ (putL n).take ((putL n).length - 1)) len1 = none by
    unfold getV
    split
    · rfl
    · rw [Int.toNat_natCast, ← hl1, List.drop_left]
      exact getL_torn n _ (by omega))
  have G2 := Lib.hid (show getV (l1 ++ putL n ++ l2) len1 = some (n, (putL n).length) by
    unfold getV
    rw [if_neg (by simp [hl1]; omega)]
    rw [Int.toNat_natCast, ← hl1, List.append_assoc, List.drop_left]
    exact getL_putL n bn l2)
  have G3 := Lib.hid (show getV l2 0 = getL l2 by
    unfold getV
    by_cases h0 : l2 = []
    · subst h0; simp; rfl
    · have : 0 < l2.length := List.length_pos_iff.2 h0
      rw [if_neg (by omega)]
      rfl)
  have hfirst := Lib.hid (show (l1 ++ putL n).take ((l1 ++ putL n).length - 1) = l1 ++ (putL n).take ((putL n).length - 1) by
    rw [List.length_append, show l1.length + (putL n).length - 1 = l1.length + ((putL n).length - 1) by omega, List.take_append, List.take_of_length_le (by omega), show l1.length + ((putL n).length - 1) - l1.length = (putL n).length - 1 by omega])
  have hput := Lib.hid (fun (v k : Nat) (h : getL l2 = some (v, k)) => getL_put hb2 h)
  generalize putL n = p at *
  have hl1' := Lib.hid hl1
  have hl2' := Lib.hid hl2
  clear hl1 hl2
  go_enter Try.func5, Try.ntmps5
  go_wp2_with fail
  refine (awake_any _).mono ?_; rintro e w0 ⟨rfl, hg0⟩
  go_wp2_with fail
  refine (CP.out _).mono ?_; rintro e w1 ⟨A1, c1, rfl, hown1, hg1⟩
  have hgA := grown_trans hg0 hg1
  have hszA := hgA.size
  clear hg0 hg1
  go_wp2_with (first
    | (at_make; refine wpList_make_own _ rfl _ _ _ rfl w1.heap.size 5 i0 _ 1 Try.underlying22 hi0 hz0 hz1 .i64 .i64 700 700 rfl rfl rfl (by rw [hz2]; omega) (by unfold maxLen; omega) (Nat.le_refl _) ?_; intro w2 hownB hg2; have hszB := hg2.size)
    | (at_builtin; refine wpList_append_Own rfl (.tmp 31) (.tmp 32) _ rfl w1.heap.size 5 i0 _ 1 1 Try.underlying22 hi0 hz0 hz1 hz2 rfl (by omega) (some ⟨w1.heap.size, 0, none⟩) (0) 700 _ rfl (ownsRow_Own hownB) a1 len1 cap1 _ (l1.map byte) rfl (by simp; exact hl1'.out) (hr1.grown0 (grown_trans hgA hg2)) (byte_one _) (by simp only [maxLen]; omega) (by omega) (hszB) ?_; intro A2 cA w3 hownC hg3 _; simp only [Nat.zero_add, List.nil_append] at hownC ⊢; have hg13 := grown_new hg2 hg3 (fun g e => by simp [rowOf] at e; omega); have hszC := hg13.size)
    | (at_builtin; refine wpList_append_Own rfl (.tmp 34) (.tmp 35) _ rfl w1.heap.size 5 i0 _ 1 1 Try.underlying22 hi0 hz0 hz1 hz2 rfl (by omega) A2 (len1) cA _ rfl (hownC) A1 p.length c1 _ (p.map byte) rfl (by simp) ((hown1.grown0 hg13).reads) (byte_one _) (by simp only [maxLen]; omega) (by omega) (hszC) ?_; intro A3 cB w4 hownD hg4 _; simp only [Nat.zero_add, List.nil_append] at hownD ⊢; have hg14 := grown_new hg13 hg4 (fun g e => (hownC.row_ge g e).1); have h30 := map_add0 A3; have h30' := map_add0' A3; have hcB := hownD.2.1; have hcB2 : cB ≤ 9223372036854775807 := (by have := hownD.2.2.1; unfold maxLen at this; omega)))
  have hszD := hg14.size
  clear hownB hownC hg2 hg3 hg4 hszB hszC hg13 h30 h30'
  rw [← List.map_append] at hownD
  have hRt : Reads w4 w4.heap.size A3 ((l1 ++ p.take (p.length - 1)).map byte) := by
    rw [← hfirst.out, List.map_take]
    exact hownD.reads.take _
  have hbt : Byt (l1 ++ p.take (p.length - 1)) := fun x hx => by
    rcases List.mem_append.1 hx with h | h
    · exact hb1 x h
    · exact hpb x (List.mem_of_mem_take h)
  have C1 := Lib.hid (get_any A3 (len1 + p.length - 1) cB len1 _ w4 (by omega) hcB2 (by omega) (by simp; have := hl1'.out; omega) hRt hbt (by omega) (by omega))
  rw [G1.out] at C1
  unfold resT at C1
  clear hRt hbt
  refine C1.out.mono ?_; rintro e w5 ⟨rfl, hg5⟩
  have hownD5 := hownD.grown0 hg5
  have hg15 := grown_trans hg14 hg5
  have hszE := hg15.size
  clear hownD hg14 hg5 hszD C1
  go_wp2_with (at_builtin; refine wpList_append_Own rfl (.tmp 56) (.tmp 57) _ rfl w1.heap.size 5 i0 _ 1 1 Try.underlying22 hi0 hz0 hz1 hz2 rfl (by omega) A3 (len1 + p.length) cB _ rfl (hownD5) a2 len2 cap2 _ (l2.map byte) rfl (by simp; exact hl2'.out) (hr2.grown0 (grown_trans hgA hg15)) (byte_one _) (by simp only [maxLen]; omega) (by omega) (hszE) ?_; intro A4 cC w6 hownE hg6 _; have hg16 := grown_new hg15 hg6 (fun g e => (hownD5.row_ge g e).1))
  rw [← List.map_append] at hownE
  have hcC := hownE.2.1
  have hcC2 : cC ≤ 9223372036854775807 := by have := hownE.2.2.1; unfold maxLen at this; omega
  have hgF := grown_trans hgA hg16
  clear hownD5 hg15 hg6 hszE hgA hg16
  have hb3 : Byt (l1 ++ p ++ l2) := fun x hx => by
    rcases List.mem_append.1 hx with h | h
    · rcases List.mem_append.1 h with h | h
      · exact hb1 x h
      · exact hpb x h
    · exact hb2 x h
  have hsy := Lib.hid (stands_yes A4 (len1 + p.length + len2) cC len1 (l1 ++ p ++ l2) n p.length w6 (by omega) hcC2 (by omega) (by simp; have := hl1'.out; have := hl2'.out; omega) hownE.reads hb3 (by omega) (by omega) G2.out)
  clear hownE hb3 hb1 hpb
  go_wp2_with fail
  refine hsy.out.mono ?_; rintro e w7 ⟨rfl, hg7⟩
  have hgG := grown_trans hgF hg7
  clear hgF hg7 hsy
  go_wp2_with fail
  refine (CS.out _).mono ?_; rintro e w8 ⟨rfl, rfl⟩
  have C3 := Lib.hid (get_any a2 len2 cap2 0 l2 w7 b2.1 b2.2 (by omega) hl2'.out ((hr2.grown0 hgG).more hgG.size) hb2 (by omega) (by omega))
  rw [G3.out] at C3
  cases hgl : getL l2 with
  | none =>
    rw [hgl] at C3
    clear hgl
    unfold resT at C3
    go_wp2_with fail
    refine C3.out.mono ?_; rintro e w9 ⟨rfl, hg9⟩
    go_wp2
    go_ret
    exact ⟨rfl, grown_below (grown_trans hgG hg9)⟩
  | some q =>
    obtain ⟨v, k⟩ := q
    obtain ⟨e1, e2, e3, e4, e5, e6⟩ := hput.out v k hgl
    have hkl : (l2.take k).length = k := by rw [← e1]; exact e2
    have CV := Lib.hid (fun W => put_any v W e4)
    rw [e1, hkl] at CV
    rw [hgl] at C3
    have e3' : k ≤ len2 := by have := hl2'.out; omega
    have hnt := Lib.hid (fun j (hj : j < k) => show nth (l2.take k) j = nth l2 j by
      rw [nth_getElem (by omega), nth_getElem (by omega)]
      simp)
    have hkl' := Lib.hid hkl
    clear hgl e1 e2 e3 hkl
    unfold resT at C3
    go_wp2_with fail
    refine C3.out.mono ?_; rintro e w9 ⟨rfl, hg9⟩
    have hgH := grown_trans hgG hg9
    clear hgG hg9 C3
    go_wp2_with fail
    refine (CV.out _).mono ?_; rintro e w10 ⟨A9, c9, rfl, hown9, hg10⟩
    have hgI := grown_trans hgH hg10
    have hr2' := hr2.grown0 hgI
    clear hgH hg10 CV
    go_wp2_with fail
    go_loopw [17] (fun i wr => ∃ j : Nat, j ≤ k ∧ i = .int .i64 j ∧ Drew w10 wr) (fun i _ => k - (intOf i).toNat)
    case atStart => exact ⟨0, by omega, rfl, Drew.refl_ _⟩
    case round =>
      obtain ⟨j, hj, rfl, q, rfl⟩ := hrel
      by_cases hlt : j < k
      · obtain ⟨g1, rfl, _, _, x1, _⟩ := hown9.byte_at (k := j) (by rw [hkl'.out]; exact hlt)
        obtain ⟨ad2, rfl, _, x2⟩ := hr2'.byte_ (k := j) (by have := hl2'.out; omega)
        rw [hnt.out j hlt] at x1
        generalize nth l2 j = y at *
        have hyy : ((y : Int) != (y : Int)) = false := by simp
        go_wp2_with fail
        go_quiet (fail)
        go_wp2
        go_roundw
        case rel => exact ⟨j + 1, by omega, by go_num, (Drew.refl_ _).more_ _⟩
        case measure => simp [intOf]; omega
      · go_wp2
        go_ret
        exact ⟨rfl, grown_below (grown_drewN hgI _)⟩
end Go.Proofs.Ythijicpfihpkfaa
