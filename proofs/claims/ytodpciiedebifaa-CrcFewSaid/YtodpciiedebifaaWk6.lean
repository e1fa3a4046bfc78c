/- The walk of CrcFew. -/
import Derived.Test.YtodpciiedebifaaWk5
namespace Go.Proofs.Ytodpciiedebifaa
open Go Go.RowKit
def el3 (i j k : Int) (m : Nat) : Int := if m = 0 then i else if m = 1 then j else k

theorem el3_bd (i j k : Int) (hi : -9223372036854775808 ≤ i ∧ i ≤ 9223372036854775807) (hj : -9223372036854775808 ≤ j ∧ j ≤ 9223372036854775807) (hk : -9223372036854775808 ≤ k ∧ k ≤ 9223372036854775807) (m : Nat) :
    -9223372036854775808 ≤ el3 i j k m ∧ el3 i j k m ≤ 9223372036854775807 := by
  unfold el3
  by_cases h0 : m = 0
  · rw [if_pos h0]; exact hi
  · rw [if_neg h0]
    by_cases h1 : m = 1
    · rw [if_pos h1]; exact hj
    · rw [if_neg h1]; exact hk
set_option maxHeartbeats 1000000 in
theorem CrcFew_walk (a0 : Option Addr) (len0 cap0 : Nat) (z0 : List Int) (i j k : Int) (w : World) (w0 : IsRow .u8 w a0 len0 cap0 z0) (wi : (Lit.int .i64 i).wf = true) (wj : (Lit.int .i64 j).wf = true) (wk : (Lit.int .i64 k).wf = true) :
    Calls Try.prog 9 #[.slice a0 len0 cap0, .int .i64 i, .int .i64 j, .int .i64 k] w fun e w' => e = .returned (.bool true) ∧ Below w.heap.size w w' := by
  have b0 := w0.len_
  have hi : -9223372036854775808 ≤ i ∧ i ≤ 9223372036854775807 := by simpa [Lit.wf, IntKind.min, IntKind.max, IntKind.signed, IntKind.bits] using wi
  have hj : -9223372036854775808 ≤ j ∧ j ≤ 9223372036854775807 := by simpa [Lit.wf, IntKind.min, IntKind.max, IntKind.signed, IntKind.bits] using wj
  have hk : -9223372036854775808 ≤ k ∧ k ≤ 9223372036854775807 := by simpa [Lit.wf, IntKind.min, IntKind.max, IntKind.signed, IntKind.bits] using wk
  have hel : ∀ m, -9223372036854775808 ≤ el3 i j k m ∧ el3 i j k m ≤ 9223372036854775807 := el3_bd i j k hi hj hk
  have hel' := Lib.hid hel; clear hel hi hj hk
  obtain ⟨l, hl, hb, hr⟩ := w0.bytes_
  obtain ⟨i0, hi0, hz0, hz1, hz2⟩ := info_parts info8
  have hs1 : (Try.prog.info? 5).map (·.size) = some 1 := by kernel_rfl
  by_cases h0 : 128 < len0
  · go_enter Try.func9, Try.ntmps9
    go_wp2_with fail
    refine (awake_any _).mono ?_; rintro e w1 ⟨rfl, hg1⟩
    go_wp2
    go_ret
    exact ⟨rfl, grown_below hg1⟩
  have hwl : (withs l).length = len0 + 4 := by rw [withs_len, hl]
  have CW := Lib.hid (fun W B (hr : Reads W B a0 (l.map byte)) => with_any' a0 len0 cap0 l W B hl hr hb (by omega))
  have hwb := Lib.hid (withs_byt hb)
  have hq : ∀ xs : List Nat, Byt xs → xs.length = len0 + 4 → differ xs (withs l) ≤ 3 → wholeB xs = true → xs = withs l := fun xs h1 h2 h3 h4 =>
    apart4 xs _ h1 (withs_byt hb) (by rw [h2, hwl]) (by omega) h4 (whole_withs l) h3
  have hq' := Lib.hid hq; clear hq
  have hqw := Lib.hid (whole_withs l)
  have hqt := Lib.hid (show (withs l).take (len0 + 4 - 4) = l by rw [Nat.add_sub_cancel, ← hl]; unfold withs; exact List.take_left)
  have hqd := Lib.hid (fun xs (h1 : Byt xs) (h2 : xs.length = len0 + 4) => differ_zero xs (withs l) h1 (withs_byt hb) (by rw [h2, hwl]))
  generalize withs l = q at *
  have hwl' := Lib.hid hwl; clear hwl
  go_enter Try.func9, Try.ntmps9
  go_wp2_with fail
  refine (awake_any _).mono ?_; rintro e w1 ⟨rfl, hg1⟩
  go_wp2_with fail
  refine (CW.out _ _ (hr.grown0 hg1)).mono ?_; rintro e w2 ⟨A2, rfl, hown2, hg2⟩
  have hrq := hown2.reads
  go_wp2_with (first
    | (at_make; refine wpList_make_full _ rfl (.tmp 30) (.tmp 30) _ rfl w2.heap.size 5 i0 _ 1 Try.underlying22 hi0 hz0 hz1 _ _ _ _ (len0 + 4) rfl rfl (by simp) (by simp) (by rw [hz2]; omega) (by unfold maxLen; omega) (Nat.le_refl _) ?_; intro w3 hown3 hg3; rw [made8] at hown3; have ho3 := ownsRow_Own hown3; clear hown3)
    | (have _t := ho3; (with_reducible refine wpList_copy_Own (o := ⟨some 34, _, _, _, _, _⟩) ?_ (.tmp 32) (.tmp 33) 22 ?_ 5 Try.underlying22 hs1 w2.heap.size w2.heap.size (len0 + 4) (len0 + 4) _ ?_ ho3 ?_ A2 (len0 + 4) w2.heap.size (q.map byte) ?_ ?_ (hrq.grown0 hg3) (byte_one q) ?_); (exact rfl); (exact rfl); (exact rfl); (omega); (exact rfl); (rw [List.length_map]; exact hwl'.out); intro w4 ho4 hg4; clear ho3 _t))
  have hC : ∀ m, m < 3 → (w4.alloc (.cells #[Value.int .i64 i, .int .i64 j, .int .i64 k] 3)).cell? ⟨w4.heap.size, m, none⟩ = some (.int .i64 (el3 i j k m)) := fun m hm => by
    rw [cell_of_row _ _ _ _ _ _ (heap_alloc_new w4 _)]
    have : m = 0 ∨ m = 1 ∨ m = 2 := by omega
    rcases this with h | h | h <;> subst h <;> rfl
  have hC' := Lib.hid hC; clear hC
  have hz4 : w2.heap.size < w4.heap.size := by
    have h1 := ho4.row_ge w2.heap.size (by simp [rowOf])
    exact h1.2
  have hal := World.grownBy_alloc w4 (.cells #[Value.int .i64 i, .int .i64 j, .int .i64 k] 3) none
  have ho5 := ho4.alloc (.cells #[Value.int .i64 i, .int .i64 j, .int .i64 k] 3)
  have hle : w.heap.size ≤ w2.heap.size := Nat.le_trans hg1.size hg2.size
  have hrow2 : rowOf A2 (len0 + 4) ≠ some w2.heap.size := fun e => by have := (hown2.row_ge _ e).2; omega
  have hownA := (((hown2.grown0 hg3).grownBy_ hg4 (.inr hrow2)).grown0 hal)
  have hrB := ((((hr.grown0 hg1).grown0 hg2).grown0 hg3).grown hg4 (fun x hx => by cases hx; exact hle)).grown0 hal
  have hgB := grown_trans (grown_new (grown_trans hg1 (grown_trans hg2 hg3)) hg4 (fun x hx => by cases hx; exact hle)) hal
  have hd0 : differ q q = 0 := (hqd.out q hwb.out hwl'.out).2 rfl
  have hd0' := Lib.hid hd0; clear hd0
  clear hown2 hg1 hg2 hg3 hg4 hal ho4 hrq
  have hG : w2.heap.size ≠ w4.heap.size := by omega
  generalize w4.heap.size = G at *
  generalize w4.alloc _ = W at *
  generalize w2.heap.size = g at *
  go_loopw [12] (fun v wr => ∃ (m : Nat) (xs : List Nat), m ≤ 3 ∧ v = .int .i64 m ∧ xs.length = len0 + 4 ∧ Byt xs ∧ differ xs q ≤ m ∧ Own wr g 5 1 (some ⟨g, 0, none⟩) (len0 + 4) (len0 + 4) (xs.map byte) ∧ W.grownBy wr (some g)) (fun v _ => 3 - (intOf v).toNat)
  case atStart => exact ⟨0, q, by omega, rfl, hwl'.out, hwb.out, by rw [hd0'.out]; exact Nat.le_refl _, ho5, World.grownBy.refl _ _⟩
  case round =>
    obtain ⟨m, xs, hm, rfl, hxl, hxb, hxd, hxo, hxg⟩ := hrel
    by_cases hlt : m < 3
    · have hcell := hxg.cell (hC'.out m hlt) (by simp; omega)
      have hb3 := hel'.out m
      have hF := flip_any (some ⟨g, 0, none⟩) (len0 + 4) (len0 + 4) (el3 i j k m) xs wr g hxl hxo hxb (by omega) (by omega) hb3.1 hb3.2
      have hyl : (flipL xs (place (len0 + 4) (el3 i j k m))).length = len0 + 4 := by rw [flipL_len, hxl]
      have hyb := flipL_byt hxb (place (len0 + 4) (el3 i j k m))
      have hyd : differ (flipL xs (place (len0 + 4) (el3 i j k m))) q ≤ m + 1 := by
        have hp : place (len0 + 4) (el3 i j k m) < 8 * (len0 + 4) := Nat.mod_lt _ (by omega)
        have := differ_flip xs q hxb hwb.out (by rw [hxl, hwl'.out]) (place (len0 + 4) (el3 i j k m)) (by omega)
        unfold flipL
        omega
      have hro : rowOf (some (⟨g, 0, none⟩ : Addr)) (len0 + 4) = some g := by simp [rowOf]
      rw [hro] at hF
      clear hro
      generalize flipL xs (place (len0 + 4) (el3 i j k m)) = ys at *
      generalize el3 i j k m = x at *
      clear hxl hxb hxd
      have CF := Lib.hid hF; clear hF
      have hyl' := Lib.hid hyl
      have CO := Lib.hid (fun V X (hr : Reads V X (some ⟨g, 0, none⟩) (ys.map byte)) => without_any (some ⟨g, 0, none⟩) (len0 + 4) (len0 + 4) ys V X hyl hr hyb (by omega) (Nat.le_refl _) (by omega))
      have CD := Lib.hid (fun V X Y (h1 : Reads V X (some ⟨g, 0, none⟩) (ys.map byte)) (h2 : Reads V Y A2 (q.map byte)) => differ_any (some ⟨g, 0, none⟩) A2 (len0 + 4) (len0 + 4) (len0 + 4) (len0 + 4) ys q V X Y hyl hwl'.out h1 h2 hyb hwb.out (by omega) (by omega))
      have hiff := hqd.out ys hyb hyl
      have himp := hq'.out ys hyb hyl (by omega)
      by_cases hyq : ys = q
      · subst hyq
        rw [hqw.out, if_pos rfl, hqt.out] at CO
        rw [hd0'.out] at CD
        clear hiff himp hyl
        have CS := Lib.hid (fun A c V X Y (h1 : Reads V X A (l.map byte)) (h2 : Reads V Y a0 (l.map byte)) => lawsame_any A a0 len0 c len0 cap0 l l V X Y hl hl h1 h2 hb hb (by omega) (by omega) rfl)
        go_wp2_with fail
        refine CF.out.mono ?_; rintro e w5 ⟨rfl, ho5', hg5⟩
        go_wp2_with fail
        refine (CO.out _ _ ho5'.reads).mono ?_; rintro e w6 ⟨A6, m6, c6, rfl, ho6, hg6⟩
        have hm6 := ho6.len
        rw [List.length_map, Nat.mul_one, hl] at hm6
        subst hm6
        go_wp2_with fail
        have hgx := grown_trans hxg (grown_trans hg5 (grown_drop hg6))
        refine (CD.out _ _ _ (ho5'.grown0 hg6).reads (hownA.grownBy_ hgx (.inr hrow2)).reads).mono ?_; rintro e w7 ⟨rfl, hg7⟩
        go_wp2_with fail
        refine (CS.out A6 c6 _ _ _ (ho6.grown0 hg7).reads ((hrB.grown hgx (fun x hx => by cases hx; exact hle)).grown0 hg7)).mono ?_; rintro e w8 ⟨rfl, hg8⟩
        have hll : (l == l) = true := by simp
        have hfr := grown_trans hgx (grown_trans (grown_drop hg7) hg8.grown_)
        have hof := ((ho5'.grown0 hg6).grown0 hg7).grown0 hg8.grown_
        clear ho5' hg5 ho6 hg6 hg7 hg8 hgx
        go_wp2
        go_roundw
        case rel => exact ⟨m + 1, ys, by omega, by go_num, hyl'.out, hyb, hyd, hof, hfr⟩
        case measure => simp [intOf]; omega
      · have hwf : wholeB ys = false := by
          rcases Bool.eq_false_or_eq_true (wholeB ys) with h | h
          · exact absurd (himp h) hyq
          · exact h
        rw [hwf] at CO
        have hdd : ¬ differ ys q = 0 := fun h => hyq (hiff.1 h)
        clear hiff himp hyl hwf hyq
        obtain ⟨dd, hdq⟩ : ∃ dd, dd = differ ys q := ⟨_, rfl⟩
        rw [← hdq] at CD hdd
        have hyd2 : dd ≤ m + 1 := by rw [hdq]; exact hyd
        clear hdq
        have hyd3 := Lib.hid hyd
        clear hyd
        have hbz : ((dd : Int) == 0) = false := by simp; omega
        have hbg : decide ((m : Int) + 1 < (dd : Int)) = false := by simp; omega
        go_wp2_with fail
        refine CF.out.mono ?_; rintro e w5 ⟨rfl, ho5', hg5⟩
        go_wp2_with fail
        refine (CO.out _ _ ho5'.reads).mono ?_; rintro e w6 ⟨A6, m6, c6, rfl, ho6, hg6⟩
        go_wp2_with fail
        have hgx := grown_trans hxg (grown_trans hg5 (grown_drop hg6))
        refine (CD.out _ _ _ (ho5'.grown0 hg6).reads (hownA.grownBy_ hgx (.inr hrow2)).reads).mono ?_; rintro e w7 ⟨rfl, hg7⟩
        have hfr := grown_trans hgx (grown_drop hg7)
        have hof := (ho5'.grown0 hg6).grown0 hg7
        clear ho5' hg5 ho6 hg6 hg7 hgx
        go_wp2
        go_roundw
        case rel => exact ⟨m + 1, ys, by omega, by go_num, hyl'.out, hyb, hyd3.out, hof, hfr⟩
        case measure => simp [intOf]; omega
    · go_wp2
      go_ret
      exact ⟨rfl, grown_below (grown_new hgB hxg (fun x hx => by cases hx; exact hle))⟩
end Go.Proofs.Ytodpciiedebifaa
