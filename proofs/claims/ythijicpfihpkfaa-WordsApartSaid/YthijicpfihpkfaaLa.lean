/- The walk of WordsApart. -/
import Derived.Test.YthijicpfihpkfaaLf
import Derived.BigQuiet
import Derived.Deep.QuietTactic
namespace Go.Proofs.Ythijicpfihpkfaa
open Go Go.RowKit
theorem putL_mono {n m : Nat} (h : n ≤ m) : (putL n).length ≤ (putL m).length := by
  induction n using Nat.strongRecOn generalizing m with
  | _ n ih =>
    by_cases hn : n < 128
    · rw [putL_lo hn]
      have := putL_pos m
      simp; omega
    · rw [putL_hi hn, putL_hi (n := m) (by omega)]
      have := @ih (n / 128) (by omega) (m / 128) (by omega)
      simp; omega
theorem apart_lt {n m k : Nat} (hk : k = min (putL n).length (putL m).length) (h : (putL n).take k = (putL m).take k) (hl : (putL n).length ≤ (putL m).length) : n = m := by
  have hk' : k = (putL n).length := by omega
  rw [hk', List.take_length] at h
  by_cases he : (putL n).length = (putL m).length
  · rw [he, List.take_length] at h
    exact putL_inj h
  · have h1 := isWord_take (isWord_putL m) (k := (putL n).length) (by omega)
    rw [← h, word_findIdx (isWord_putL n)] at h1
    cases h1
theorem apart_eq {n m k : Nat} (hk : k = min (putL n).length (putL m).length) : ((putL n).take k == (putL m).take k) = decide ((n : Int) = (m : Int)) := by
  by_cases e : n = m
  · subst e
    simp
  · have h1 : ¬ (putL n).take k = (putL m).take k := fun h => by
      rcases Nat.le_total (putL n).length (putL m).length with hl | hl
      · exact e (apart_lt hk h hl)
      · exact e (apart_lt (by omega) h.symm hl).symm
    have h2 : ¬ (n : Int) = (m : Int) := by omega
    simp [h1, h2]
theorem take_snocs {a b : List Nat} {k : Nat} (ha : k < a.length) (hb : k < b.length) : (a.take (k + 1) == b.take (k + 1)) = (a.take k == b.take k && ((nth a k : Int) == (nth b k : Int))) := by
  rw [List.take_succ_eq_append_getElem ha, List.take_succ_eq_append_getElem hb, nth_getElem ha, nth_getElem hb]
  rw [Bool.eq_iff_iff]
  simp only [beq_iff_eq, Bool.and_eq_true, Int.natCast_inj]
  constructor
  · intro h
    obtain ⟨h1, h2⟩ := List.append_inj' h rfl
    exact ⟨h1, by simpa using h2⟩
  · rintro ⟨h1, h2⟩
    rw [h1, h2]
set_option maxHeartbeats 1000000 in
theorem WordsApart_walk (w : World) (v : Int) (wv : (Lit.int .u64 v).wf = true) (u : Int) (wu : (Lit.int .u64 u).wf = true) :
    Calls Try.prog 6 #[.int .u64 v, .int .u64 u] w fun e w' => e = .returned (.bool true) ∧ Below w.heap.size w w' := by
  have hn := wfU64 wv
  have hm := wfU64 wu
  obtain ⟨n, rfl⟩ := Int.eq_ofNat_of_zero_le hn.1
  obtain ⟨m, rfl⟩ := Int.eq_ofNat_of_zero_le hm.1
  have bn : n < 18446744073709551616 := by omega
  have bm : m < 18446744073709551616 := by omega
  have C1 := Lib.hid (fun W => put_any n W bn)
  have C2 := Lib.hid (fun W => put_any m W bm)
  have hl1 := putL_len10 n bn
  have hl2 := putL_len10 m bm
  have hmono := Lib.hid (fun h : n ≤ m => putL_mono h)
  have hap := Lib.hid (fun k (hk : k = min (putL n).length (putL m).length) => apart_eq hk)
  generalize putL n = a at *
  generalize putL m = b at *
  clear wu wv
  go_enter Try.func6, Try.ntmps6
  go_wp2_with fail
  refine (awake_any _).mono ?_; rintro e w0 ⟨rfl, hg0⟩
  go_wp2_with fail
  refine (C1.out _).mono ?_; rintro e w1 ⟨A1, c1, rfl, hown1, hg1⟩
  go_wp2_with fail
  refine (C2.out _).mono ?_; rintro e w2 ⟨A2, c2, rfl, hown2, hg2⟩
  have hown1' := hown1.grown0 hg2
  have hg := grown_trans hg0 (grown_trans hg1 hg2)
  clear hown1 hg0 hg1 hg2
  go_wp2_with fail
  go_loopw [7, 8] (fun s i wr => ∃ k : Nat, k ≤ a.length ∧ k ≤ b.length ∧ i = .int .i64 k ∧ s = .bool (a.take k == b.take k) ∧ Drew w2 wr) (fun _ i _ => a.length - (intOf i).toNat)
  case atStart => exact ⟨0, by omega, by omega, rfl, by simp, Drew.refl_ _⟩
  case round =>
    obtain ⟨k, hk1, hk2, rfl, rfl, q, rfl⟩ := hrel
    by_cases hlt : k < a.length ∧ k < b.length
    · obtain ⟨h1, h2⟩ := hlt
      obtain ⟨g1, rfl, _, _, x1, _⟩ := hown1'.byte_at h1
      obtain ⟨g2, rfl, _, _, x2, _⟩ := hown2.byte_at h2
      have hs := take_snocs h1 h2
      cases hq : (a.take k == b.take k) with
      | true =>
        rw [hq, Bool.true_and] at hs
        have hs' := Lib.hid hs
        clear hs hq
        generalize nth a k = x at *
        generalize nth b k = y at *
        go_wp2_with fail
        go_quiet (fail)
        go_wp2
        go_roundw
        case rel => exact ⟨k + 1, by omega, by omega, by go_num, by rw [hs'.out], (Drew.refl_ _).more_ _⟩
        case measure => simp [intOf]; omega
      | false =>
        rw [hq, Bool.false_and] at hs
        have hs' := Lib.hid hs
        clear hs hq
        go_wp2_with fail
        go_quiet (fail)
        go_wp2
        go_roundw
        case rel => exact ⟨k + 1, by omega, by omega, by go_num, by rw [hs'.out], (Drew.refl_ _).more_ _⟩
        case measure => simp [intOf]; omega
    · have hkk : k = min a.length b.length := by omega
      have hap' := hap.out k hkk
      rw [hap']
      clear hap' hkk hap
      rcases Nat.lt_trichotomy m n with he | he | he
      · have hd : (decide ((n : Int) = (m : Int))) = false := by simp; omega
        have hq : ((n : Int) == (m : Int)) = false := by simp; omega
        rw [hd]
        clear hd
        by_cases hlt1 : k < a.length
        all_goals
          go_wp2
          all_goals (go_ret; exact ⟨rfl, grown_below (grown_drewN hg _)⟩)
      · have hml := hmono.out (by omega)
        have hd : (decide ((n : Int) = (m : Int))) = true := by simp; omega
        have hq : ((n : Int) == (m : Int)) = true := by simp; omega
        have hnm : ¬ m < n := by omega
        rw [hd]
        clear hd he
        by_cases hlt1 : k < a.length
        all_goals
          go_wp2
          all_goals (go_ret; exact ⟨rfl, grown_below (grown_drewN hg _)⟩)
      · have hml := hmono.out (by omega)
        have hd : (decide ((n : Int) = (m : Int))) = false := by simp; omega
        have hq : ((n : Int) == (m : Int)) = false := by simp; omega
        rw [hd]
        clear hd
        by_cases hlt1 : k < a.length
        all_goals
          go_wp2
          all_goals (go_ret; exact ⟨rfl, grown_below (grown_drewN hg _)⟩)
end Go.Proofs.Ythijicpfihpkfaa
