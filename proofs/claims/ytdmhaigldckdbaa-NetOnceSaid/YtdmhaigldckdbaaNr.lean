/- The document's Copy and Flip. -/
import Derived.Test.YtdmhaigldckdbaaNp
import Derived.RegionTactic
namespace Go.Proofs.Ytdmhaigldckdbaa
open Go Go.RowKit
/-- Which bit a number means, counted round. -/
def spot (n : Nat) (bit : Int) : Nat := (max bit 0).toNat % (8 * n)
def flipB (l : List Nat) (bit : Int) : List Nat := if l.length = 0 then l else flipL l (spot l.length bit)
theorem flipB_len (l : List Nat) (bit : Int) : (flipB l bit).length = l.length := by
  unfold flipB; split
  · rfl
  · rw [flipL_len]
theorem flipB_byt {l : List Nat} (h : Byt l) (bit : Int) : Byt (flipB l bit) := by
  unfold flipB; split
  · exact h
  · exact flipL_byt h _

/-- 'Copy': the same bytes, in memory of their own. -/
theorem copy_any (A : Option Addr) (n c : Nat) (l : List Nat) (w : World) (B : Nat) (hl : l.length = n) (hr : Reads w B A (l.map byte)) (hn : n ≤ 1000000) :
    Calls Try.prog 23 #[.slice A n c] w fun e w' => ∃ A' c', e = .returned (.slice A' n c') ∧ Own w' w.heap.size 5 1 A' n c' (l.map byte) ∧ w.grownBy w' none := by
  obtain ⟨i0, hi0, hz0, hz1, hz2⟩ := info_parts infoU8
  go_enter Try.func23, Try.ntmps23
  go_wp2_with (at_builtin; refine wpList_append_Own rfl (.tmp 4) (.tmp 5) _ rfl w.heap.size 5 i0 _ 1 1 Try.underlying27 hi0 hz0 hz1 hz2 rfl (by omega) none 0 0 [] rfl (Own.nil_ _ _ _ _ _) A n c B _ rfl (by simp [hl]) hr (fun u hu => by obtain ⟨x, _, rfl⟩ := List.mem_map.1 hu; rfl) (by simp only [maxLen]; omega) (by omega) (Nat.le_refl _) ?_; intro A' c' w1 hown1 hg1 _)
  go_ret
  exact ⟨A', c', rfl, by simpa using hown1, hg1⟩

theorem rflip_any (A : Option Addr) (n c : Nat) (bit : Int) (l : List Nat) (w : World) (B : Nat) (hl : l.length = n) (hr : Reads w B A (l.map byte)) (hb : Byt l) (hn : n ≤ 1000000) (_h1 : -9223372036854775808 ≤ bit) (_h2 : bit ≤ 9223372036854775807) :
    Calls Try.prog 34 #[.slice A n c, .int .i64 bit] w fun e w' => ∃ A' c', e = .returned (.slice A' n c') ∧ Own w' w.heap.size 5 1 A' n c' ((flipB l bit).map byte) ∧ w.grownBy w' none := by
  by_cases hn0 : n = 0
  · subst hn0
    have hfl := Lib.hid (show flipB l bit = l by unfold flipB; rw [if_pos hl])
    rcases (by omega : bit < 0 ∨ 0 ≤ bit) with hbit | hbit
    all_goals
      go_enter Try.func34, Try.ntmps34
      go_wp2_with fail
      refine (copy_any A 0 c l _ B hl hr (by omega)).mono ?_; rintro e w1 ⟨A1, c1, rfl, hown1, hg1⟩
      go_wp2_with fail
      go_loopw [6] (fun v wr => v = .int .i64 0 ∧ Own wr w.heap.size 5 1 A1 0 c1 (l.map byte) ∧ w.grownBy wr none) (fun _ _ => 0)
      case atStart => exact ⟨rfl, hown1, hg1⟩
      case round =>
        obtain ⟨rfl, hown, hg⟩ := hrel
        go_wp2
        go_ret
        exact ⟨A1, c1, rfl, by rw [hfl.out]; exact hown, hg⟩
  · have hp : spot n bit < 8 * n := Nat.mod_lt _ (by omega)
    have hfl := Lib.hid (show flipB l bit = flipL l (spot n bit) by unfold flipB; rw [if_neg (by omega), hl])
    have hpe : (max bit 0) % (8 * (n : Int)) = ((spot n bit : Nat) : Int) := by
      unfold spot
      rw [Int.natCast_emod, Int.toNat_of_nonneg (by omega)]
      simp
    generalize spot n bit = s at *
    rcases (by omega : bit < 0 ∨ 0 ≤ bit) with hbit | hbit
    · have hs0 : s = 0 := by
        rw [Int.max_eq_right (by omega), Int.zero_emod] at hpe
        omega
      clear hpe
      subst hs0
      have hx := hb.nth 0
      have e10 : bits .xor .u8 (nth l 0 : Int) 1 = ((nth l 0 ^^^ 1 : Nat) : Int) := u8_xor_nat (nth l 0) 1 hx (by omega)
      have hf0 := Lib.hid (show flipL l 0 = l.set 0 (nth l 0 ^^^ 1) by simp [flipL])
      go_enter Try.func34, Try.ntmps34
      go_wp2_with fail
      refine (copy_any A n c l _ B hl hr (by omega)).mono ?_; rintro e w1 ⟨A1, c1, rfl, hown1, hg1⟩
      go_wp2_with fail
      go_loopw [6] (fun v wr => ∃ k : Nat, k ≤ 8 * n ∧ v = .int .i64 k ∧ Own wr w.heap.size 5 1 A1 n c1 ((if 0 < k then flipL l 0 else l).map byte) ∧ w.grownBy wr none) (fun v _ => 8 * n - (intOf v).toNat)
      case atStart => exact ⟨0, by omega, rfl, by rw [if_neg (by omega)]; exact hown1, hg1⟩
      case round =>
        obtain ⟨k, hk, rfl, hown, hg⟩ := hrel
        by_cases hlt : k < 8 * n
        · by_cases hks : k = 0
          · subst hks
            rw [if_neg (by omega)] at hown
            obtain ⟨g, rfl, hg0, hgl, hc, hf⟩ := hown.byte_at (k := 0) (by omega)
            go_wp2
            go_roundw
            case rel => exact ⟨1, by omega, by go_num, by rw [if_pos (by omega), hf0.out]; exact hown.put_ _ _, grown_put hg hg0 _ _⟩
            case measure => simp [intOf]; omega
          · have hbt : ((k : Int) == 0) = false := by simp; omega
            have hks' := Lib.hid hks; clear hks
            go_wp2
            go_roundw
            case rel => exact ⟨k + 1, by omega, by go_num, by
              have := hks'.out
              by_cases h : 0 < k
              · rw [if_pos h] at hown; rw [if_pos (by omega)]; exact hown
              · rw [if_neg h] at hown; rw [if_neg (by omega)]; exact hown, hg⟩
            case measure => simp [intOf]; omega
        · go_wp2
          go_ret
          exact ⟨A1, c1, rfl, by rw [hfl.out]; rw [if_pos (by omega)] at hown; exact hown, hg⟩
    · rw [Int.max_eq_left hbit] at hpe
      go_enter Try.func34, Try.ntmps34
      go_wp2_with fail
      refine (copy_any A n c l _ B hl hr (by omega)).mono ?_; rintro e w1 ⟨A1, c1, rfl, hown1, hg1⟩
      go_wp2_with fail
      go_loopw [6] (fun v wr => ∃ k : Nat, k ≤ 8 * n ∧ v = .int .i64 k ∧ Own wr w.heap.size 5 1 A1 n c1 ((if s < k then flipL l s else l).map byte) ∧ w.grownBy wr none) (fun v _ => 8 * n - (intOf v).toNat)
      case atStart => exact ⟨0, by omega, rfl, by rw [if_neg (by omega)]; exact hown1, hg1⟩
      case round =>
        obtain ⟨k, hk, rfl, hown, hg⟩ := hrel
        by_cases hlt : k < 8 * n
        · by_cases hks : k = s
          · subst hks
            rw [if_neg (by omega)] at hown
            have hbt : ((k : Int) == (k : Int)) = true := by simp
            obtain ⟨g, rfl, hg0, hgl, hc, hf⟩ := hown.byte_at (k := k / 8) (by omega)
            have hx := hb.nth (k / 8)
            have hpw : 2 ^ (k % 8) < 2 ^ 8 := Nat.pow_lt_pow_right (by omega) (by omega)
            have e2 : ((2 : Int) ^ (k % 8) % 256) = ((2 ^ (k % 8) : Nat) : Int) := by
              rw [show (2 : Int) ^ (k % 8) = ((2 ^ (k % 8) : Nat) : Int) from (Int.natCast_pow 2 _).symm]
              clear hfl
              generalize 2 ^ (k % 8) = z at *
              omega
            have e1 : bits .xor .u8 (nth l (k / 8) : Int) ((2 : Int) ^ (k % 8) % 256) = ((nth l (k / 8) ^^^ 2 ^ (k % 8) : Nat) : Int) := by
              rw [e2]
              exact u8_xor_nat _ _ hx hpw
            clear e2
            go_wp2
            go_roundw
            case rel => exact ⟨k + 1, by omega, by go_num, by rw [if_pos (by omega)]; exact hown.put_ _ _, grown_put hg hg0 _ _⟩
            case measure => simp [intOf]; omega
          · have hbt : ((k : Int) == (s : Int)) = false := by simp; omega
            have hks' := Lib.hid hks; clear hks
            go_wp2
            go_roundw
            case rel => exact ⟨k + 1, by omega, by go_num, by
              have := hks'.out
              by_cases h : s < k
              · rw [if_pos h] at hown; rw [if_pos (by omega)]; exact hown
              · rw [if_neg h] at hown; rw [if_neg (by omega)]; exact hown, hg⟩
            case measure => simp [intOf]; omega
        · go_wp2
          go_ret
          exact ⟨A1, c1, rfl, by rw [hfl.out]; rw [if_pos (by omega)] at hown; exact hown, hg⟩
end Go.Proofs.Ytdmhaigldckdbaa
