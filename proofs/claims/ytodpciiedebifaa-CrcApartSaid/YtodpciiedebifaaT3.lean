/- The walks of the sums. -/
import Derived.Test.YtodpciiedebifaaS1
import Derived.WalkSpells
import Derived.Test.YtodpciiedebifaaPl3
namespace Go.Proofs.Ytodpciiedebifaa
open Go Go.RowKit

def turnL : List Nat := [31, 30, 29, 27, 26, 24, 23, 21, 20, 19, 15, 9, 8, 5]
def turnTo : Nat → Nat
  | 0 => 0
  | k + 1 => turnTo k ||| 2 ^ (nth turnL k)
theorem turnTo_lt (k : Nat) (h : k ≤ 14) : turnTo k < 4294967296 := by
  have : ∀ k : Fin 15, turnTo k.val < 4294967296 := by decide +kernel
  exact this ⟨k, by omega⟩
theorem turnL_lt (k : Nat) (h : k < 14) : nth turnL k < 32 := by
  have : ∀ k : Fin 14, nth turnL k.val < 32 := by decide +kernel
  exact this ⟨k, by omega⟩
theorem turned_any (w : World) :
    Calls Try.prog 33 #[] w fun e w' => e = .returned (.int .u32 3988292384) ∧ w.grownBy w' none := by
  have hend : turnTo 14 = 3988292384 := by decide +kernel
  have hend' := Lib.hid hend; clear hend
  have ht : ∀ k, k < 14 → (#[Value.int .u64 31, .int .u64 30, .int .u64 29, .int .u64 27, .int .u64 26, .int .u64 24, .int .u64 23, .int .u64 21, .int .u64 20, .int .u64 19, .int .u64 15, .int .u64 9, .int .u64 8, .int .u64 5])[k]? = some (.int .u64 (nth turnL k : Nat)) := by
    intro k hk
    have : k = 0 ∨ k = 1 ∨ k = 2 ∨ k = 3 ∨ k = 4 ∨ k = 5 ∨ k = 6 ∨ k = 7 ∨ k = 8 ∨ k = 9 ∨ k = 10 ∨ k = 11 ∨ k = 12 ∨ k = 13 := by omega
    rcases this with h | h | h | h | h | h | h | h | h | h | h | h | h | h <;> subst h <;> rfl
  have ht' := Lib.hid ht; clear ht
  go_enter Try.func33, Try.ntmps33
  go_wp2
  have hC : ∀ k, k < 14 → (w.alloc (.cells #[Value.int .u64 31, .int .u64 30, .int .u64 29, .int .u64 27, .int .u64 26, .int .u64 24, .int .u64 23, .int .u64 21, .int .u64 20, .int .u64 19, .int .u64 15, .int .u64 9, .int .u64 8, .int .u64 5] 33)).cell? ⟨w.heap.size, k, none⟩ = some (.int .u64 (nth turnL k : Nat)) := fun k hk => by
    rw [cell_of_row _ _ _ _ _ _ (heap_alloc_new w _)]
    exact ht'.out k hk
  have hC' := Lib.hid hC; clear hC
  have hG := Lib.hid (World.grownBy_alloc w (.cells #[Value.int .u64 31, .int .u64 30, .int .u64 29, .int .u64 27, .int .u64 26, .int .u64 24, .int .u64 23, .int .u64 21, .int .u64 20, .int .u64 19, .int .u64 15, .int .u64 9, .int .u64 8, .int .u64 5] 33) none)
  generalize w.alloc _ = W at *
  go_loop [2, 3] (fun v i => ∃ k : Nat, k ≤ 14 ∧ i = .int .i64 k ∧ v = .int .u32 (turnTo k : Nat)) (fun _ i => 14 - (intOf i).toNat)
  case atStart => exact ⟨0, by omega, rfl, rfl⟩
  case round =>
    obtain ⟨k, hk, rfl, rfl⟩ := hrel
    have hb := turnTo_lt k hk
    by_cases hlt : k < 14
    · have hc := hC'.out k hlt
      have hs : Hid (turnTo (k + 1) = turnTo k ||| 2 ^ (nth turnL k)) := rfl
      have hb2 := turnL_lt k hlt
      have hp : 2 ^ (nth turnL k) < 4294967296 := Nat.pow_lt_pow_right (a := 2) (by omega) hb2
      generalize turnTo k = x at *
      generalize nth turnL k = y at *
      have e1 : bits .or .u32 (x : Int) (2 ^ y % 4294967296) = ((x ||| 2 ^ y : Nat) : Int) := by
        have h2 : ((2 : Int) ^ y % 4294967296) = ((2 ^ y : Nat) : Int) := by
          rw [show (2 : Int) ^ y = ((2 ^ y : Nat) : Int) from (Int.natCast_pow 2 y).symm]
          clear hs
          generalize 2 ^ y = z at *
          omega
        rw [h2]
        exact u32_or_nat x (2 ^ y) hb hp
      go_wp2
      go_round
      case rel => exact ⟨k + 1, by omega, by go_num, by rw [hs.out]⟩
      case measure => simp [intOf]; omega
    · go_wp2
      go_ret
      obtain rfl : k = 14 := by omega
      exact ⟨by rw [hend'.out]; rfl, hG.out⟩

theorem refsum_any (A : Option Addr) (n c : Nat) (l : List Nat) (w : World) (B : Nat) (hl : l.length = n) (hr : Reads w B A (l.map byte)) (hb : Byt l) (hn : n ≤ 1000000) :
    Calls Try.prog 15 #[.slice A n c] w fun e w' => e = .returned (.int .u32 (rsum l : Nat)) ∧ w.grownBy w' none := by
  have hd : rsum l = rreg l (8 * n) ^^^ 4294967295 := by rw [rsum, hl]
  have hd' := Lib.hid hd; clear hd
  have hrl := Lib.hid (rreg_lt l)
  go_enter Try.func15, Try.ntmps15
  go_wp2_with fail
  refine (turned_any _).mono ?_; rintro e w1 ⟨rfl, hg1⟩
  go_wp2_with fail
  go_loopw [4, 5] (fun v i wr => ∃ k : Nat, k ≤ 8 * n ∧ i = .int .i64 k ∧ v = .int .u32 (rreg l k : Nat) ∧ w.grownBy wr none) (fun _ i _ => 8 * n - (intOf i).toNat)
  case atStart => exact ⟨0, by omega, rfl, rfl, hg1⟩
  case round =>
    obtain ⟨k, hk, rfl, rfl, hg⟩ := hrel
    have hz := hrl.out k
    by_cases hlt : k < 8 * n
    · obtain ⟨ad, rfl, _, hc⟩ := (hr.grown0 hg).byte_ (k := k / 8) (by omega)
      have bx := hb.nth (k / 8)
      have hs : Hid (rreg l (k + 1) = rstp (rreg l k) (bitAt l k)) := rfl
      have c1 := bit_any ad n c (nth l (k / 8)) k wr (by omega) hc bx (by omega)
      rw [← bitAt] at c1
      have C1 := Lib.hid c1; clear c1
      generalize rreg l k = r at *
      have e1 : bits .xor .u32 ((r : Int) / 2) 3988292384 = (((r / 2) ^^^ 3988292384 : Nat) : Int) := by
        rw [← u32_xor_nat (r / 2) 3988292384 (by omega) (by omega), Int.natCast_ediv]; rfl
      by_cases hxy : r % 2 = bitAt l k
      · have hb' : ((r : Int) % 2 != (bitAt l k : Int)) = false := by simp; omega
        have hk' : Hid (r % 2 = bitAt l k) := hxy
        clear hxy
        go_wp2_with fail
        refine C1.out.mono ?_; rintro e w' ⟨rfl, rfl⟩
        go_wp2
        go_roundw
        case rel => exact ⟨k + 1, by omega, by go_num, by rw [hs.out, rstp, if_pos hk'.out]; exact val_int (by omega), hg⟩
        case measure => simp [intOf]; omega
      · have hb' : ((r : Int) % 2 != (bitAt l k : Int)) = true := by simp; omega
        have hk' : Hid (¬ r % 2 = bitAt l k) := hxy
        clear hxy
        go_wp2_with fail
        refine C1.out.mono ?_; rintro e w' ⟨rfl, rfl⟩
        go_wp2
        go_roundw
        case rel => exact ⟨k + 1, by omega, by go_num, by rw [hs.out, rstp, if_neg hk'.out], hg⟩
        case measure => simp [intOf]; omega
    · obtain rfl : k = 8 * n := by omega
      have e1 : bits .xor .u32 ((rreg l (8 * n) : Nat) : Int) 4294967295 = ((rreg l (8 * n) ^^^ 4294967295 : Nat) : Int) := u32_xor_nat _ 4294967295 hz (by omega)
      go_wp2
      go_ret
      exact ⟨by rw [hd'.out]; rfl, hg⟩

theorem sum_any (A : Option Addr) (n c : Nat) (l : List Nat) (w : World) (B : Nat) (hl : l.length = n) (hr : Reads w B A (l.map byte)) (hb : Byt l) (hn : n ≤ 1000000) :
    Calls Try.prog 14 #[.slice A n c] w fun e w' => e = .returned (.int .u32 (sum l : Nat)) ∧ w.grownBy w' none := by
  have hd : sum l = 4294967295 - rev32 (reg l n) := by rw [sum, hl]
  have hd' := Lib.hid hd; clear hd
  have hrl := Lib.hid (reg_lt l hb)
  go_enter Try.func14, Try.ntmps14
  go_wp2
  go_loopw [10] (fun i wr => ∃ k : Nat, k ≤ n ∧ i = .int .i64 k ∧ One wr w.heap.size 26 (.int .u32 (reg l k : Nat)) ∧ w.grownBy wr none) (fun i _ => n - (intOf i).toNat)
  case atStart => exact ⟨0, by omega, rfl, heap_alloc_new w _, World.grownBy_alloc w _ none⟩
  case round =>
    obtain ⟨k, hk, rfl, hone, hg⟩ := hrel
    have hz := hrl.out k
    by_cases hlt : k < n
    · obtain ⟨ad, rfl, _, hc⟩ := (hr.grown0 hg).byte_ (k := k) (by omega)
      have bx := hb.nth k
      have hs : Hid (reg l (k + 1) = dvd (reg l k) (rev8 (nth l k))) := rfl
      have C1 := Lib.hid (sum1_any (nth l k) (reg l k) w.heap.size wr bx hz hone)
      go_wp2_with fail
      refine C1.out.mono ?_; rintro e w1 ⟨rfl, hone1, hg1⟩
      have hgn := grown_new hg hg1 (fun g h => by cases h; exact Nat.le_refl _)
      rw [← hs.out] at hone1
      go_wp2
      go_roundw
      case rel => exact ⟨k + 1, by omega, by go_num, hone1, hgn⟩
      case measure => simp [intOf]; omega
    · obtain rfl : k = n := by omega
      have hc : wr.cell? ⟨w.heap.size, 0, none⟩ = some (.int .u32 (reg l k : Nat)) := cell_of_one hone
      have hr32 := rev32_lt (reg l k)
      go_wp2_with fail
      refine (rev32_any _ _ hz).mono ?_; rintro e w1 ⟨rfl, rfl⟩
      go_wp2
      go_ret
      refine ⟨?_, hg⟩
      rw [hd'.out]
      generalize rev32 (reg l k) = y at *
      refine ret_int ?_
      have := u32_xor_nat 4294967295 y (by omega) hr32
      rw [Nat.xor_comm, xor_ones y hr32] at this
      exact this

/-- slices.Clone -/
theorem clone_any (A : Option Addr) (n c : Nat) (l : List Nat) (w : World) (B : Nat) (hl : l.length = n) (hr : Reads w B A (l.map byte)) (hn : n ≤ 1000000) :
    Calls Try.prog 27 #[.slice A n c] w fun e w' => ∃ A' c', e = .returned (.slice A' n c') ∧ Own w' w.heap.size 5 1 A' n c' (l.map byte) ∧ w.grownBy w' none := by
  obtain ⟨i0, hi0, hz0, hz1, hz2⟩ := info_parts info8
  have hnil := fun W => Lib.run_eql_slice_nil (P := Try.prog) W 22 5 A n c 0 0 Try.underlying22
  cases A with
  | none =>
    have hn0 : n = 0 := by
      rcases Nat.eq_zero_or_pos n with h | h
      · exact h
      · obtain ⟨ad, h2, _⟩ := hr (by simp; omega)
        cases h2
    subst hn0
    have hl0 : l = [] := List.eq_nil_of_length_eq_zero hl
    subst hl0
    go_enter Try.func27, Try.ntmps27
    go_wp2
    go_ret
    exact ⟨none, 0, rfl, Own.nil_ _ _ _ _ _, World.grownBy.refl _ _⟩
  | some ad =>
    go_enter Try.func27, Try.ntmps27
    go_wp2_with (at_builtin; refine wpList_append_Own rfl (.tmp 5) (.tmp 6) _ rfl w.heap.size 5 i0 _ 1 1 Try.underlying22 hi0 hz0 hz1 hz2 rfl (by omega) _ 0 0 [] rfl (Own.nil_ _ _ _ _ _) (some ad) n c B _ rfl (by simp [hl]) (hr.alloc _) (byte_one l) (by simp only [maxLen]; omega) (by omega) (by simp) ?_; intro A' c' w1 hown1 hg1 _)
    go_ret
    exact ⟨A', c', rfl, by simpa using hown1, grown_trans (World.grownBy_alloc w _ none) hg1⟩

theorem clip_any (A : Option Addr) (n c : Nat) (w : World) (hn : n ≤ c) (_hc : c ≤ 9223372036854775807) :
    Calls Try.prog 28 #[.slice A n c] w fun e w' => e = .returned (.slice A n n) ∧ w = w' := by
  have h0 := map_add0 A
  have h0' := map_add0' A
  go_enter Try.func28, Try.ntmps28
  go_wp2
  go_ret
  exact ⟨rfl, rfl⟩

theorem grow4_any (A : Option Addr) (n c : Nat) (xs : List Value) (w : World) (base : Nat) (hown : Own w base 5 1 A n c xs) (hb : base ≤ w.heap.size) (hn : n ≤ 1000000) :
    Calls Try.prog 26 #[.slice A n c, .int .i64 4] w fun e w' => ∃ A' c', e = .returned (.slice A' n c') ∧ n + 4 ≤ c' ∧ Own w' base 5 1 A' n c' xs ∧ w.grownBy w' none := by
  obtain ⟨i0, hi0, hz0, hz1, hz2⟩ := info_parts info8
  have hnc := hown.2.1
  have hcm : c ≤ 9223372036854775807 := by have := hown.2.2.1; unfold maxLen at this; omega
  have h0 := map_add0 A
  have h0' := map_add0' A
  by_cases hroom : n + 4 ≤ c
  · go_enter Try.func26, Try.ntmps26
    go_wp2
    go_ret
    exact ⟨A, c, rfl, hroom, hown, World.grownBy.refl _ _⟩
  · obtain ⟨ys, hfull, htake⟩ := hown.full
    go_enter Try.func26, Try.ntmps26
    go_wp2_with (at_builtin; refine wpList_append_zeros rfl (.tmp 20) (.tmp 21) _ _ rfl base 5 .i64 i0 _ 1 1 Try.underlying22 Try.underlying3 hi0 hz0 hz1 hz2 rfl (by omega) A c ys rfl hfull (n + 4 - c) (by omega) (val_int (by omega)) (by simp only [maxLen]; omega) (by omega) hb ?_; intro c' w1 zs hown1 hg1; have hcc := hown1.2.1)
    go_ret
    refine ⟨_, c', rfl, by omega, ?_, hg1⟩
    have := hown1.take_ (k := n) (cap' := c') (by omega) (by omega) (Nat.le_refl _)
    rwa [List.take_append_of_le_length (by rw [hfull.1]; omega), htake] at this
end Go.Proofs.Ytodpciiedebifaa
