/- The walks of the two Differ. -/
import Derived.Test.YtodpciiedebifaaS1
import Derived.Lib.BitFns
namespace Go.Proofs.Ytodpciiedebifaa
open Go Go.RowKit
theorem ones_int (x : Int) (w : World) (h0 : 0 ≤ x) (h1 : x ≤ 255) :
    Calls Try.prog 24 #[.int .u8 x] w fun e w' => e = .returned (.int .i64 (Lib.onesCount x.toNat)) ∧ w = w' := by
  have H := Lib.hid (Lib.pop8_int x h0 h1)
  go_enter Try.func24, Try.ntmps24
  go_wp2
  go_ret
  refine ⟨?_, rfl⟩
  rw [← H.out, ← wrap64]
  rfl
theorem ones_any (x : Nat) (w : World) (h1 : x < 256) :
    Calls Try.prog 24 #[.int .u8 x] w fun e w' => e = .returned (.int .i64 (popc x : Nat)) ∧ w = w' :=
  ones_int x w (by omega) (by omega)
theorem ones_any2 (x : Nat) (w : World) (h1 : x < 256) :
    Calls Try.prog 24 #[.int .u8 x] w fun e w' => e = .returned (.int .i64 (popc x : Nat)) ∧ w' = w := (ones_any x w h1).mono fun _ _ h => ⟨h.1, h.2.symm⟩
set_option maxHeartbeats 400000 in
theorem differ_q (A1 A2 : Option Addr) (n1 c1 n2 c2 : Nat) (l1 l2 : List Nat) (w : World) (B1 B2 : Nat) (h1 : l1.length = n1) (h2 : l2.length = n2) (r1 : Reads w B1 A1 (l1.map byte)) (r2 : Reads w B2 A2 (l2.map byte))
    (b1 : Byt l1) (b2 : Byt l2) (hn : n1 ≤ 1000000) (hn2 : n2 ≤ 1000000) :
    Calls Try.prog 10 #[.slice A1 n1 c1, .slice A2 n2 c2] w fun e w' => e = .returned (.int .i64 (differ l1 l2 : Nat)) ∧ Drew w w' := by
  have hd : differ l1 l2 = 8 * (max n1 n2 - min n1 n2) + dsum l1 l2 (min n1 n2) := by rw [differ, h1, h2]
  have hds : ∀ k, dsum l1 l2 k ≤ 8 * k := dsum_le l1 l2 b1 b2
  have hds' := Lib.hid hds; clear hds
  have hd' := Lib.hid hd; clear hd
  go_enter Try.func10, Try.ntmps10
  go_wp2
  all_goals
    go_loopw [6, 22] (fun v i wr => ∃ k : Nat, k ≤ min n1 n2 ∧ i = .int .i64 k ∧ v = .int .i64 ((8 * (max n1 n2 - min n1 n2) + dsum l1 l2 k : Nat) : Int) ∧ Drew w wr) (fun _ i _ => min n1 n2 - (intOf i).toNat)
    case atStart => exact ⟨0, by omega, rfl, by simp only [dsum]; exact val_int (by omega), Drew.refl_ _⟩
    case round =>
      obtain ⟨k, hk, rfl, rfl, hg⟩ := hrel
      have hb := hds'.out k
      by_cases hlt : k < min n1 n2
      · have hlt1 : k < n1 := by omega
        have hlt2 : k < n2 := by omega
        obtain ⟨ad1, rfl, _, hc1⟩ := (r1.grown0 hg.grown_).byte_ (k := k) (by omega)
        obtain ⟨ad2, rfl, _, hc2⟩ := (r2.grown0 hg.grown_).byte_ (k := k) (by omega)
        have bx1 := b1.nth k
        have bx2 := b2.nth k
        have hx : nth l1 k ^^^ nth l2 k < 256 := Nat.xor_lt_two_pow (n := 8) (by omega) (by omega)
        have hp := popc_le _ hx
        have hs : Hid (dsum l1 l2 (k + 1) = dsum l1 l2 k + popc (nth l1 k ^^^ nth l2 k)) := rfl
        have e1 : bits .xor .u8 (nth l1 k : Int) (nth l2 k : Int) = ((nth l1 k ^^^ nth l2 k : Nat) : Int) := u8_xor_nat _ _ bx1 bx2
        generalize nth l1 k ^^^ nth l2 k = y at *
        generalize dsum l1 l2 k = d at *
        go_wp2
        go_quiet ((go_at_call 24; exact Calls.quiet_of_same (ones_any2 _ _ hx)))
        go_wp2
        go_roundw
        case rel => exact ⟨k + 1, by omega, by go_num, by rw [hs.out]; exact val_int (by omega), hg.more_ _⟩
        case measure => simp [intOf]; omega
      · go_wp2
        go_ret
        obtain rfl : k = min n1 n2 := by omega
        exact ⟨by rw [hd'.out]; rfl, hg⟩
theorem differ_any (A1 A2 : Option Addr) (n1 c1 n2 c2 : Nat) (l1 l2 : List Nat) (w : World) (B1 B2 : Nat) (h1 : l1.length = n1) (h2 : l2.length = n2) (r1 : Reads w B1 A1 (l1.map byte)) (r2 : Reads w B2 A2 (l2.map byte))
    (b1 : Byt l1) (b2 : Byt l2) (hn : n1 ≤ 1000000) (hn2 : n2 ≤ 1000000) :
    Calls Try.prog 10 #[.slice A1 n1 c1, .slice A2 n2 c2] w fun e w' => e = .returned (.int .i64 (differ l1 l2 : Nat)) ∧ w.grownBy w' none :=
  (differ_q A1 A2 n1 c1 n2 c2 l1 l2 w B1 B2 h1 h2 r1 r2 b1 b2 hn hn2).mono fun _ _ h => ⟨h.1, h.2.grown_⟩

/-- The document's Differ: of two rows the shorter one first. -/
theorem rdiffer_le (A1 A2 : Option Addr) (n1 c1 n2 c2 : Nat) (l1 l2 : List Nat) (w : World) (B1 B2 : Nat) (h1 : l1.length = n1) (h2 : l2.length = n2) (r1 : Reads w B1 A1 (l1.map byte)) (r2 : Reads w B2 A2 (l2.map byte))
    (b1 : Byt l1) (b2 : Byt l2) (hn2 : n2 ≤ 1000000) (hle : n1 ≤ n2) :
    Calls Try.prog 11 #[.slice A1 n1 c1, .slice A2 n2 c2] w fun e w' => e = .returned (.int .i64 (rdiffer l1 l2 : Nat)) ∧ w.grownBy w' none := by
  have hd : rdiffer l1 l2 = 8 * (n2 - n1) + rdsum l1 l2 (8 * n1) := by rw [rdiffer, h1, h2, Nat.max_eq_right hle, Nat.min_eq_left hle]
  have hds := Lib.hid (rdsum_le l1 l2)
  have hb0 : decide (n2 < n1) = false := by simp; omega
  have hd' := Lib.hid hd; clear hd
  go_enter Try.func11, Try.ntmps11
  go_wp2
  go_loopw [5, 6] (fun v i wr => ∃ k : Nat, k ≤ 8 * n1 ∧ i = .int .i64 k ∧ v = .int .i64 ((8 * (n2 - n1) + rdsum l1 l2 k : Nat) : Int) ∧ w.grownBy wr none) (fun _ i _ => 8 * n1 - (intOf i).toNat)
  case atStart => exact ⟨0, by omega, rfl, by simp only [rdsum]; exact val_int (by omega), World.grownBy.refl _ _⟩
  case round =>
    obtain ⟨k, hk, rfl, rfl, hg⟩ := hrel
    have hb := hds.out k
    by_cases hlt : k < 8 * n1
    · obtain ⟨ad1, rfl, _, hc1⟩ := (r1.grown0 hg).byte_ (k := k / 8) (by omega)
      obtain ⟨ad2, rfl, _, hc2⟩ := (r2.grown0 hg).byte_ (k := k / 8) (by omega)
      have bx1 := b1.nth (k / 8)
      have bx2 := b2.nth (k / 8)
      have hs : Hid (rdsum l1 l2 (k + 1) = rdsum l1 l2 k + if bitAt l1 k = bitAt l2 k then 0 else 1) := rfl
      have c1' := bit_any ad1 n1 c1 (nth l1 (k / 8)) k wr (by omega) hc1 bx1 (by omega)
      have c2' := bit_any ad2 n2 c2 (nth l2 (k / 8)) k wr (by omega) hc2 bx2 (by omega)
      rw [← bitAt] at c1' c2'
      have C1 := Lib.hid c1'; clear c1'
      have C2 := Lib.hid c2'; clear c2'
      generalize rdsum l1 l2 k = d at *
      by_cases hxy : bitAt l1 k = bitAt l2 k
      · have hb : ((bitAt l1 k : Int) != (bitAt l2 k : Int)) = false := by simp [hxy]
        have hk' : Hid (bitAt l1 k = bitAt l2 k) := hxy
        clear hxy
        go_wp2_with fail
        refine C1.out.mono ?_; rintro e w' ⟨rfl, rfl⟩
        go_wp2_with fail
        refine C2.out.mono ?_; rintro e w' ⟨rfl, rfl⟩
        go_wp2
        go_roundw
        case rel => exact ⟨k + 1, by omega, by go_num, by rw [hs.out, if_pos hk'.out]; exact val_int (by omega), hg⟩
        case measure => simp [intOf]; omega
      · have hb : ((bitAt l1 k : Int) != (bitAt l2 k : Int)) = true := by simp; omega
        have hk' : Hid (¬ bitAt l1 k = bitAt l2 k) := hxy
        clear hxy
        go_wp2_with fail
        refine C1.out.mono ?_; rintro e w' ⟨rfl, rfl⟩
        go_wp2_with fail
        refine C2.out.mono ?_; rintro e w' ⟨rfl, rfl⟩
        go_wp2
        go_roundw
        case rel => exact ⟨k + 1, by omega, by go_num, by rw [hs.out, if_neg hk'.out]; exact val_int (by omega), hg⟩
        case measure => simp [intOf]; omega
    · go_wp2
      go_ret
      obtain rfl : k = 8 * n1 := by omega
      exact ⟨by rw [hd'.out]; rfl, hg⟩

theorem rdiffer_any (A1 A2 : Option Addr) (n1 c1 n2 c2 : Nat) (l1 l2 : List Nat) (w : World) (B1 B2 : Nat) (h1 : l1.length = n1) (h2 : l2.length = n2) (r1 : Reads w B1 A1 (l1.map byte)) (r2 : Reads w B2 A2 (l2.map byte))
    (b1 : Byt l1) (b2 : Byt l2) (hn : n1 ≤ 1000000) (hn2 : n2 ≤ 1000000) :
    Calls Try.prog 11 #[.slice A1 n1 c1, .slice A2 n2 c2] w fun e w' => e = .returned (.int .i64 (rdiffer l1 l2 : Nat)) ∧ w.grownBy w' none := by
  by_cases hle : n1 ≤ n2
  · exact rdiffer_le A1 A2 n1 c1 n2 c2 l1 l2 w B1 B2 h1 h2 r1 r2 b1 b2 hn2 hle
  · have C := Lib.hid (rdiffer_le A2 A1 n2 c2 n1 c1 l2 l1 w B2 B1 h2 h1 r2 r1 b2 b1 hn (by omega))
    rw [rdiffer_comm] at C
    go_enter Try.func11, Try.ntmps11
    go_wp2_with fail
    refine C.out.mono ?_; rintro e w' ⟨rfl, hg⟩
    go_wp2
    go_ret
    exact ⟨rfl, hg⟩
end Go.Proofs.Ytodpciiedebifaa
