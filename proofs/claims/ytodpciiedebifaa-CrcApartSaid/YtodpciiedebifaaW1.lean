/- The walks of the document's bit, Copy and Same. -/
import Derived.Test.YtodpciiedebifaaRows
import Derived.Test.YtodpciiedebifaaMem
import Derived.Test.YtodpciiedebifaaPl
import Derived.BigQuiet
import Derived.Deep.QuietTactic
namespace Go.Proofs.Ytodpciiedebifaa
open Go Go.RowKit

theorem info8 : (Try.prog.info? 5).map (fun i => (i.zero, i.size, i.bytes)) = some (some (.int .u8 0), 1, 1) := by kernel_rfl


theorem bit_any (ad : Addr) (n c : Nat) (x : Nat) (k : Nat) (w : World) (hk : k < 8 * n) (hc : w.cell? (ad.add (k / 8)) = some (.int .u8 x)) (hx : x < 256) (hn : n ≤ 1000000) :
    Calls Try.prog 25 #[.slice (some ad) n c, .int .i64 k] w fun e w' => e = .returned (.int .u32 ((x / 2 ^ (k % 8) % 2 : Nat) : Int)) ∧ w = w' := by
  go_enter Try.func25, Try.ntmps25
  go_wp2
  go_ret
  refine ⟨?_, rfl⟩
  have : x / 2 ^ (k % 8) < 4294967296 := Nat.lt_of_le_of_lt (Nat.div_le_self _ _) (by omega)
  refine ret_int ?_
  rw [show (x : Int) / 2 ^ (k % 8) = ((x / 2 ^ (k % 8) : Nat) : Int) by simp]
  generalize x / 2 ^ (k % 8) = y at *
  omega

/-- 'Copy': the same bytes, in memory of their own. -/
theorem copy_any (A : Option Addr) (n c : Nat) (l : List Nat) (w : World) (B : Nat) (hl : l.length = n) (hr : Reads w B A (l.map byte)) (hn : n ≤ 1000000) :
    Calls Try.prog 12 #[.slice A n c] w fun e w' => ∃ A' c', e = .returned (.slice A' n c') ∧ Own w' w.heap.size 5 1 A' n c' (l.map byte) ∧ w.grownBy w' none := by
  obtain ⟨i0, hi0, hz0, hz1, hz2⟩ := info_parts info8
  go_enter Try.func12, Try.ntmps12
  go_wp2_with (at_builtin; refine wpList_append_Own rfl (.tmp 4) (.tmp 5) _ rfl w.heap.size 5 i0 _ 1 1 Try.underlying22 hi0 hz0 hz1 hz2 rfl (by omega) none 0 0 [] rfl (Own.nil_ _ _ _ _ _) A n c B _ rfl (by simp [hl]) hr (byte_one l) (by simp only [maxLen]; omega) (by omega) (Nat.le_refl _) ?_; intro A' c' w1 hown1 hg1 _)
  go_ret
  exact ⟨A', c', rfl, by simpa using hown1, hg1⟩

/-- 'Same': are the bytes the same? -/
theorem same_any (A1 A2 : Option Addr) (n1 c1 n2 c2 : Nat) (l1 l2 : List Nat) (w : World) (B1 B2 : Nat) (h1 : l1.length = n1) (h2 : l2.length = n2) (r1 : Reads w B1 A1 (l1.map byte)) (r2 : Reads w B2 A2 (l2.map byte)) (hn : n1 ≤ 1000000) (hn2 : n2 ≤ 1000000) :
    Calls Try.prog 16 #[.slice A1 n1 c1, .slice A2 n2 c2] w fun e w' => e = .returned (.bool (l1 == l2)) ∧ w.grownBy w' none := by
  by_cases hne : n1 = n2
  · subst hne
    go_enter Try.func16, Try.ntmps16
    go_wp2
    go_loopw [5] (fun v wr => ∃ k : Nat, k ≤ n1 ∧ v = .int .i64 k ∧ (∀ j, j < k → nth l1 j = nth l2 j) ∧ w.grownBy wr none) (fun v _ => n1 - (intOf v).toNat)
    case atStart => exact ⟨0, Nat.zero_le _, rfl, fun j hj => absurd hj (by omega), World.grownBy.refl _ _⟩
    case round =>
      obtain ⟨k, hk, rfl, heq, hg⟩ := hrel
      have heq' := Lib.hid heq; clear heq
      by_cases hlt : k < n1
      · obtain ⟨ad1, rfl, _, hc1⟩ := (r1.grown0 hg).byte_ (k := k) (by omega)
        obtain ⟨ad2, rfl, _, hc2⟩ := (r2.grown0 hg).byte_ (k := k) (by omega)
        go_wp2
        go_quiet (fail)
        by_cases hxy : nth l1 k = nth l2 k
        · have hb : ((nth l1 k : Int) != (nth l2 k : Int)) = false := by simp [hxy]
          have hk' : Hid (nth l1 k = nth l2 k) := hxy
          clear hxy
          go_wp2
          go_roundw
          case rel => exact ⟨k + 1, by omega, by go_num, fun j hj => by
            rcases Nat.lt_or_ge j k with h | h
            · exact heq'.out j h
            · obtain rfl : j = k := by omega
              exact hk'.out, grown_drewN hg _⟩
          case measure => simp [intOf]; omega
        · have hb : ((nth l1 k : Int) != (nth l2 k : Int)) = true := by simp; omega
          have hk' : Hid (¬ nth l1 k = nth l2 k) := hxy
          clear hxy
          go_wp2
          go_ret
          refine ⟨?_, grown_drewN hg _⟩
          have : l1 ≠ l2 := fun e => hk'.out (by rw [e])
          simp [this]
      · go_wp2
        go_ret
        obtain rfl : k = n1 := by omega
        refine ⟨?_, hg⟩
        have : l1 = l2 := ext_nth (by omega) (fun j hj => heq'.out j (by omega))
        simp [this]
  · have hb : ((n1 : Int) != (n2 : Int)) = true := by simp; omega
    go_enter Try.func16, Try.ntmps16
    go_wp2
    go_ret
    refine ⟨?_, World.grownBy.refl _ _⟩
    have : l1 ≠ l2 := fun e => hne (by rw [← h1, ← h2, e])
    simp [this]
end Go.Proofs.Ytodpciiedebifaa
