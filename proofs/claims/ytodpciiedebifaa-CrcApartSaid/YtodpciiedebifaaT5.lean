/- The walks of Whole, Without and flip. -/
import Derived.Test.YtodpciiedebifaaT4
import Derived.Test.YtodpciiedebifaaPl5
namespace Go.Proofs.Ytodpciiedebifaa
open Go Go.RowKit

theorem with_any' (A : Option Addr) (n c : Nat) (l : List Nat) (w : World) (B : Nat) (hl : l.length = n) (hr : Reads w B A (l.map byte)) (hb : Byt l) (hn : n ≤ 1000000) :
    Calls Try.prog 13 #[.slice A n c] w fun e w' => ∃ A', e = .returned (.slice A' (n + 4) (n + 4)) ∧ Own w' w.heap.size 5 1 A' (n + 4) (n + 4) ((withs l).map byte) ∧ w.grownBy w' none := by
  have := with_any A n c l w B hl hr hb hn
  rwa [sum_eq l hb] at this

theorem equal_any (A1 A2 : Option Addr) (n1 c1 n2 c2 : Nat) (l1 l2 : List Nat) (w : World) (B1 B2 : Nat) (h1 : l1.length = n1) (h2 : l2.length = n2) (r1 : Reads w B1 A1 (l1.map byte)) (r2 : Reads w B2 A2 (l2.map byte)) (hn : n1 ≤ 2000000) (hn2 : n2 ≤ 2000000) :
    Calls Try.prog 34 #[.slice A1 n1 c1, .slice A2 n2 c2] w fun e w' => e = .returned (.bool (l1 == l2)) ∧ w.grownBy w' none := by
  by_cases hne : n1 = n2
  · subst hne
    go_enter Try.func34, Try.ntmps34
    go_wp2
    go_loopw [13] (fun v wr => ∃ k : Nat, k ≤ n1 ∧ v = .int .i64 k ∧ (∀ j, j < k → nth l1 j = nth l2 j) ∧ w.grownBy wr none) (fun v _ => n1 - (intOf v).toNat)
    case atStart => exact ⟨0, Nat.zero_le _, rfl, fun j hj => absurd hj (by omega), World.grownBy.refl _ _⟩
    case round =>
      obtain ⟨k, hk, rfl, heq, hg⟩ := hrel
      have heq' := Lib.hid heq; clear heq
      by_cases hlt : k < n1
      · obtain ⟨ad1, rfl, _, hc1⟩ := (r1.grown0 hg).byte_ (k := k) (by omega)
        obtain ⟨ad2, rfl, _, hc2⟩ := (r2.grown0 hg).byte_ (k := k) (by omega)
        by_cases hxy : nth l1 k = nth l2 k
        · have hb : ((nth l1 k : Int) != (nth l2 k : Int)) = false := by simp [hxy]
          have hk' : Hid (nth l1 k = nth l2 k) := hxy
          clear hxy
          go_wp2
          go_quiet (fail)
          go_wp2
          go_roundw
          case rel => exact ⟨k + 1, by omega, by go_num, fun j hj => by
            rcases Nat.lt_or_ge j k with h | h
            · exact heq'.out j h
            · obtain rfl : j = k := by omega
              exact hk'.out, grown_drewN hg _⟩
          case measure => simp [intOf]; omega
        · have hb : ((nth l1 k : Int) != (nth l2 k : Int)) = true := by simp; omega
          have hk' : Hid (¬ nth l1 k = nth l2 k) := hxy
          clear hxy
          go_wp2
          go_quiet (fail)
          go_wp2
          go_ret
          refine ⟨?_, grown_drewN hg _⟩
          have : l1 ≠ l2 := fun e => hk'.out (by rw [e])
          simp [this]
      · go_wp2
        go_ret
        obtain rfl : k = n1 := by omega
        refine ⟨?_, hg⟩
        have : l1 = l2 := ext_nth (by omega) (fun j hj => heq'.out j (by omega))
        simp [this]
  · have hb : ((n1 : Int) != (n2 : Int)) = true := by simp; omega
    go_enter Try.func34, Try.ntmps34
    go_wp2
    go_ret
    refine ⟨?_, World.grownBy.refl _ _⟩
    have : l1 ≠ l2 := fun e => hne (by rw [← h1, ← h2, e])
    simp [this]

theorem take_reads {w : World} {B : Nat} {A : Option Addr} {l : List Nat} (hr : Reads w B A (l.map byte)) (k : Nat) : Reads w B A ((l.take k).map byte) := by
  rw [List.map_take]; exact hr.take k

theorem whole_any (A : Option Addr) (n c : Nat) (l : List Nat) (w : World) (B : Nat) (hl : l.length = n) (hr : Reads w B A (l.map byte)) (hb : Byt l) (hn : n ≤ 1000000) (hnc : n ≤ c) (_hc : c ≤ 9223372036854775807) :
    Calls Try.prog 20 #[.slice A n c] w fun e w' => e = .returned (.bool (wholeB l)) ∧ w.grownBy w' none := by
  have h0 := map_add0 A
  have h0' := map_add0' A
  by_cases h4 : n < 4
  · have hw : wholeB l = false := by unfold wholeB; simp; omega
    have hw' := Lib.hid hw; clear hw
    go_enter Try.func20, Try.ntmps20
    go_wp2
    go_ret
    exact ⟨by rw [hw'.out]; rfl, World.grownBy.refl _ _⟩
  · obtain ⟨m, rfl⟩ : ∃ m, n = m + 4 := ⟨n - 4, by omega⟩
    have hw : wholeB l = (withs (l.take m) == l) := by unfold wholeB; rw [hl]; simp
    have hw' := Lib.hid hw; clear hw
    have hm : (l.take m).length = m := by rw [List.length_take]; omega
    have hwl : (withs (l.take m)).length = m + 4 := by rw [withs_len, hm]
    have C1 := Lib.hid (fun c' => with_any' A m c' (l.take m) w B hm (take_reads hr m) (byt_take hb m) (by omega))
    have hd : decide ((0 : Int) ≤ (m : Int)) = true := by simp
    go_enter Try.func20, Try.ntmps20
    go_wp2_with fail
    refine (C1.out _).mono ?_; rintro e w1 ⟨A1, rfl, hown1, hg1⟩
    go_wp2_with fail
    refine (equal_any A1 A (m + 4) (m + 4) (m + 4) c _ _ _ _ B hwl hl hown1.reads (hr.grown0 hg1) (by omega) (by omega)).mono ?_; rintro e w2 ⟨rfl, hg2⟩
    go_wp2
    go_ret
    exact ⟨by rw [hw'.out]; rfl, grown_trans hg1 hg2⟩

theorem without_any (A : Option Addr) (n c : Nat) (l : List Nat) (w : World) (B : Nat) (hl : l.length = n) (hr : Reads w B A (l.map byte)) (hb : Byt l) (hn : n ≤ 1000000) (hnc : n ≤ c) (_hc : c ≤ 9223372036854775807) :
    Calls Try.prog 18 #[.slice A n c] w fun e w' => ∃ A' m' c', e = .returned (.tuple #[.slice A' m' c', .bool (wholeB l)]) ∧
      Own w' w.heap.size 5 1 A' m' c' ((if wholeB l = true then l.take (n - 4) else []).map byte) ∧ w.grownBy w' none := by
  have h0 := map_add0 A
  have h0' := map_add0' A
  have C1 := Lib.hid (whole_any A n c l w B hl hr hb hn hnc _hc)
  by_cases hw : wholeB l = true
  · have h4 : 4 ≤ n := by rw [← hl]; exact ((whole_iff l hb).1 hw).1
    rw [hw, if_pos rfl]
    rw [hw] at C1
    clear hw
    obtain ⟨m, rfl⟩ : ∃ m, n = m + 4 := ⟨n - 4, by omega⟩
    rw [Nat.add_sub_cancel]
    have hm : (l.take m).length = m := by rw [List.length_take]; omega
    go_enter Try.func18, Try.ntmps18
    go_wp2_with fail
    refine C1.out.mono ?_; rintro e w1 ⟨rfl, hg1⟩
    go_wp2_with fail
    refine (clone_any A m _ (l.take m) _ B hm ((take_reads hr m).grown0 hg1) (by omega)).mono ?_; rintro e w2 ⟨A2, c2, rfl, hown2, hg2⟩
    go_wp2
    go_ret2
    exact ⟨A2, m, c2, rfl, hown2.base_ hg1.size, grown_trans hg1 hg2⟩
  · have hwf : wholeB l = false := by simpa using hw
    rw [hwf]
    rw [hwf] at C1
    clear hw hwf
    go_enter Try.func18, Try.ntmps18
    go_wp2_with fail
    refine C1.out.mono ?_; rintro e w1 ⟨rfl, hg1⟩
    go_wp2
    go_ret2
    exact ⟨none, 0, 0, rfl, Own.nil_ _ _ _ _ _, hg1⟩

end Go.Proofs.Ytodpciiedebifaa
