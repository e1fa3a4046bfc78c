/- The walks of the document's Get, of any bytes, any place, and of its Rows. -/
import Derived.Test.YthijicpfihpkfaaGa
import Derived.Test.YthijicpfihpkfaaWq
import Derived.Test.YthijicpfihpkfaaW1
import Derived.IntWalk
import Derived.Deep.RegionWith
namespace Go.Proofs.Ythijicpfihpkfaa
open Go Go.RowKit
theorem getL_ends {s : List Nat} (h : ∀ j, j < s.length → low (nth s j) = false) : getL s = none := by
  unfold getL
  rw [findIdx_no h]
theorem getL_long {s : List Nat} (h : ∀ j, j < 10 → low (nth s j) = false) : getL s = none := by
  unfold getL
  cases hf : s.findIdx? low with
  | none => rfl
  | some j =>
    obtain ⟨h1, h2, _⟩ := List.findIdx?_eq_some_iff_getElem.1 hf
    by_cases hj : 9 < j
    · simp only [if_pos hj]
    · have := h j (by omega)
      rw [nth_getElem h1, h2] at this
      cases this
/-- Where the first byte below 128 stands: are the bytes the word of what they come to? -/
theorem getL_stop {s : List Nat} (hb : Byt s) {i : Nat} (hi : i < s.length) (h9 : i ≤ 9) (h : ∀ j, j < i → low (nth s j) = false) (h2 : low (nth s i) = true) :
    getL s = if (putL (valL (s.take (i + 1)) % 18446744073709551616) == s.take (i + 1)) = true then some (valL (s.take (i + 1)) % 18446744073709551616, i + 1) else none := by
  have hf := findIdx_at hi h h2
  have hw := (findIdx_isWord hf).1
  have hbt : Byt (s.take (i + 1)) := fun x hx => hb x (List.mem_of_mem_take hx)
  have hr := ref_iff hw hbt
  have hl : (s.take (i + 1)).length = i + 1 := by rw [List.length_take]; omega
  rw [hl] at hr
  unfold getL
  rw [hf]
  simp only
  rw [if_neg (by omega)]
  by_cases hc : putL (valL (s.take (i + 1)) % 18446744073709551616) = s.take (i + 1)
  · obtain ⟨h3, h4⟩ := hr.1 hc
    rw [if_pos ⟨h3, h4⟩, if_pos (by simpa using hc), Nat.mod_eq_of_lt h3]
  · rw [if_neg (fun h3 => hc (hr.2 h3)), if_neg (by simpa using hc)]
theorem valL_step (s : List Nat) (i : Nat) (hi : i < s.length) : valL (s.take (i + 1)) = valL (s.take i) + nth s i % 128 * 128 ^ i := by
  rw [List.take_succ_eq_append_getElem hi, valL_append, List.length_take, Nat.min_eq_left (by omega), nth_getElem hi]
  simp [valL, Nat.mul_comm]
theorem mod_step (v u d : Nat) (_hd : d < 128) : ((v % 18446744073709551616) + (d * (u % 18446744073709551616)) % 18446744073709551616) % 18446744073709551616 = (v + d * u) % 18446744073709551616 := by
  rw [Nat.mul_mod_mod, ← Nat.add_mod]
theorem same_lit (A1 A2 : Option Addr) (n1 c1 n2 c2 : Nat) (l1 l2 : List Nat) (b : Bool) (hb : (l1 == l2) = b) (w : World) (B1 B2 : Nat) (h1 : l1.length = n1) (h2 : l2.length = n2) (r1 : Reads w B1 A1 (l1.map byte)) (r2 : Reads w B2 A2 (l2.map byte)) (hn : n1 ≤ 1000000) (hn2 : n2 ≤ 1000000) :
    Calls Try.prog 17 #[.slice A1 n1 c1, .slice A2 n2 c2] w fun e w' => e = .returned (.bool b) ∧ w.grownBy w' none := by
  subst hb
  exact same_any A1 A2 n1 c1 n2 c2 l1 l2 w B1 B2 h1 h2 r1 r2 hn hn2
def rgRel (s : List Nat) (i : Nat) : Prop := ∀ j, j < i → low (nth s j) = false
set_option maxRecDepth 100000 in
set_option maxHeartbeats 2000000 in
theorem rget_in (A : Option Addr) (n c k : Nat) (l s : List Nat) (w : World) (hk : k < n) (hnc : n ≤ c) (hc : c ≤ 9223372036854775807) (hn : n ≤ 1000000) (hl : l.length = n) (hr : Reads w w.heap.size A (l.map byte)) (hb : Byt l) (hs : s = l.drop k) :
    Calls Try.prog 32 #[.slice A n c, .int .i64 k] w fun e w' => e = .returned (resT (getL s)) ∧ w.grownBy w' none := by
  have hbs : Byt s := fun x hx => hb x (List.mem_of_mem_drop (hs ▸ hx))
  have hsl : s.length = n - k := by rw [hs, List.length_drop]; omega
  have hnth := Lib.hid (fun j => show nth l (k + j) = nth s j by rw [hs]; unfold nth; simp [List.getD_eq_getElem?_getD, List.getElem?_drop])
  obtain ⟨ad, rfl⟩ : ∃ ad, A = some ad := by
    obtain ⟨ad, e, _⟩ := hr.at_ (k := k) (by simp; omega)
    exact ⟨ad, e⟩
  have hr2 : ∀ W i, w.grownBy W none → Reads W w.heap.size (some (ad.add k)) ((s.take (i + 1)).map byte) := fun W i hg => by
    have := ((hr.grown0 hg).drop (k := k) rfl).take (i + 1)
    rwa [← List.map_drop, ← List.map_take, ← hs] at this
  have hr2' := Lib.hid hr2
  have hsl' := Lib.hid hsl
  have hl' := Lib.hid hl
  clear hs hsl hr2 hl
  go_enter Try.func32, Try.ntmps32
  go_wp2_with fail
  go_loopw [7, 8, 9] (fun v u i wr => ∃ j : Nat, j ≤ 10 ∧ j ≤ n - k ∧ i = .int .i64 j ∧ v = .int .u64 ((valL (s.take j) % 18446744073709551616 : Nat) : Int) ∧ u = .int .u64 ((128 ^ j % 18446744073709551616 : Nat) : Int) ∧ Hid (rgRel s j) ∧ w.grownBy wr none) (fun _ _ i _ => 10 - (intOf i).toNat)
  case atStart => exact ⟨0, by omega, by omega, rfl, by simp [valL], by simp, fun j hj => absurd hj (by omega), World.grownBy.refl _ _⟩
  case round =>
    obtain ⟨j, hj, hjn, rfl, rfl, rfl, hrel, hg⟩ := hrel
    by_cases h10 : j < 10
    · by_cases hend : j < n - k
      · obtain ⟨ad', e1, _, hcell⟩ := (hr.grown0 hg).byte_ (k := k + j) (by rw [hl'.out]; omega)
        cases e1
        rw [hnth.out] at hcell
        have hd := hbs.nth j
        have hstep := Lib.hid (valL_step s j (by have := hsl'.out; omega))
        have hpow := Lib.hid (Nat.pow_succ 128 j)
        have hum : 128 ^ j % 18446744073709551616 < 18446744073709551616 := Nat.mod_lt _ (by decide)
        have hvm : valL (s.take j) % 18446744073709551616 < 18446744073709551616 := Nat.mod_lt _ (by decide)
        have hvn := Lib.hid (show ((valL (s.take j) % 18446744073709551616) + (nth s j % 128 * (128 ^ j % 18446744073709551616)) % 18446744073709551616) % 18446744073709551616 = valL (s.take (j + 1)) % 18446744073709551616 by
          rw [mod_step _ _ _ (Nat.mod_lt _ (by decide)), hstep.out])
        have hun := Lib.hid (show (128 ^ j % 18446744073709551616) * 128 % 18446744073709551616 = 128 ^ (j + 1) % 18446744073709551616 by rw [Nat.mod_mul_mod, Nat.pow_succ])
        have hvm' : valL (s.take (j + 1)) % 18446744073709551616 < 18446744073709551616 := Nat.mod_lt _ (by decide)
        generalize 128 ^ j % 18446744073709551616 = u at *
        generalize valL (s.take j) % 18446744073709551616 = v at *
        have e1 : IntKind.u64.wrap ((v : Int) + IntKind.u64.wrap ((nth s j : Int) % 128 * (u : Int))) = ((valL (s.take (j + 1)) % 18446744073709551616 : Nat) : Int) := by
          rw [IntKind.wrap_u64, IntKind.wrap_u64, ← hvn.out]
          simp
        have e2 : IntKind.u64.wrap ((u : Int) * 128) = ((128 ^ (j + 1) % 18446744073709551616 : Nat) : Int) := by
          rw [IntKind.wrap_u64, ← hun.out]
          simp
        by_cases hlo : nth s j < 128
        · have hst := Lib.hid (getL_stop hbs (i := j) (by have := hsl'.out; omega) (by omega) hrel.out (by simp [low, hlo]))
          generalize valL (s.take (j + 1)) % 18446744073709551616 = v' at *
          generalize 128 ^ (j + 1) % 18446744073709551616 = u' at *
          have CP := Lib.hid (fun W => rput_any v' W hvm')
          have hp10 := putL_len10 v' hvm'
          have CS := Lib.hid (fun W A1 c1 c2 m b (hm : m = j + 1) (hbb : (putL v' == s.take (j + 1)) = b) (hx : ∃ X, Reads W X A1 ((putL v').map byte)) (hgw : w.grownBy W none) =>
            same_lit A1 (some (ad.add k)) (putL v').length c1 m c2 (putL v') (s.take (j + 1)) b hbb W hx.choose w.heap.size rfl (by rw [List.length_take, hm]; have := hsl'.out; omega) hx.choose_spec (hr2'.out W j hgw) (by omega) (by omega))
          have hgd := grown_drew hg
          clear hstep hpow hvn hun hr hbs hb
          cases hq : (putL v' == s.take (j + 1)) with
          | true =>
            rw [hq, if_pos rfl] at hst
            have hq' := Lib.hid hq
            clear hq
            generalize putL v' = p at *
            go_wp2_with fail
            have e3 := IntWalk.i64_in ((k : Int) + (j : Int)) (by omega)
            have e4 := IntWalk.i64_in ((k : Int) + (j : Int) + 1) (by omega)
            have e6 : (0 : Int) ≤ (k : Int) + (j : Int) + 1 := by omega
            have e5 : ((k : Int) + (j : Int) + 1).toNat = k + j + 1 := by omega
            go_region_with (first
              | (go_at_call 19; refine (CP.out _).mono ?_; rintro e w1 ⟨A1, c1, rfl, hown1, hg1⟩)
              | (go_at_call 17; refine (CS.out _ _ _ _ _ _ ?_ hq'.out ?_ ?_).mono ?_; (clear e3 e4 e5; omega); (exact ⟨_, hown1.reads⟩); (exact grown_trans hgd hg1); rintro e w2 ⟨rfl, hg2⟩))
            all_goals
              clear e3 e4 e5
              go_wp2_with fail
              go_ret3
              rw [hst.out]
              exact ⟨rfl, grown_trans (grown_trans hgd hg1) hg2⟩
          | false =>
            rw [hq, if_neg (by simp)] at hst
            have hq' := Lib.hid hq
            clear hq
            generalize putL v' = p at *
            go_wp2_with fail
            have e3 := IntWalk.i64_in ((k : Int) + (j : Int)) (by omega)
            have e4 := IntWalk.i64_in ((k : Int) + (j : Int) + 1) (by omega)
            have e6 : (0 : Int) ≤ (k : Int) + (j : Int) + 1 := by omega
            have e5 : ((k : Int) + (j : Int) + 1).toNat = k + j + 1 := by omega
            go_region_with (first
              | (go_at_call 19; refine (CP.out _).mono ?_; rintro e w1 ⟨A1, c1, rfl, hown1, hg1⟩)
              | (go_at_call 17; refine (CS.out _ _ _ _ _ _ ?_ hq'.out ?_ ?_).mono ?_; (clear e3 e4 e5; omega); (exact ⟨_, hown1.reads⟩); (exact grown_trans hgd hg1); rintro e w2 ⟨rfl, hg2⟩))
            all_goals
              clear e3 e4 e5
              go_wp2_with fail
              go_ret3
              rw [hst.out]
              exact ⟨rfl, grown_trans (grown_trans hgd hg1) hg2⟩
        · have hnx := Lib.hid (show rgRel s (j + 1) from fun i hi => by
            rcases Nat.lt_or_ge i j with h | h
            · exact hrel.out i h
            · obtain rfl : i = j := by omega
              simp [low]; omega)
          clear hstep hpow hvn hun hrel hr2' hr hbs hb
          go_wp2_with fail
          go_roundw
          case rel => exact ⟨j + 1, by omega, by omega, by go_num, rfl, rfl, hnx, hg⟩
          case measure => simp [intOf]; omega
      · have hfin := Lib.hid (getL_ends (s := s) (fun i hi => hrel.out i (by have := hsl'.out; omega)))
        go_wp2_with fail
        go_ret3
        rw [hfin.out]
        exact ⟨rfl, hg⟩
    · have hfin := Lib.hid (getL_long (s := s) (fun i hi => hrel.out i (by omega)))
      go_wp2_with fail
      go_ret3
      rw [hfin.out]
      exact ⟨rfl, hg⟩
end Go.Proofs.Ythijicpfihpkfaa
