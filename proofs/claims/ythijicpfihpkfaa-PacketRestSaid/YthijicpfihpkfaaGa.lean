/- words.Get of any bytes, any place; words.Rows. -/
import Derived.Test.YthijicpfihpkfaaGx
namespace Go.Proofs.Ythijicpfihpkfaa
open Go Go.RowKit
theorem idxV_none {l : List Nat} (h : l.findIdx? low = none) : idxV l = -1 := by unfold idxV; rw [h]
theorem idxV_some {l : List Nat} {j : Nat} (h : l.findIdx? low = some j) : idxV l = j := by unfold idxV; rw [h]
theorem get_any (A : Option Addr) (n c : Nat) (at' : Int) (l : List Nat) (w : World) (hnc : n ≤ c) (hc : c ≤ 9223372036854775807) (hn : n ≤ 1000000) (hl : l.length = n) (hr : Reads w w.heap.size A (l.map byte)) (hb : Byt l) (h1 : -9223372036854775808 ≤ at') (h2 : at' ≤ 9223372036854775807) :
    Calls Try.prog 27 #[.slice A n c, .int .i64 at'] w fun e w' => e = .returned (resT (getV l at')) ∧ w.grownBy w' none := by
  by_cases ho : at' < 0 ∨ (n : Int) ≤ at'
  · have hv : getV l at' = none := if_pos (by rw [hl]; exact ho)
    rw [hv]
    exact get_out A n c at' w (by omega) hn h1 h2
  · obtain ⟨k, rfl⟩ := Int.eq_ofNat_of_zero_le (show 0 ≤ at' by omega)
    have hk : k < n := by omega
    have hv : getV l (k : Int) = getL (l.drop k) := if_neg (by rw [hl]; exact ho)
    obtain ⟨ad, rfl, _⟩ := hr.at_ (k := k) (by simp; omega)
    rw [hv]
    unfold getL
    cases hf : (l.drop k).findIdx? low with
    | none => exact get_none ad n c k l w hk hnc hc hn hl hr hb (.inl (by rw [idxV_none hf]; omega))
    | some j =>
      have hj := idxV_some hf
      have hjl := (findIdx_isWord hf).2
      rw [List.length_drop] at hjl
      simp only
      by_cases h9 : 9 < j
      · rw [if_pos h9]
        exact get_none ad n c k l w hk hnc hc hn hl hr hb (.inr (by rw [hj]; omega))
      · rw [if_neg h9]
        exact get_in ad n c k j l _ w hk hnc hc hn hl hr hb hj (by omega) (by omega) rfl
theorem getL_bd {l : List Nat} {n k : Nat} (h : getL l = some (n, k)) : 1 ≤ k ∧ k ≤ l.length ∧ k ≤ 10 ∧ n < 18446744073709551616 := by
  unfold getL at h
  split at h
  · cases h
  · rename_i j hj
    have h2 := (findIdx_isWord hj).2
    split at h
    · cases h
    · split at h
      · rename_i h3
        simp only [Option.some.injEq, Prod.mk.injEq] at h
        obtain ⟨rfl, rfl⟩ := h
        exact ⟨by omega, by omega, by omega, h3.1⟩
      · cases h
theorem getL_nil : getL [] = none := rfl
def rowsL (l : List Nat) : Option (List Nat) :=
  match _h : getL l with
  | none => if l = [] then some [] else none
  | some (n, k) => (rowsL (l.drop k)).map (n :: ·)
termination_by l.length
decreasing_by
  have := getL_bd _h
  rw [List.length_drop]
  omega
theorem rowsL_nil : rowsL [] = some [] := by rw [rowsL]; rfl
theorem rowsL_none {l : List Nat} (h0 : l ≠ []) (h : getL l = none) : rowsL l = none := by
  rw [rowsL]
  split
  · rw [if_neg h0]
  · rename_i h2
    rw [h] at h2
    cases h2
theorem rowsL_some {l : List Nat} {n k : Nat} (h : getL l = some (n, k)) : rowsL l = (rowsL (l.drop k)).map (n :: ·) := by
  rw [rowsL]
  split
  · rename_i h2
    rw [h] at h2
    cases h2
  · rename_i h2
    rw [h] at h2
    cases h2
    rfl
def w64 (n : Nat) : Value := .int .u64 (n : Int)
theorem w64_one (l : List Nat) : ∀ u ∈ l.map w64, u.oneCell' = true := by
  intro u hu
  obtain ⟨_, _, rfl⟩ := List.mem_map.1 hu
  rfl
theorem infoW : (Try.prog.info? 27).map (fun i => (i.zero, i.size, i.bytes)) = some (some (.int .u64 0), 1, 8) := by kernel_rfl
def RowsPost (r : Option (List Nat)) (w : World) (e : Ending) (w' : World) : Prop :=
  match r with
  | none => e = .returned (.tuple #[.slice none 0 0, .bool false]) ∧ w.grownBy w' none
  | some ns => ∃ A c, e = .returned (.tuple #[.slice A ns.length c, .bool true]) ∧ Own w' w.heap.size 27 1 A ns.length c (ns.map w64) ∧ w.grownBy w' none
set_option maxRecDepth 100000 in
set_option maxHeartbeats 1000000 in
theorem rows_any (A : Option Addr) (n c : Nat) (l : List Nat) (w : World) (hnc : n ≤ c) (hc : c ≤ 9223372036854775807) (hn : n ≤ 1000000) (hl : l.length = n) (hr : Reads w w.heap.size A (l.map byte)) (hb : Byt l) :
    Calls Try.prog 33 #[.slice A n c] w (RowsPost (rowsL l) w) := by
  obtain ⟨i0, hi0, hz0, hz1, hz2⟩ := info_parts infoW
  have C := Lib.hid (fun W (k : Nat) (hk : k ≤ n) (hg : w.grownBy W none) => get_any A n c (k : Int) l W hnc hc hn hl ((hr.grown0 hg).more hg.size) hb (by omega) (by omega))
  have hl' := Lib.hid hl
  clear hr hl
  go_enter Try.func33, Try.ntmps33
  go_wp2_with fail
  go_loopw [4, 5, 6, 7, 8] (fun v p _ _ _ wr => ∃ (k : Nat) (ns : List Nat) (B : Option Addr) (c' : Nat), k ≤ n ∧ p = .int .i64 k ∧ v = .slice B ns.length c' ∧ ns.length ≤ k ∧ Hid (rowsL l = (rowsL (l.drop k)).map (ns ++ ·)) ∧ Own wr w.heap.size 27 1 B ns.length c' (ns.map w64) ∧ w.grownBy wr none) (fun _ p _ _ _ _ => n - (intOf p).toNat)
  case atStart => exact ⟨0, [], none, 0, by omega, rfl, rfl, by simp, by rw [Hid]; simp, Own.nil_ _ _ _ _ _, World.grownBy.refl _ _⟩
  case round =>
    obtain ⟨k, ns, B, c', hk, rfl, rfl, hnk, hrow, hown, hg⟩ := hrel
    by_cases hlt : k < n
    · have hgv : getV l (k : Int) = getL (l.drop k) := if_neg (by rw [hl'.out]; omega)
      have hne : l.drop k ≠ [] := by
        intro h
        have := congrArg List.length h
        simp at this
        have := hl'.out
        omega
      have C1 := Lib.hid (C.out wr k hk hg)
      rw [hgv] at C1
      cases hgl : getL (l.drop k) with
      | none =>
        have hfin := Lib.hid (show rowsL l = none by rw [hrow.out, rowsL_none hne hgl]; rfl)
        rw [hgl] at C1
        clear hgl hgv hne C
        unfold resT at C1
        go_wp2_with fail
        refine C1.out.mono ?_; rintro e w1 ⟨rfl, hg1⟩
        go_wp2
        go_ret2
        rw [hfin.out]
        exact ⟨rfl, grown_trans hg hg1⟩
      | some p =>
        obtain ⟨v, u⟩ := p
        have hbd := getL_bd hgl
        rw [List.length_drop, hl'.out] at hbd
        obtain ⟨u1, u2, u3, u4⟩ := hbd
        have hfin := Lib.hid (show rowsL l = (rowsL (l.drop (k + u))).map ((ns ++ [v]) ++ ·) by
          rw [hrow.out, rowsL_some hgl, Option.map_map, List.drop_drop]
          congr 1
          funext x
          simp)
        rw [hgl] at C1
        clear hgl hgv hne C
        unfold resT at C1
        have hgz := hg.size
        go_wp2_with fail
        refine C1.out.mono ?_; rintro e w1 ⟨rfl, hg1⟩
        have hgz1 := hg1.size
        have hown1 := hown.grown0 hg1
        clear hown hrow
        go_wp2_with (at_builtin; refine wpList_append_Own rfl (.tmp 22) (.tmp 24) _ rfl w.heap.size 27 i0 _ 1 8 Try.underlying46 hi0 hz0 hz1 hz2 rfl (by omega) B ns.length c' _ rfl (hown1.alloc _) (some ⟨w1.heap.size, 0, none⟩) 1 1 _ ([v].map w64) rfl rfl (Reads.one_ _ _ _) (w64_one _) (by simp only [maxLen]; omega) (by omega) (by simp; omega) ?_; intro B2 c2 w2 hown2 hg2 _)
        have hrowg := (hown1.alloc (.cells #[.int .u64 (v : Int)] 27)).row_ge
        have hgn := grown_new (grown_trans (grown_trans hg hg1) (World.grownBy_alloc _ _ none)) hg2 (fun g h => (hrowg g h).1)
        go_roundw
        case rel => exact ⟨k + u, ns ++ [v], B2, c2, by omega, by go_num, by simp, by simp; omega, hfin, by simpa using hown2, hgn⟩
        case measure => simp [intOf]; omega
    · obtain rfl : k = n := by omega
      have hfin := Lib.hid (show rowsL l = some ns by
        rw [hrow.out, List.drop_eq_nil_of_le (by have := hl'.out; omega), rowsL_nil]
        simp)
      clear hrow C
      go_wp2
      go_ret2
      rw [hfin.out]
      exact ⟨B, c', rfl, hown, hg⟩
end Go.Proofs.Ythijicpfihpkfaa
