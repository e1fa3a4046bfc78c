/- The document's Get of any bytes, any place; its Rows; both Rows as one form. -/
import Derived.Test.YthijicpfihpkfaaRq
import Derived.Test.YthijicpfihpkfaaRw
namespace Go.Proofs.Ythijicpfihpkfaa
open Go Go.RowKit
theorem rget_out (A : Option Addr) (n c : Nat) (at' : Int) (w : World) (h : at' < 0 ∨ (0 ≤ at' ∧ (n : Int) ≤ at')) (_hn : n ≤ 1000000) (_h1 : -9223372036854775808 ≤ at') (_h2 : at' ≤ 9223372036854775807) :
    Calls Try.prog 32 #[.slice A n c, .int .i64 at'] w fun e w' => e = .returned (resT none) ∧ w.grownBy w' none := by
  rcases h with h | ⟨h, h2⟩
  · have hd : decide (0 ≤ at') = false := by simp; omega
    go_enter Try.func32, Try.ntmps32
    go_wp2_with fail
    refine wp_loop_rounds 1 ?_
    rw [rounds_succ]
    go_wp2_with fail
    go_ret3
    exact ⟨rfl, World.grownBy.refl _ _⟩
  · have hd : ¬ at' ≤ (n : Int) - 1 := by omega
    go_enter Try.func32, Try.ntmps32
    go_wp2_with fail
    refine wp_loop_rounds 1 ?_
    rw [rounds_succ]
    go_wp2_with fail
    go_ret3
    exact ⟨rfl, World.grownBy.refl _ _⟩
theorem rget_any (A : Option Addr) (n c : Nat) (at' : Int) (l : List Nat) (w : World) (hnc : n ≤ c) (hc : c ≤ 9223372036854775807) (hn : n ≤ 1000000) (hl : l.length = n) (hr : Reads w w.heap.size A (l.map byte)) (hb : Byt l) (h1 : -9223372036854775808 ≤ at') (h2 : at' ≤ 9223372036854775807) :
    Calls Try.prog 32 #[.slice A n c, .int .i64 at'] w fun e w' => e = .returned (resT (getV l at')) ∧ w.grownBy w' none := by
  by_cases ho : at' < 0 ∨ (n : Int) ≤ at'
  · have hv : getV l at' = none := if_pos (by rw [hl]; exact ho)
    rw [hv]
    exact rget_out A n c at' w (by omega) hn h1 h2
  · obtain ⟨k, rfl⟩ := Int.eq_ofNat_of_zero_le (show 0 ≤ at' by omega)
    have hk : k < n := by omega
    have hv : getV l (k : Int) = getL (l.drop k) := if_neg (by rw [hl]; exact ho)
    rw [hv]
    exact rget_in A n c k l _ w hk hnc hc hn hl hr hb rfl
set_option maxRecDepth 100000 in
set_option maxHeartbeats 1000000 in
theorem rrows_any (A : Option Addr) (n c : Nat) (l : List Nat) (w : World) (hnc : n ≤ c) (hc : c ≤ 9223372036854775807) (hn : n ≤ 1000000) (hl : l.length = n) (hr : Reads w w.heap.size A (l.map byte)) (hb : Byt l) :
    Calls Try.prog 34 #[.slice A n c] w (RowsPost (rowsL l) w) := by
  obtain ⟨i0, hi0, hz0, hz1, hz2⟩ := info_parts infoW
  have C := Lib.hid (fun W (k : Nat) (hk : k ≤ n) (hg : w.grownBy W none) => rget_any A n c (k : Int) l W hnc hc hn hl ((hr.grown0 hg).more hg.size) hb (by omega) (by omega))
  have hl' := Lib.hid hl
  clear hr hl
  go_enter Try.func34, Try.ntmps34
  go_wp2_with fail
  go_loopw [4, 5, 6, 7, 8] (fun v p _ _ _ wr => ∃ (k : Nat) (ns : List Nat) (B : Option Addr) (c' : Nat), k ≤ n ∧ p = .int .i64 k ∧ v = .slice B ns.length c' ∧ ns.length ≤ k ∧ Hid (rowsL l = (rowsL (l.drop k)).map (ns ++ ·)) ∧ Own wr w.heap.size 27 1 B ns.length c' (ns.map w64) ∧ w.grownBy wr none) (fun _ p _ _ _ _ => n - (intOf p).toNat)
  case atStart => exact ⟨0, [], none, 0, by omega, rfl, rfl, by simp, by rw [Hid]; simp, Own.nil_ _ _ _ _ _, World.grownBy.refl _ _⟩
  case round =>
    obtain ⟨k, ns, B, c', hk, rfl, rfl, hnk, hrow, hown, hg⟩ := hrel
    by_cases hlt : k < n
    · have hgv : getV l (k : Int) = getL (l.drop k) := if_neg (by rw [hl'.out]; omega)
      have hne : l.drop k ≠ [] := by
        intro h
        have := congrArg List.length h
        simp at this
        have := hl'.out
        omega
      have C1 := Lib.hid (C.out wr k hk hg)
      rw [hgv] at C1
      cases hgl : getL (l.drop k) with
      | none =>
        have hfin := Lib.hid (show rowsL l = none by rw [hrow.out, rowsL_none hne hgl]; rfl)
        rw [hgl] at C1
        clear hgl hgv hne C
        unfold resT at C1
        go_wp2_with fail
        refine C1.out.mono ?_; rintro e w1 ⟨rfl, hg1⟩
        go_wp2
        go_ret2
        rw [hfin.out]
        exact ⟨rfl, grown_trans hg hg1⟩
      | some p =>
        obtain ⟨v, u⟩ := p
        have hbd := getL_bd hgl
        rw [List.length_drop, hl'.out] at hbd
        obtain ⟨u1, u2, u3, u4⟩ := hbd
        have hfin := Lib.hid (show rowsL l = (rowsL (l.drop (k + u))).map ((ns ++ [v]) ++ ·) by
          rw [hrow.out, rowsL_some hgl, Option.map_map, List.drop_drop]
          congr 1
          funext x
          simp)
        rw [hgl] at C1
        clear hgl hgv hne C
        unfold resT at C1
        have hgz := hg.size
        go_wp2_with fail
        refine C1.out.mono ?_; rintro e w1 ⟨rfl, hg1⟩
        have hgz1 := hg1.size
        have hown1 := hown.grown0 hg1
        clear hown hrow
        go_wp2_with (at_builtin; refine wpList_append_Own rfl (.tmp 22) (.tmp 24) _ rfl w.heap.size 27 i0 _ 1 8 Try.underlying46 hi0 hz0 hz1 hz2 rfl (by omega) B ns.length c' _ rfl (hown1.alloc _) (some ⟨w1.heap.size, 0, none⟩) 1 1 _ ([v].map w64) rfl rfl (Reads.one_ _ _ _) (w64_one _) (by simp only [maxLen]; omega) (by omega) (by simp; omega) ?_; intro B2 c2 w2 hown2 hg2 _)
        have hrowg := (hown1.alloc (.cells #[.int .u64 (v : Int)] 27)).row_ge
        have hgn := grown_new (grown_trans (grown_trans hg hg1) (World.grownBy_alloc _ _ none)) hg2 (fun g h => (hrowg g h).1)
        go_roundw
        case rel => exact ⟨k + u, ns ++ [v], B2, c2, by omega, by go_num, by simp, by simp; omega, hfin, by simpa using hown2, hgn⟩
        case measure => simp [intOf]; omega
    · obtain rfl : k = n := by omega
      have hfin := Lib.hid (show rowsL l = some ns by
        rw [hrow.out, List.drop_eq_nil_of_le (by have := hl'.out; omega), rowsL_nil]
        simp)
      clear hrow C
      go_wp2
      go_ret2
      rw [hfin.out]
      exact ⟨B, c', rfl, hown, hg⟩

def rowsN (l : List Nat) : List Nat := (rowsL l).getD []
theorem rowsG {f : FuncId} {args : Array Value} {w : World} {l : List Nat} (h : Calls Try.prog f args w (RowsPost (rowsL l) w)) :
    Calls Try.prog f args w fun e w' => ∃ A c, e = .returned (.tuple #[.slice A (rowsN l).length c, .bool (rowsL l).isSome]) ∧ Own w' w.heap.size 27 1 A (rowsN l).length c ((rowsN l).map w64) ∧ w.grownBy w' none := by
  refine h.mono fun e w' hp => ?_
  unfold RowsPost at hp
  unfold rowsN
  cases hr : rowsL l with
  | none =>
    rw [hr] at hp
    exact ⟨none, 0, hp.1, Own.nil_ _ _ _ _ _, hp.2⟩
  | some ns =>
    rw [hr] at hp
    exact hp
theorem rowsL_bd (k : Nat) : ∀ {l ns : List Nat}, l.length ≤ k → rowsL l = some ns → ns.length ≤ l.length ∧ ∀ x ∈ ns, x < 18446744073709551616 := by
  induction k with
  | zero =>
    intro l ns hk h
    have : l = [] := List.eq_nil_of_length_eq_zero (by omega)
    subst this
    rw [rowsL_nil] at h
    cases h
    simp
  | succ k ih =>
    intro l ns hk h
    by_cases h0 : l = []
    · subst h0
      rw [rowsL_nil] at h
      cases h
      simp
    · cases hg : getL l with
      | none => rw [rowsL_none h0 hg] at h; cases h
      | some p =>
        obtain ⟨n, u⟩ := p
        obtain ⟨b1, b2, _, b4⟩ := getL_bd hg
        rw [rowsL_some hg] at h
        obtain ⟨ms, h1, rfl⟩ := Option.map_eq_some_iff.1 h
        obtain ⟨c1, c2⟩ := ih (l := l.drop u) (by rw [List.length_drop]; omega) h1
        rw [List.length_drop] at c1
        refine ⟨by simp; omega, fun x hx => ?_⟩
        rcases List.mem_cons.1 hx with rfl | hx
        · exact b4
        · exact c2 x hx
theorem rowsN_bd (l : List Nat) : (rowsN l).length ≤ l.length ∧ ∀ x ∈ rowsN l, x < 18446744073709551616 := by
  unfold rowsN
  cases hr : rowsL l with
  | none => simp
  | some ns => exact rowsL_bd l.length (Nat.le_refl _) hr
theorem resT_is (r : Option (Nat × Nat)) : ∃ (x u : Int) (ok : Bool), resT r = .tuple #[.int .u64 x, .int .i64 u, .bool ok] := by
  cases r with
  | none => exact ⟨0, 0, false, rfl⟩
  | some p => exact ⟨p.1, p.2, true, rfl⟩
end Go.Proofs.Ythijicpfihpkfaa
