/- The walk of slices.Concat over rows of bytes. -/
import Derived.Test.YthijicpfihpkfaaT3
namespace Go.Proofs.Ythijicpfihpkfaa
open Go Go.RowKit
theorem infoS : (Try.prog.info? 22).map (fun i => (i.zero, i.size, i.bytes)) = some (some (.slice none 0 0), 1, 24) := by kernel_rfl
/-- Slices that read as rows of bytes. -/
def RowsAt (w : World) (B : Nat) (vs : List Value) (ls : List (List Nat)) : Prop :=
  vs.length = ls.length ∧ ∀ j, j < ls.length → ∃ A c, vs[j]? = some (.slice A (ls.getD j []).length c) ∧ Reads w B A ((ls.getD j []).map byte)
theorem RowsAt.grown0 {w w' : World} {B : Nat} {vs : List Value} {ls : List (List Nat)} (h : RowsAt w w.heap.size vs ls) (hg : w.grownBy w' none) : RowsAt w' w.heap.size vs ls :=
  ⟨h.1, fun j hj => by
    obtain ⟨A, c, h1, h2⟩ := h.2 j hj
    exact ⟨A, c, h1, h2.grown0 hg⟩⟩
def catK (ls : List (List Nat)) (k : Nat) : List Nat := (ls.take k).flatten
theorem catK_succ {ls : List (List Nat)} {k : Nat} (h : k < ls.length) : catK ls (k + 1) = catK ls k ++ ls.getD k [] := by
  unfold catK
  rw [List.take_succ_eq_append_getElem h, List.flatten_append]
  simp [h]
theorem catK_all (ls : List (List Nat)) : catK ls ls.length = ls.flatten := by unfold catK; rw [List.take_length]
theorem catK_le (ls : List (List Nat)) (k : Nat) : (catK ls k).length ≤ ls.flatten.length := by
  have : ls.flatten = (ls.take k).flatten ++ (ls.drop k).flatten := by rw [← List.flatten_append, List.take_append_drop]
  rw [this, List.length_append]
  unfold catK
  omega
theorem grow0_any (m : Nat) (w : World) (hm : m ≤ 1000000) :
    Calls Try.prog 58 #[.slice none 0 0, .int .i64 m] w fun e w' => ∃ A' c', e = .returned (.slice A' 0 c') ∧ m ≤ c' ∧ Own w' w.heap.size 5 1 A' 0 c' [] ∧ w.grownBy w' none := by
  obtain ⟨i0, hi0, hz0, hz1, hz2⟩ := info_parts info8
  by_cases h0 : m = 0
  · subst h0
    go_enter Try.func58, Try.ntmps58
    go_wp2
    go_ret
    exact ⟨none, 0, rfl, by omega, Own.nil_ _ _ _ _ _, World.grownBy.refl _ _⟩
  · have hm0 : 0 < m := by omega
    go_enter Try.func58, Try.ntmps58
    go_wp2_with (at_builtin; refine wpList_append_zeros rfl (.tmp 20) (.tmp 21) _ _ rfl w.heap.size 5 .i64 i0 _ 1 1 Try.underlying22 Try.underlying3 hi0 hz0 hz1 hz2 rfl (by omega) none 0 [] rfl (Own.nil_ _ _ _ _ _) m (by omega) (val_int (by omega)) (by simp only [maxLen]; omega) (by omega) (Nat.le_refl _) ?_; intro c' w1 zs hown1 hg1; have hcc := hown1.2.1)
    go_ret
    refine ⟨_, c', rfl, by omega, ?_, hg1⟩
    have := hown1.take_ (k := 0) (cap' := c') (by omega) (by omega) (Nat.le_refl _)
    simpa using this
set_option maxHeartbeats 1000000 in
theorem concat_any (A : Option Addr) (n c : Nat) (vs : List Value) (ls : List (List Nat)) (w : World) (hl : ls.length = n) (hr : Reads w w.heap.size A vs) (hv : RowsAt w w.heap.size vs ls) (hn : n ≤ 1000000) (ht : ls.flatten.length ≤ 1000000) :
    Calls Try.prog 55 #[.slice A n c] w fun e w' => ∃ A' c', e = .returned (.slice A' ls.flatten.length c') ∧ Own w' w.heap.size 5 1 A' ls.flatten.length c' (ls.flatten.map byte) ∧ w.grownBy w' none := by
  obtain ⟨i0, hi0, hz0, hz1, hz2⟩ := info_parts info8
  have hvl : vs.length = n := by rw [hv.1, hl]
  have hle := catK_le ls
  have hend := Lib.hid (show catK ls n = ls.flatten by rw [← hl, catK_all])
  have hzero := Lib.hid (show catK ls 0 = [] by simp [catK])
  have HC := Lib.hid (fun k (hk : k < n) W (hg : w.grownBy W none) => show ∃ ad Ak ck, A = some ad ∧ W.cell? (ad.add k) = some (.slice Ak (ls.getD k []).length ck) ∧ Reads W w.heap.size Ak ((ls.getD k []).map byte) ∧ catK ls (k + 1) = catK ls k ++ ls.getD k [] by
    obtain ⟨ad, e, _, hc⟩ := (hr.grown0 hg).at_ (k := k) (by omega)
    obtain ⟨Ak, ck, h1, h2⟩ := hv.2 k (by omega)
    refine ⟨ad, Ak, ck, e, ?_, h2.grown0 hg, catK_succ (by omega)⟩
    rw [hc, ← h1, List.getElem?_eq_getElem (by omega)])
  have hle' := Lib.hid hle
  have C0 := Lib.hid (fun m (hm : m ≤ 1000000) => grow0_any m w hm)
  have hlen := Lib.hid (show ls.flatten.length ≤ 1000000 from ht)
  generalize ls.flatten = tot at *
  clear hr hv hl hvl hle
  go_enter Try.func55, Try.ntmps55
  go_wp2_with fail
  go_loop [3, 5, 11] (fun v _ i => ∃ k : Nat, k ≤ n ∧ i = .int .i64 k ∧ v = .int .i64 ((catK ls k).length : Nat)) (fun _ _ i => n - (intOf i).toNat)
  case atStart => exact ⟨0, Nat.zero_le _, rfl, by rw [hzero.out]; rfl⟩
  case round =>
    obtain ⟨k, hk, rfl, rfl⟩ := hrel
    have hb := hle'.out k
    by_cases hlt : k < n
    · obtain ⟨ad, Ak, ck, rfl, hc, hrk, hs⟩ := HC.out k hlt w (World.grownBy.refl _ _)
      have hsl : (catK ls (k + 1)).length = (catK ls k).length + (ls.getD k []).length := by rw [hs, List.length_append]
      have hb2 := hle'.out (k + 1)
      rw [hsl] at hb2
      have hsl' := Lib.hid hsl
      clear hs hsl hrk
      generalize (ls.getD k []).length = m at *
      generalize (catK ls k).length = s at *
      go_wp2
      go_round
      case rel => exact ⟨k + 1, by omega, by go_num, by rw [hsl'.out]; go_num⟩
      case measure => simp [intOf]; omega
    · obtain rfl : k = n := by omega
      rw [hend.out] at hb ⊢
      clear hlt hb hk
      go_wp2_with fail
      refine (C0.out _ ht).mono ?_; rintro e w1 ⟨A1, c1, rfl, hc1, hown1, hg1⟩
      go_wp2_with fail
      go_loopw [6, 8, 27] (fun v _ i wr => ∃ (j : Nat) (A' : Option Addr) (c' : Nat), j ≤ k ∧ i = .int .i64 j ∧ v = .slice A' (catK ls j).length c' ∧ Own wr w.heap.size 5 1 A' (catK ls j).length c' ((catK ls j).map byte) ∧ w.grownBy wr none) (fun _ _ i _ => k - (intOf i).toNat)
      case atStart => exact ⟨0, A1, c1, by omega, rfl, by rw [hzero.out]; rfl, by rw [hzero.out]; exact hown1, hg1⟩
      case round =>
        obtain ⟨j, A', c', hj, rfl, rfl, hown, hg⟩ := hrel
        by_cases hlt : j < k
        · obtain ⟨ad, Ak, ck, rfl, hc, hrk, hs⟩ := HC.out j hlt wr hg
          have hb2 := hle'.out (j + 1)
          have hsl : (catK ls (j + 1)).length = (catK ls j).length + (ls.getD j []).length := by rw [hs, List.length_append]
          rw [hsl] at hb2
          have hs' := Lib.hid hs
          have hgz := hg.size
          clear hs hsl
          have h1 := byte_one (ls.getD j [])
          have hml : ((ls.getD j []).map byte).length = (ls.getD j []).length * 1 := by simp
          generalize ls.getD j [] = y at *
          generalize catK ls j = x at *
          have hml' := Lib.hid hml
          clear hml
          go_wp2_with (at_builtin; refine wpList_append_Own rfl (.tmp 31) (.tmp 32) _ rfl w.heap.size 5 i0 _ 1 1 Try.underlying22 hi0 hz0 hz1 hz2 rfl (by omega) A' x.length c' _ rfl hown Ak y.length ck _ (y.map byte) rfl hml'.out hrk h1 (by simp only [maxLen]; omega) (by omega) hgz ?_; intro A3 c3 w1 hown1 hg1 _)
          have hrow := hown.row_ge
          have hgn := grown_new hg hg1 (fun g h => (hrow g h).1)
          go_roundw
          case rel => exact ⟨j + 1, A3, c3, by omega, by go_num, by rw [hs'.out, List.length_append], by rw [hs'.out, List.length_append, List.map_append]; exact hown1, hgn⟩
          case measure => simp [intOf]; omega
        · obtain rfl : j = k := by omega
          rw [hend.out] at hown ⊢
          go_wp2
          go_ret
          exact ⟨A', c', rfl, hown, hg⟩
end Go.Proofs.Ythijicpfihpkfaa
