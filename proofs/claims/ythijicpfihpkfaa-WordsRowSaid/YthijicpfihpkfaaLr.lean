/- The walk of WordsRow. -/
import Derived.Test.YthijicpfihpkfaaRr
import Derived.Test.YthijicpfihpkfaaLo
import Derived.Test.YthijicpfihpkfaaPl4
import Derived.StillTailTactics
import Derived.Deep.QuietTactic
import Derived.BigQuiet
namespace Go.Proofs.Ythijicpfihpkfaa
open Go Go.RowKit
theorem IsRow.words_ {w : World} {a : Option Addr} {len cap : Nat} {zs : List Int} (h : IsRow .u64 w a len cap zs) :
    ∃ l : List Nat, l.length = len ∧ (∀ x ∈ l, x < 18446744073709551616) ∧ Reads w w.heap.size a (l.map w64) := by
  rcases h with ⟨_, rfl, rfl, _⟩ | ⟨x, rfl, hl, hm, hz, hc, hw⟩
  · exact ⟨[], rfl, by simp, Reads.nil_⟩
  · have hb : ∀ n ∈ zs, 0 ≤ n ∧ n < 18446744073709551616 := fun n hn => by
      have := wfU64 (hw n hn)
      omega
    refine ⟨(zs.take len).map Int.toNat, by simp; omega, fun y hy => ?_, fun hn => ⟨x, rfl, ?_, fun j u hu => ?_⟩⟩
    · obtain ⟨z, hz', rfl⟩ := List.mem_map.1 hy
      have := hb z (List.mem_of_mem_take hz')
      omega
    · have h0 := hc 0 (by simp at hn; omega)
      have := World.block_lt_of_cell? w _ h0
      rwa [add_block] at this
    · have hj : j < len := by
        have := (List.getElem?_eq_some_iff.1 hu).1
        simp at this; omega
      have h1 := hc j (by omega)
      have hj2 : j < zs.length := by omega
      simp only [List.getElem?_map, List.getElem?_take, hj, if_true, List.getElem?_eq_getElem hj2, Option.map_some, Option.some.injEq] at hu
      rw [h1, ← hu]
      have := hb zs[j] (List.getElem_mem hj2)
      simp [w64, hj2]
      omega
theorem rowB_cons (x : Nat) (r : List Nat) : rowB (x :: r) = putL x ++ rowB r := rfl
theorem rowsL_rowB : ∀ l : List Nat, (∀ x ∈ l, x < 18446744073709551616) → rowsL (rowB l) = some l
  | [], _ => rowsL_nil
  | x :: r, h => by
    rw [rowB_cons, rowsL_some (getL_putL x (h x (by simp)) (rowB r)), List.drop_left, rowsL_rowB r (fun y hy => h y (List.mem_cons_of_mem _ hy))]
    rfl
/-- Where a row may be cut. -/
def bnd (l : List Nat) (cut : Int) : Nat → Bool
  | 0 => cut == 0
  | k + 1 => bnd l cut k || (cut == ((rowB (l.take (k + 1))).length : Int))
theorem bnd_iff (l : List Nat) (cut : Int) : ∀ k, bnd l cut k = true ↔ ∃ j, j ≤ k ∧ cut = ((rowB (l.take j)).length : Int)
  | 0 => by
    simp only [bnd, beq_iff_eq]
    constructor
    · rintro rfl; exact ⟨0, by omega, by simp [rowB]⟩
    · rintro ⟨j, hj, h⟩
      obtain rfl : j = 0 := by omega
      simpa [rowB] using h
  | k + 1 => by
    simp only [bnd, Bool.or_eq_true, beq_iff_eq, bnd_iff l cut k]
    constructor
    · rintro (⟨j, hj, h⟩ | h)
      · exact ⟨j, by omega, h⟩
      · exact ⟨k + 1, by omega, h⟩
    · rintro ⟨j, hj, h⟩
      by_cases e : j = k + 1
      · subst e; exact .inr h
      · exact .inl ⟨j, by omega, h⟩
theorem cut_iff : ∀ (l : List Nat) (cut : Nat), (∀ x ∈ l, x < 18446744073709551616) → cut ≤ (rowB l).length →
    ((rowsL ((rowB l).take cut)).isSome = true ↔ ∃ j, j ≤ l.length ∧ cut = (rowB (l.take j)).length)
  | [], cut, _, hc => by
    have : cut = 0 := by simpa [rowB] using hc
    subst this
    simp [rowB, rowsL_nil]
  | x :: r, cut, h, hc => by
    have hx := h x (by simp)
    have hp := putL_pos x
    rw [rowB_cons] at hc ⊢
    rw [List.length_append] at hc
    by_cases h0 : cut = 0
    · subst h0
      simp only [List.take_zero, rowsL_nil, Option.isSome_some, true_iff]
      exact ⟨0, by omega, by simp [rowB]⟩
    · by_cases h1 : cut < (putL x).length
      · rw [List.take_append_of_le_length (by omega)]
        have hne : (putL x).take cut ≠ [] := fun e => by
          have := congrArg List.length e
          rw [List.length_take, Nat.min_eq_left (by omega)] at this
          exact h0 this
        rw [rowsL_none hne (getL_torn x cut h1)]
        simp only [Option.isSome_none, Bool.false_eq_true, false_iff, not_exists, not_and]
        intro j hj he
        cases j with
        | zero => simp [rowB] at he; omega
        | succ j =>
          rw [List.take_succ_cons, rowB_cons, List.length_append] at he
          omega
      · obtain ⟨c, rfl⟩ : ∃ c, cut = (putL x).length + c := ⟨cut - (putL x).length, by omega⟩
        have ih := cut_iff r c (fun y hy => h y (List.mem_cons_of_mem _ hy)) (by omega)
        rw [List.take_length_add_append, rowsL_some (getL_putL x hx _), List.drop_left, Option.isSome_map, ih]
        constructor
        · rintro ⟨j, hj, rfl⟩
          exact ⟨j + 1, by rw [List.length_cons]; exact Nat.succ_le_succ hj, by rw [List.take_succ_cons, rowB_cons, List.length_append]⟩
        · rintro ⟨j, hj, he⟩
          cases j with
          | zero =>
            simp only [List.take_zero, rowB, List.map_nil, List.flatten_nil, List.length_nil] at he
            omega
          | succ j =>
            rw [List.take_succ_cons, rowB_cons, List.length_append] at he
            exact ⟨j, by rw [List.length_cons] at hj; omega, by omega⟩
theorem getV_row {l : List Nat} (h : ∀ x ∈ l, x < 18446744073709551616) {k : Nat} (hk : k < l.length) : getV (rowB l) ((rowB (l.take k)).length : Nat) = some (nth l k, (putL (nth l k)).length) := by
  have e : rowB l = rowB (l.take k) ++ (putL (nth l k) ++ rowB (l.drop (k + 1))) := by
    have e1 : l = l.take k ++ (nth l k :: l.drop (k + 1)) := by
      rw [nth_getElem hk, List.getElem_cons_drop, List.take_append_drop]
    have e2 : rowB (l.take k ++ (nth l k :: l.drop (k + 1))) = rowB (l.take k) ++ rowB (nth l k :: l.drop (k + 1)) := by
      simp [rowB]
    rw [← e1] at e2
    rw [e2, rowB_cons]
  have hp := putL_pos (nth l k)
  unfold getV
  rw [if_neg (by rw [e, List.length_append, List.length_append]; omega), Int.toNat_natCast, e, List.drop_left]
  exact getL_putL _ (nth_lt h k) _
theorem cut_bnd (l : List Nat) (c : Nat) (h : ∀ x ∈ l, x < 18446744073709551616) (hc : c ≤ (rowB l).length) : (rowsL ((rowB l).take c)).isSome = bnd l (c : Int) l.length := by
  rw [Bool.eq_iff_iff, cut_iff l c h hc, bnd_iff]
  constructor
  · rintro ⟨j, hj, e⟩; exact ⟨j, hj, by rw [e]⟩
  · rintro ⟨j, hj, e⟩; exact ⟨j, hj, by omega⟩
theorem rowB_byt (l : List Nat) : Byt (rowB l) := by
  induction l with
  | nil => intro x hx; simp [rowB] at hx
  | cons y r ih => rw [rowB_cons]; exact byt_append (putL_byt y) ih
set_option maxRecDepth 100000 in
set_option maxHeartbeats 4000000 in
theorem WordsRow_walk (a0 : Option Addr) (len0 cap0 : Nat) (z0 : List Int) (cut : Int) (w : World) (w0 : IsRow .u64 w a0 len0 cap0 z0) (wb : (Lit.int .i64 cut).wf = true) :
    Calls Try.prog 10 #[.slice a0 len0 cap0, .int .i64 cut] w fun e w' => e = .returned (.bool true) ∧ Below w.heap.size w w' := by
  have b1 := w0.len_
  obtain ⟨l, hl, hb, hr⟩ := w0.words_
  have hat := wfI64 wb
  clear w0 wb
  by_cases h1 : 60 < len0
  · go_enter Try.func10, Try.ntmps10
    go_wp2_with fail
    refine (awake_any _).mono ?_; rintro e w0 ⟨rfl, hg0⟩
    go_wp2
    go_ret
    exact ⟨rfl, grown_below hg0⟩
  have hlen := rowB_len l hb
  have hlen2 : (rowB l).length ≤ 600 := by omega
  have CR := Lib.hid (fun W (hg : w.grownBy W none) => row_any a0 len0 cap0 l W hl ((hr.grown0 hg).more hg.size) hb (by omega))
  have CN := Lib.hid (fun A c W (hnc : (rowB l).length ≤ c) (hc : c ≤ 9223372036854775807) (hrr : Reads W W.heap.size A ((rowB l).map byte)) => show Calls _ _ _ _ _ from by
    have := rows_any A (rowB l).length c (rowB l) W hnc hc (by omega) rfl hrr (rowB_byt l)
    rw [rowsL_rowB l hb] at this
    exact this)
  have CK := Lib.hid (fun A c m W (hnc : m ≤ (rowB l).length) (hmc : m ≤ c) (hc : c ≤ 9223372036854775807) (hrr : Reads W W.heap.size A ((rowB l).map byte)) => show Calls Try.prog 33 #[.slice A m c] W _ from by
    have := rowsG (rows_any A m c ((rowB l).take m) W hmc hc (by omega) (by rw [List.length_take]; omega) (by rw [List.map_take]; exact hrr.take m) (byt_take (rowB_byt l) m))
    rw [cut_bnd l m hb hnc] at this
    exact this)
  have CZ := Lib.hid (fun k W => size_any (nth l k) W (nth_lt hb k))
  have CT := Lib.hid (fun A c k W (hk : k < len0) (hnc : (rowB l).length ≤ c) (hc : c ≤ 9223372036854775807) (hrr : Reads W W.heap.size A ((rowB l).map byte)) =>
    stands_yes A (rowB l).length c ((rowB (l.take k)).length : Nat) (rowB l) (nth l k) (putL (nth l k)).length W hnc hc (by omega) rfl hrr (rowB_byt l) (by omega) (by
      have : (rowB (l.take k)).length ≤ 10 * (l.take k).length := rowB_len _ (fun x hx => hb x (List.mem_of_mem_take hx))
      rw [List.length_take] at this
      omega) (getV_row hb (by omega)))
  have hbd := Lib.hid (fun k => show (rowB (l.take k)).length ≤ 600 by
    have : (rowB (l.take k)).length ≤ 10 * (l.take k).length := rowB_len _ (fun x hx => hb x (List.mem_of_mem_take hx))
    rw [List.length_take] at this
    omega)
  have hsucc := Lib.hid (fun k (hk : k < len0) => show (rowB (l.take (k + 1))).length = (rowB (l.take k)).length + (putL (nth l k)).length by rw [rowB_succ (by omega), List.length_append])
  have hp10 := Lib.hid (fun k => putL_len10 (nth l k) (nth_lt hb k))
  have hall := Lib.hid (show l.take len0 = l by rw [List.take_of_length_le (by omega)])
  have hl' := Lib.hid hl
  have hbn := Lib.hid (fun k => show bnd l cut (k + 1) = (bnd l cut k || (cut == ((rowB (l.take (k + 1))).length : Int))) from rfl)
  have hb0 := Lib.hid (show bnd l cut 0 = (cut == 0) from rfl)
  have hbl := Lib.hid (show bnd l cut l.length = bnd l cut len0 by rw [hl])
  generalize hrbx : rowB l = rb at CR CN CK CT hlen hlen2
  have hrbe := Lib.hid hrbx
  clear hrbx
  clear hl hb
  go_enter Try.func10, Try.ntmps10
  go_wp2_with fail
  refine (awake_any _).mono ?_; rintro e w1 ⟨rfl, hg1⟩
  go_wp2_with fail
  refine (CR.out _ hg1).mono ?_; rintro e w2 ⟨A2, c2, rfl, hown2, hg2⟩
  have k1 := hown2.2.1
  have k2 : c2 ≤ 9223372036854775807 := by have := hown2.2.2.1; unfold maxLen at this; omega
  have hgA := grown_trans hg1 hg2
  clear hg1 hg2
  go_wp2_with fail
  refine (CN.out _ _ _ k1 k2 hown2.reads).mono ?_; rintro e w3 ⟨A3, c3, rfl, hown3, hg3⟩
  have hown2' := hown2.grown0 hg3
  have hgB := grown_trans hgA hg3
  clear hown2 hgA hg3
  rw [hl'.out] at hown3 ⊢
  have hlenn : ((len0 : Int) != (len0 : Int)) = false := by simp
  go_wp2_with fail
  go_loopw [8, 9, 10] (fun p v i wr => ∃ (k : Nat) (b : Bool), k ≤ len0 ∧ i = .int .i64 k ∧ p = .int .i64 ((rowB (l.take k)).length : Nat) ∧ v = .bool b ∧ Hid (bnd l cut k = b) ∧ w3.grownBy wr none) (fun _ _ i _ => len0 - (intOf i).toNat)
  case atStart => exact ⟨0, cut == 0, by omega, rfl, by simp [rowB], rfl, hb0.out, World.grownBy.refl _ _⟩
  case round =>
    obtain ⟨k, b, hk, rfl, rfl, rfl, hbk, hg⟩ := hrel
    by_cases hlt : k < len0
    · obtain ⟨ad3, rfl, _, x3⟩ := (hown3.grown0 hg).reads.w64_ (k := k) (by rw [hl'.out]; exact hlt)
      obtain ⟨ad0, rfl, _, x0⟩ := ((hr.grown0 hgB).grown0 hg).w64_ (k := k) (by rw [hl'.out]; exact hlt)
      have HX := Lib.hid (fun W (h : w3.grownBy W none) => show W.cell? (ad0.add k) = some (.int .u64 ((nth l k : Nat) : Int)) by
        obtain ⟨ad, e, _, x⟩ := ((hr.grown0 hgB).grown0 h).w64_ (k := k) (by rw [hl'.out]; exact hlt)
        cases e
        exact x)
      have C1 := Lib.hid (CZ.out k)
      have C2 := Lib.hid (fun W (hgw : w3.grownBy W none) => CT.out A2 c2 k W hlt k1 k2 (hown2'.grown0 hgw).reads)
      have hs := Lib.hid (hsucc.out k hlt)
      have hb1 := hbd.out k
      have hb2 := hbd.out (k + 1)
      rw [hs.out] at hb2
      have hbn1 := Lib.hid (hbn.out k)
      rw [hs.out, hbk.out] at hbn1
      generalize (putL (nth l k)).length = pl at *
      generalize nth l k = x at *
      generalize (rowB (l.take k)).length = p at *
      have hxx : ((x : Int) != (x : Int)) = false := by simp
      clear hbk
      go_wp2_with fail
      go_still_tail 21, (by kernel_rfl)
      still_call ((C1.out _).mono fun e w' h => ⟨h.1, h.2.symm⟩)
      refine wpStill_nil ?_
      have hgd : w3.grownBy wr.drew none := grown_drew hg
      change wpList _ _ _ _ _ wr.drew
      generalize wr.drew = w5 at *
      go_wp2_with fail
      refine (C2.out _ hgd).mono ?_; rintro e w6 ⟨rfl, hg6⟩
      have hgE := grown_trans hgd hg6
      have x6 := HX.out _ hgE
      clear hgd hg6 C2 hg x3 x0
      go_wp2_with fail
      refine (C1.out _).mono ?_; rintro e wz ⟨rfl, rfl⟩
      cases b with
      | true =>
        rw [Bool.true_or] at hbn1
        go_wp2_with fail
        go_roundw
        case rel => exact ⟨k + 1, true, by omega, by go_num, by rw [hs.out]; go_num, rfl, hbn1.out, hgE⟩
        case measure => simp [intOf]; omega
      | false =>
        rw [Bool.false_or] at hbn1
        go_wp2_with fail
        go_roundw
        case rel => exact ⟨k + 1, _, by omega, by go_num, by rw [hs.out]; go_num, rfl, by rw [hbn1.out]; simp; exact trivial, hgE⟩
        case measure => simp [intOf]; omega
    · obtain rfl : k = len0 := by omega
      have hbd1 := hbd.out k
      rw [hall.out] at hbd1
      rw [hall.out]
      have hrbl := Lib.hid (show (rowB l).length = rb.length by rw [hrbe.out])
      rw [hrbl.out]
      have hself : ((rb.length : Int) == (rb.length : Int)) = true := by simp
      have hgF := grown_trans hgB hg
      have hownF := hown2'.grown0 hg
      by_cases hcut : cut < 0 ∨ (rb.length : Int) < cut
      · rcases hcut with hc | hc
        · have hd : decide (cut < 0) = true := by simp; omega
          go_wp2_with fail
          go_ret
          exact ⟨rfl, grown_below hgF⟩
        · have hd : decide (cut < 0) = false := by simp; omega
          go_wp2_with fail
          go_ret
          exact ⟨rfl, grown_below hgF⟩
      · obtain ⟨c, rfl⟩ := Int.eq_ofNat_of_zero_le (show 0 ≤ cut by omega)
        have hcl : c ≤ rb.length := by omega
        have hd : decide ((rb.length : Int) < (c : Int)) = false := by simp; omega
        have C9 := Lib.hid (CK.out A2 c2 c wr hcl (by omega) k2 hownF.reads)
        have h0 := map_add0 A2
        have h0' := map_add0' A2
        rw [hbl.out, hbk.out] at C9
        have hbb : (b == b) = true := by simp
        clear hbk hcut CK CT CR CN
        go_wp2_with fail
        refine C9.out.mono ?_; rintro e w4 ⟨A4, c4, rfl, hown4, hg4⟩
        go_wp2_with fail
        go_ret
        exact ⟨rfl, grown_below (grown_trans hgF hg4)⟩
end Go.Proofs.Ythijicpfihpkfaa
