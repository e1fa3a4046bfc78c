/- The walk of words.Put: a loop over an iterator with a box of its own. -/
import Derived.Test.YthijicpfihpkfaaRa
import Derived.Test.YthijicpfihpkfaaWpl
import Derived.Test.YthijicpfihpkfaaRows
import Derived.Shelf.RegionOpen
import Derived.Shelf.Abstract
import Derived.Laws.BitsAllLaws
namespace Go.Proofs.Ythijicpfihpkfaa
open Go Go.RowKit Go.Shelf
attribute [local go_sem] Oper.semAt_some
theorem infoB : (Try.prog.info? 5).map (fun i => (i.zero, i.size, i.bytes)) = some (some (.int .u8 0), 1, 1) := by kernel_rfl
def digL (n : Nat) : List (Fin 128 × Bool) := if h : n < 128 then [(⟨n, h⟩, true)] else (⟨n % 128, Nat.mod_lt _ (by decide)⟩, false) :: digL (n / 128)
termination_by n
decreasing_by omega
theorem digL_lo {n : Nat} (h : n < 128) : digL n = [(⟨n, h⟩, true)] := by rw [digL, dif_pos h]
theorem digL_hi {n : Nat} (h : ¬ n < 128) : digL n = (⟨n % 128, Nat.mod_lt _ (by decide)⟩, false) :: digL (n / 128) := by rw [digL, dif_neg h]
def digB (x : Fin 128 × Bool) : Nat := if x.2 = true then x.1.val else x.1.val + 128
theorem digL_map (n : Nat) : (digL n).map digB = putL n := by
  induction n using Nat.strongRecOn with
  | _ n ih =>
    by_cases h : n < 128
    · rw [digL_lo h, putL_lo h]; rfl
    · rw [digL_hi h, putL_hi h, List.map_cons, ih (n / 128) (by omega)]; rfl
def boxNat (w : World) (b : Nat) : Nat := match w.cell? ⟨b, 0, none⟩ with
  | some (.int _ k) => k.toNat
  | _ => 0
theorem boxNat_of {w : World} {b : Nat} {t : TypeId} {k : IntKind} {m : Nat} (h : Boxed w b t (.int k m)) : boxNat w b = m := by simp [boxNat, h.cell]
theorem and127 (m : Nat) : m &&& 127 = m % 128 := Nat.and_two_pow_sub_one_eq_mod m 7

set_option maxRecDepth 100000 in
set_option maxHeartbeats 2000000 in
theorem digits1_in (F : Fence) (n : Nat) (hF : F.fn 51) (hro : F.round = none) (hn : 1 ≤ n) (l bn N : Nat) (hN : N < 18446744073709551616) (J : List (Fin 128 × Bool) → World → Prop)
    (hJ : ∀ s W v, J s W → J s (W.setCell ⟨bn, 0, none⟩ v))
    (hY : ∀ pre x W, J pre W → pre.length < (digL N).length → YieldAt F (n - 1) Try.prog l #[.int .u8 (x.1.val : Int), .bool x.2] W fun e W' => e = .returned (.bool true) ∧ J (pre ++ [x]) W' ∧ KeepsBox bn 27 W W')
    (W : World) (hb : Boxed W bn 27 (.int .u64 N)) (h0 : J [] W) :
    CallsIn F n Try.prog 51 #[.func (.yield l) #[] #[], .pointer (some ⟨bn, 0, none⟩)] W fun e W' => (∃ v, e = .returned v) ∧ J (digL N) W' := by
  refine callsIn_of_wp Try.func51 rfl hF ?_ hro
  simp only [Try.ntmps51, List.size_toArray, List.length_cons, List.length_nil, Nat.reduceAdd, Nat.reduceSub, Array.replicate_succ, Array.replicate_zero, List.push_toArray, List.append_toArray, List.nil_append, List.cons_append]
  gi_wp2
  gi_loopw [3] (fun _ wr => ∃ (pre : List (Fin 128 × Bool)) (m : Nat), m < 18446744073709551616 ∧ digL N = pre ++ digL m ∧ Boxed wr bn 27 (.int .u64 m) ∧ J pre wr) (fun _ wr => boxNat wr bn)
  case atStart => exact ⟨[], N, hN, rfl, hb, h0⟩
  case round =>
    obtain ⟨pre, m, hm, hd, hbx, hj⟩ := hrel
    have hd' := Lib.hid hd; clear hd
    have hc := hbx.cell
    have hf := hbx.frozen
    by_cases hlt : m < 128
    · obtain ⟨fn, tmps, assign, body, hy, hR⟩ := hY pre (⟨m, hlt⟩, true) wr hj (by rw [hd'.out, digL_lo hlt]; simp)
      dsimp only at hy
      gi_wp2
      refine hR.mono ?_
      rintro e W3 ⟨rfl, hj3, hk3⟩
      gi_wp2
      go_end0
      refine ⟨⟨_, rfl⟩, ?_⟩
      rw [hd'.out, digL_lo hlt]
      exact hj3
    · obtain ⟨fn, tmps, assign, body, hy, hR⟩ := hY pre (⟨m % 128, Nat.mod_lt _ (by decide)⟩, false) wr hj (by rw [hd'.out, digL_hi hlt]; simp)
      have e2 : ((m % 128 : Nat) : Int) = (m : Int) % 128 := by omega
      have e1 : bits .and .u64 (m : Int) 127 = (m : Int) % 128 := by
        rw [← e2, ← and127, ← u64_and_nat m 127 (by omega) (by omega)]; rfl
      dsimp only at hy
      rw [e2] at hy
      clear e2
      gi_wp2
      refine hR.mono ?_
      rintro e W3 ⟨rfl, hj3, hk3⟩
      have hb3 := hk3 _ hbx
      have hc3 := hb3.cell
      have hf3 := hb3.frozen
      clear hc hf
      gi_wp2
      go_roundw
      case rel =>
        refine ⟨pre ++ [(⟨m % 128, Nat.mod_lt _ (by decide)⟩, false)], m / 128, by omega, ?_, ?_, hJ _ _ _ hj3⟩
        · rw [hd'.out, digL_hi hlt, List.append_assoc]; rfl
        · rw [Int.natCast_ediv]
          exact hb3.set _
      case measure =>
        rw [boxNat_of hbx]
        have h4 := (hb3.set (.int .u64 ((m : Int) / 128))).cell
        unfold boxNat
        rw [h4]
        show ((m : Int) / 128).toNat < m
        omega
theorem digits_in (F : Fence) (n : Nat) (hF : F.fn 41) (hro : F.round = none) (N : Int) (w : World) :
    CallsIn F n Try.prog 41 #[.int .u64 N] w fun e w' => e = .returned (.func (.func 51) #[] #[.pointer (some ⟨w.heap.size, 0, none⟩)]) ∧ w.alloc (.cells #[.int .u64 N] 27) = w' := by
  refine callsIn_of_wp Try.func41 rfl hF ?_ hro
  simp only [Try.ntmps41, List.size_toArray, List.length_cons, List.length_nil, Nat.reduceAdd, Nat.reduceSub, Array.replicate_succ, Array.replicate_zero, List.push_toArray, List.append_toArray, List.nil_append, List.cons_append]
  gi_wp2
  go_ret
  exact ⟨rfl, rfl⟩
theorem or128 : ∀ x : Fin 128, x.val ||| 128 = x.val + 128 := by decide
theorem u8_or128 (x : Fin 128) : bits .or .u8 (x.val : Int) 128 = (x.val : Int) + 128 := by
  have := u8_or_nat x.val 128 (by omega) (by omega)
  rw [or128] at this
  simpa using this
/-- What has come so far: in a box, in a row of the call's own. -/
def PutAt (w0 : World) (b : Nat) (s : List (Fin 128 × Bool)) (W : World) : Prop :=
  ∃ A c, Boxed W b 22 (.slice A s.length c) ∧ Own W (w0.heap.size + 2) 5 1 A s.length c ((s.map digB).map byte) ∧ w0.grownBy W none ∧ w0.heap.size + 2 ≤ W.heap.size

set_option maxRecDepth 100000 in
set_option maxHeartbeats 2000000 in
theorem put_any (N : Nat) (w : World) (hN : N < 18446744073709551616) :
    Calls Try.prog 20 #[.int .u64 N] w fun e w' => ∃ A c, e = .returned (.slice A (putL N).length c) ∧ Own w' w.heap.size 5 1 A (putL N).length c ((putL N).map byte) ∧ w.grownBy w' none := by
  obtain ⟨i0, hi0, hz0, hz1, hz2⟩ := info_parts infoB
  have hm := digL_map N
  have hml : (digL N).length = (putL N).length := by rw [← hm]; simp
  have hl10 := putL_len10 N hN
  refine (callsIn_wide (n := 4)).1 ?_
  refine callsIn_of_wp_marks Try.func20 rfl trivial ?_ rfl
  simp only [Try.ntmps20, List.size_toArray, List.length_cons, List.length_nil, Nat.reduceAdd, Nat.reduceSub, Array.replicate_succ, Array.replicate_zero, List.push_toArray, List.append_toArray, List.nil_append, List.cons_append]
  gi_wp2_with fail
  refine ⟨trivial, ?_⟩
  refine (digits_in Fence.wide 3 trivial rfl _ _).mono ?_; rintro e w' ⟨rfl, rfl⟩
  gi_wp2
  have bS := (Boxed.new w 22 (.slice none 0 0)).alloc (.cells #[.int .u64 (N : Int)] 27)
  have bN := Boxed.new (w.alloc (.cells #[.slice none 0 0] 22)) 27 (.int .u64 (N : Int))
  rw [World.size_alloc] at bN
  refine wpIn_range_st rfl (by omega) (gf := 51) (lb := #[.pointer (some ⟨w.heap.size + 1, 0, none⟩)]) rfl trivial (enters_of Try.func51 (by kernel_rfl) rfl)
    (fun x : Fin 128 × Bool => #[.int .u8 (x.1.val : Int), .bool x.2]) (fun _ => rfl) (digL N) (w.heap.size + 1) 27 (PutAt w w.heap.size)
    ?hal ?hput ?hset ?h0 (fun x => { tmps := #[.int .u64 N, undef, .slice none 0 0, .pointer (some ⟨w.heap.size, 0, none⟩), .int .u8 (x.1.val : Int), .bool x.2, .int .u64 N, .func (.func 51) #[] #[.pointer (some ⟨w.heap.size + 1, 0, none⟩)], .int .u8 (x.1.val : Int), .bool x.2, undef, undef, undef, undef, undef, undef, undef, undef, undef], defers := [] })
    ?hassign ?hbody ?hiter ?hdone
  case hal =>
    rintro s W o ⟨A, c, h1, h2, h3, h4⟩
    exact ⟨A, c, h1.alloc o, h2.alloc o, grown_trans h3 (World.grownBy_alloc _ _ _), by simp; omega⟩
  case hput =>
    rintro s W l o o' ⟨A, c, h1, h2, h3, h4⟩ hl ho hc
    refine ⟨A, c, h1.kept (grownBy_putObj' W l o') (fun e => by simp at e hl; omega), h2.putObj_ o' ho hc, grown_new h3 (grownBy_putObj' W l o') (fun g e => by cases e; simp at hl; omega), Nat.le_trans h4 (grownBy_putObj' W l o').size⟩
  case hset =>
    rintro s W v ⟨A, c, h1, h2, h3, h4⟩
    exact ⟨A, c, h1.other (by omega) v, h2.setLow_ (by omega) v, grown_put h3 (by omega) 0 v, by simpa using h4⟩
  case h0 => exact ⟨none, 0, bS, Own.nil_ _ _ _ _ _, grown_trans (World.grownBy_alloc _ _ _) (World.grownBy_alloc _ _ _), by simp⟩
  case hassign =>
    intro l x W K hK
    gi_wp2
    exact hK
  case hbody =>
    rintro l pre ⟨d, last⟩ W ⟨A, c, h1, h2, h3, hsz2⟩ hpl
    rw [hml] at hpl
    have e1 := u8_or128 d
    have hd := d.isLt
    have hc1 := h1.cell
    have hf1 := h1.frozen
    have hsz := h3.size
    have hlt := h1.lt
    have hmapf := Lib.hid (show digB (d, false) = d.val + 128 from rfl)
    have hmapt := Lib.hid (show digB (d, true) = d.val from rfl)
    have hcast : ((d.val + 128 : Nat) : Int) = (d.val : Int) + 128 := by omega
    clear hm hml
    cases last
    · gi_wp2_with (gi_at_builtin; refine wpListIn_append_Own rfl (.tmp 14) (.tmp 16) _ rfl (w.heap.size + 2) 5 i0 _ 1 1 Try.underlying22 hi0 hz0 hz1 hz2 rfl (by omega) A pre.length c _ rfl (h2.alloc _) (some ⟨W.heap.size, 0, none⟩) 1 1 _ ([d.val + 128].map byte) rfl rfl (by (try rw [← hcast]); exact Reads.one_ _ _ _) (byte_one _) (by simp only [maxLen]; omega) (by omega) (by simp; omega) ?_; intro A' c' w1 hown1 hg1 _; have hb1 := (h1.alloc _).kept hg1 (fun e => by have := h2.row_ge _ e.symm; omega); have hc2 := hb1.cell; have hf2 := hb1.frozen; clear hc1 hf1)
      refine ⟨?_, ?_, A', c', ?_, ?_, ?_, ?_⟩
      · exact ((KeepsOthers.alloc W _).trans (KeepsOthers.of_grownBy hg1 fun j o ej hj => (h2.alloc _).cells_row j ej o hj)).trans (KeepsOthers.setCell _ _ _)
      · exact fun v hv => (((hv.alloc _).kept hg1 (fun e => by have := h2.row_ge _ e.symm; omega)).other (by omega) _)
      · rw [List.length_append]; exact hb1.set _
      · rw [List.length_append, List.map_append, List.map_append, List.map_cons, hmapf.out]; exact hown1.setLow_ (by omega) _
      · exact grown_put (grown_new (grown_trans h3 (World.grownBy_alloc _ _ _)) hg1 (fun g e => by have := h2.row_ge _ e; omega)) (Nat.le_refl _) 0 _
      · have := hg1.size
        simp at this ⊢
        omega
    · gi_wp2_with (gi_at_builtin; refine wpListIn_append_Own rfl (.tmp 14) (.tmp 16) _ rfl (w.heap.size + 2) 5 i0 _ 1 1 Try.underlying22 hi0 hz0 hz1 hz2 rfl (by omega) A pre.length c _ rfl (h2.alloc _) (some ⟨W.heap.size, 0, none⟩) 1 1 _ ([d.val].map byte) rfl rfl (by (try rw [← hcast]); exact Reads.one_ _ _ _) (byte_one _) (by simp only [maxLen]; omega) (by omega) (by simp; omega) ?_; intro A' c' w1 hown1 hg1 _; have hb1 := (h1.alloc _).kept hg1 (fun e => by have := h2.row_ge _ e.symm; omega); have hc2 := hb1.cell; have hf2 := hb1.frozen; clear hc1 hf1)
      refine ⟨?_, ?_, A', c', ?_, ?_, ?_, ?_⟩
      · exact ((KeepsOthers.alloc W _).trans (KeepsOthers.of_grownBy hg1 fun j o ej hj => (h2.alloc _).cells_row j ej o hj)).trans (KeepsOthers.setCell _ _ _)
      · exact fun v hv => (((hv.alloc _).kept hg1 (fun e => by have := h2.row_ge _ e.symm; omega)).other (by omega) _)
      · rw [List.length_append]; exact hb1.set _
      · rw [List.length_append, List.map_append, List.map_append, List.map_cons, hmapt.out]; exact hown1.setLow_ (by omega) _
      · exact grown_put (grown_new (grown_trans h3 (World.grownBy_alloc _ _ _)) hg1 (fun g e => by have := h2.row_ge _ e; omega)) (Nat.le_refl _) 0 _
      · have := hg1.size
        simp at this ⊢
        omega
  case hiter =>
    intro l J W hW hJ hY h0
    exact digits1_in Fence.wide 3 trivial rfl (by omega) l _ N hN J hJ hY W (bN.kept (below_grown hW) (by simp)) h0
  case hdone =>
    rintro D W hD ⟨A, c, h1, h2, h3, _⟩ hK
    rw [hm, hml] at h2
    rw [hml] at h1
    have hc1 := h1.cell
    gi_wp2
    refine ⟨by simp, .inl ⟨_, _, rfl, run_takeDeferred hK, ?_⟩⟩
    refine ⟨_, results_tmp rfl _ _ _, A, c, rfl, (h2.putObj_ _ hK rfl).base_ (by omega), grown_new h3 (grownBy_putObj' _ D _) (fun g e => by cases e; simp at hD; omega)⟩
end Go.Proofs.Ythijicpfihpkfaa
