/- Whether a number is a place; the place of a key. -/
import Derived.Test.YtjnbfgogmhfbiaaTs
namespace Go.Proofs.Ytjnbfgogmhfbiaa
open Go Go.RowKit
/-- A document's nodes, as they lie. -/
structure NodesAt (w : World) (B : Nat) (A : Option Addr) (n : Nat) (L : List (List Value)) : Prop where
  ok : ∀ y ∈ L, OkAll nodeLs y
  len : L.length = n
  reads : Reads w B A L.flatten
  few : n ≤ 1000
theorem NodesAt.grown0 {w w' : World} {B : Nat} {A : Option Addr} {n : Nat} {L : List (List Value)} (h : NodesAt w B A n L) (hg : w.grownBy w' none) : NodesAt w' B A n L := ⟨h.ok, h.len, h.reads.grown0 hg, h.few⟩
theorem NodesAt.nd_ok {w : World} {B : Nat} {A : Option Addr} {n i : Nat} {L : List (List Value)} (h : NodesAt w B A n L) (hi : i < n) : OkAll nodeLs (nd L i) := h.ok _ (List.mem_of_getElem? (nd_get (by rw [h.len]; exact hi)))
/-- A node in memory: its cells, all of it. -/
theorem NodesAt.at_ {w : World} {B : Nat} {A : Option Addr} {n i : Nat} {L : List (List Value)} (h : NodesAt w B A n L) (hi : i < n) :
    ∃ ad, A = some ad ∧ ad.block < B ∧ (∀ k, k < 51 → w.cell? ((ad.add (i * 51)).add k) = (nd L i)[k]?) := by
  obtain ⟨ad, x, e1, e2, e3, _, e4⟩ := nodes_cell h.ok h.reads (i := i) (by rw [h.len]; exact hi)
  rw [nd_some e3]
  exact ⟨ad, e1, e2, e4⟩
theorem NodesAt.load {w : World} {B : Nat} {n i : Nat} {L : List (List Value)} {ad : Addr} (h : NodesAt w B (some ad) n L) (hi : i < n) :
    (Instr.loadAt 32 (.pointer (some (ad.add (i * 51))))).run Try.prog w = .ok (.agg (nd L i).toArray) w := by
  obtain ⟨ad', e, _, hc⟩ := h.at_ hi
  cases e
  exact run_loadNode w _ _ (h.nd_ok hi).len hc
theorem NodesAt.some_ {w : World} {B : Nat} {A : Option Addr} {n i : Nat} {L : List (List Value)} (h : NodesAt w B A n L) (hi : i < n) : ∃ ad, A = some ad ∧ ad.block < B := by
  obtain ⟨ad, e1, e2, _⟩ := h.at_ hi
  exact ⟨ad, e1, e2⟩
theorem is_any (A : Option Addr) (n c : Nat) (x t : Int) (w : World) (hn : n ≤ 1000) :
    Calls Try.prog 60 #[.agg #[.slice A n c, .int .i64 x], .int .i64 t] w fun e w' => e = .returned (.bool (decide (0 ≤ t ∧ t < n))) ∧ w.grownBy w' none := by
  have hg := World.grownBy_alloc w (.cells #[.slice A n c, .int .i64 x] 24) none
  have b1 := Two.new w 24 (.slice A n c) (.int .i64 x)
  have c0 := b1.c0
  clear b1
  have hv := Lib.hid (show decide (0 ≤ t ∧ t < n) = decide (0 ≤ t ∧ t < n) from rfl)
  rcases (by omega : t < 0 ∨ (0 ≤ t ∧ t < n) ∨ (0 ≤ t ∧ (n : Int) ≤ t)) with h | h | h
  · have d0 : decide (0 ≤ t) = false := by simp; omega
    have hb : decide (0 ≤ t ∧ t < n) = false := by simp; omega
    rw [hb]
    clear h hb
    go_enter Try.func60, Try.ntmps60
    go_wp2_with fail
    go_ret
    exact ⟨rfl, hg⟩
  · have d0 : decide (0 ≤ t) = true := by simp; omega
    have d1 : decide (t < (n : Int)) = true := by simp; omega
    have hb : decide (0 ≤ t ∧ t < n) = true := by simp; omega
    rw [hb]
    clear h hb
    go_enter Try.func60, Try.ntmps60
    go_wp2_with fail
    go_ret
    exact ⟨rfl, hg⟩
  · have d0 : decide (0 ≤ t) = true := by simp; omega
    have d1 : decide (t < (n : Int)) = false := by simp; omega
    have hb : decide (0 ≤ t ∧ t < n) = false := by simp; omega
    rw [hb]
    clear h hb
    go_enter Try.func60, Try.ntmps60
    go_wp2_with fail
    go_ret
    exact ⟨rfl, hg⟩
theorem key_any (x : List Value) (b : Nat) (key : Int) (w : World) (hx : OkAll nodeLs x) (hb : w.cell? ⟨b, 0, none⟩ = some (.int .i64 key)) :
    Calls Try.prog 59 #[.agg x.toArray, .pointer (some ⟨b, 0, none⟩)] w fun e w' => e = .returned (.bool (keyN x == key)) ∧ w.grownBy w' none := by
  have hg := World.grownBy_alloc w (.cells x.toArray 32) none
  obtain ⟨q0, _⟩ := row_node (Row.new w 32 x.toArray) hx
  have hb' := hg.cell hb (by simp)
  clear hx hb
  generalize keyN x = k at *
  generalize x.toArray = xa at *
  go_enter Try.func59, Try.ntmps59
  go_wp2_with fail
  go_ret
  exact ⟨rfl, hg⟩
def findI (L : List (List Value)) (key : Int) : Int := match L.findIdx? (fun x => keyN x == key) with
  | none => -1
  | some j => j
theorem findI_at {L : List (List Value)} {key : Int} {k : Nat} (hk : k < L.length) (h : ∀ j, j < k → (keyN (nd L j) == key) = false) (h2 : (keyN (nd L k) == key) = true) : findI L key = k := by
  have : L.findIdx? (fun x => keyN x == key) = some k := by
    rw [List.findIdx?_eq_some_iff_getElem]
    have e := nd_get hk
    rw [List.getElem?_eq_getElem hk] at e
    refine ⟨hk, by rw [Option.some.inj e]; exact h2, fun j hj => ?_⟩
    have e2 := nd_get (show j < L.length by omega)
    rw [List.getElem?_eq_getElem (by omega)] at e2
    rw [Option.some.inj e2, h j hj]
    simp
  unfold findI
  rw [this]
theorem findI_no {L : List (List Value)} {key : Int} (h : ∀ j, j < L.length → (keyN (nd L j) == key) = false) : findI L key = -1 := by
  have : L.findIdx? (fun x => keyN x == key) = none := by
    rw [List.findIdx?_eq_none_iff]
    intro x hx
    obtain ⟨j, hj, rfl⟩ := List.getElem_of_mem hx
    have e2 := nd_get hj
    rw [List.getElem?_eq_getElem hj] at e2
    rw [Option.some.inj e2]
    exact h j hj
  unfold findI
  rw [this]
set_option maxRecDepth 100000 in
theorem idxf_any (A : Option Addr) (n c : Nat) (L : List (List Value)) (key : Int) (b : Nat) (w : World) (B : Nat) (h : NodesAt w B A n L) (hb : w.cell? ⟨b, 0, none⟩ = some (.int .i64 key)) :
    Calls Try.prog 58 #[.slice A n c, .func (.func 59) #[] #[.pointer (some ⟨b, 0, none⟩)]] w fun e w' => e = .returned (.int .i64 (findI L key)) ∧ w.grownBy w' none := by
  have hl := h.len
  have hn := h.few
  have hh := Lib.hid h
  have hbh := Lib.hid hb
  clear h hb
  go_enter Try.func58, Try.ntmps58
  go_wp2
  go_loopw [5, 8] (fun _ v wr => ∃ k : Nat, k ≤ n ∧ v = .int .i64 k ∧ (∀ j, j < k → (keyN (nd L j) == key) = false) ∧ w.grownBy wr none) (fun _ v _ => n - (intOf v).toNat)
  case atStart => exact ⟨0, Nat.zero_le _, rfl, fun j hj => absurd hj (by omega), World.grownBy.refl _ _⟩
  case round =>
    obtain ⟨k, hk, rfl, heq, hg⟩ := hrel
    have heq' := Lib.hid heq; clear heq
    have hg' := Lib.hid hg; clear hg
    by_cases hlt : k < n
    · obtain ⟨ad, rfl, _⟩ := hh.out.some_ hlt
      have hld := Lib.hid ((hh.out.grown0 hg'.out).load hlt)
      have C := Lib.hid (key_any (nd L k) b key wr (hh.out.nd_ok hlt) (hg'.out.cell hbh.out (by simp)))
      cases hq : (keyN (nd L k) == key) with
      | true =>
        have hv := Lib.hid (show findI L key = k from findI_at (by omega) heq'.out hq)
        rw [hq] at C
        clear hq
        generalize nd L k = y at *
        go_wp2_with (first
          | (refine wpList_value_w rfl (exec_load rfl rfl hld.out) ?_; simp only [Act.put, List.setIfInBounds_toArray, List.set_cons_zero, List.set_cons_succ])
          | (go_at_call 59; refine C.out.mono ?_; rintro e w' ⟨rfl, hg2⟩))
        go_ret
        exact ⟨by rw [hv.out]; rfl, grown_trans hg'.out hg2⟩
      | false =>
        have hq' := Lib.hid hq
        rw [hq] at C
        clear hq
        generalize hnk0 : nd L k = y at *
        have hnk := Lib.hid hnk0
        clear hnk0
        go_wp2_with (first
          | (refine wpList_value_w rfl (exec_load rfl rfl hld.out) ?_; simp only [Act.put, List.setIfInBounds_toArray, List.set_cons_zero, List.set_cons_succ])
          | (go_at_call 59; refine C.out.mono ?_; rintro e w' ⟨rfl, hg2⟩))
        go_roundw
        case rel => exact ⟨k + 1, by omega, by go_num, fun j hj => by
            rcases Nat.lt_or_ge j k with h | h
            · exact heq'.out j h
            · obtain rfl : j = k := by omega
              rw [hnk.out]
              exact hq'.out, grown_trans hg'.out hg2⟩
        case measure => simp [intOf]; omega
    · have hv := Lib.hid (show findI L key = -1 from findI_no (by intro j hj; exact heq'.out j (by omega)))
      go_wp2
      go_ret
      exact ⟨by rw [hv.out]; rfl, hg'.out⟩
theorem find_any (A : Option Addr) (n c : Nat) (L : List (List Value)) (x key : Int) (w : World) (B : Nat) (h : NodesAt w B A n L) :
    Calls Try.prog 41 #[.agg #[.slice A n c, .int .i64 x], .int .i64 key] w fun e w' => e = .returned (.int .i64 (findI L key)) ∧ w.grownBy w' none := by
  have hgA := grown_trans (World.grownBy_alloc w (.cells #[.slice A n c, .int .i64 x] 24) none) (World.grownBy_alloc _ (.cells #[.int .i64 key] 3) none)
  have b1 := (Two.new w 24 (.slice A n c) (.int .i64 x)).kept (World.grownBy_alloc _ (.cells #[.int .i64 key] 3) none) (by simp)
  have c0 := b1.c0
  have b2 := Row.new (w.alloc (.cells #[.slice A n c, .int .i64 x] 24)) 3 #[.int .i64 key]
  rw [World.size_alloc] at b2
  have hb : ((w.alloc (.cells #[.slice A n c, .int .i64 x] 24)).alloc (.cells #[.int .i64 key] 3)).cell? ⟨w.heap.size + 1, 0, none⟩ = some (.int .i64 key) := b2.at 0
  have C := Lib.hid (idxf_any A n c L key (w.heap.size + 1) _ B (h.grown0 hgA) hb)
  clear h b1 b2
  go_enter Try.func41, Try.ntmps41
  go_wp2_with fail
  refine C.out.mono ?_; rintro e w1 ⟨rfl, hg1⟩
  go_wp2_with fail
  go_ret
  exact ⟨rfl, grown_trans hgA hg1⟩
end Go.Proofs.Ytjnbfgogmhfbiaa
