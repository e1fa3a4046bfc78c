/- The law's own functions: four, told, great. -/
import Derived.Test.YtjnbfgogmhfbiaaVq
namespace Go.Proofs.Ytjnbfgogmhfbiaa
open Go Go.RowKit
theorem run_four (w : World) : (Instr.buildSlice 22 4 #[(0, .agg (mkN 1 0).toArray), (1, .agg (mkN 2 1).toArray), (2, .agg (mkN 3 2).toArray), (3, .agg (mkN 4 1).toArray)]).run Try.prog w = .ok (.slice (some ⟨w.heap.size, 0, none⟩) 4 4) (w.alloc (.cells fourL.flatten.toArray 32)) := by
  obtain ⟨i0, hi0, hz0, hz1, hz2⟩ := info_parts infoN
  refine run_buildSlice w 22 32 4 _ fourL.flatten.toArray i0 _ Try.underlying22 hi0 hz0 (by rw [hz1]; omega) (by rw [hz1]; omega) ?_
  rw [hz1]
  have := Great.fill_whole (s := 51) (by omega) [.agg (mkN 1 0).toArray, .agg (mkN 2 1).toArray, .agg (mkN 3 2).toArray, .agg (mkN 4 1).toArray] ((Array.range (4 * 51)).map ((Value.agg zeroNode.toArray).cells[· % (Value.agg zeroNode.toArray).cells.size]!)) (fun v hv => by
    simp only [List.mem_cons, List.not_mem_nil, or_false] at hv
    rcases hv with rfl | rfl | rfl | rfl <;> rfl) (by simp)
  refine this.trans ?_
  congr 2
set_option maxRecDepth 100000 in
set_option maxHeartbeats 2000000 in
theorem four_any (w : World) :
    Calls Try.prog 19 #[] w fun e w' => e = .returned (.agg #[.slice (some ⟨w.heap.size + 1, 0, none⟩) 4 4, .int .i64 5]) ∧ Own w' w.heap.size 32 51 (some ⟨w.heap.size + 1, 0, none⟩) 4 4 fourL.flatten ∧ w.grownBy w' none := by
  have b1 := (Two.new w 24 (.slice (some ⟨w.heap.size + 1, 0, none⟩) 4 4) (.int .i64 5)).kept (World.grownBy_alloc _ (.cells fourL.flatten.toArray 32) none) (by simp)
  have hg := grown_trans (World.grownBy_alloc w (.cells #[.slice (some ⟨w.heap.size + 1, 0, none⟩) 4 4, .int .i64 5] 24) none) (World.grownBy_alloc _ (.cells fourL.flatten.toArray 32) none)
  have hfl : fourL.flatten.length = 4 * 51 := by rw [nodes_len four_ok]; rfl
  have ho : Own ((w.alloc (.cells #[.slice (some ⟨w.heap.size + 1, 0, none⟩) 4 4, .int .i64 5] 24)).alloc (.cells fourL.flatten.toArray 32)) w.heap.size 32 51 (some ⟨w.heap.size + 1, 0, none⟩) 4 4 fourL.flatten := by
    have h2 := heap_alloc_new (w.alloc (.cells #[.slice (some ⟨w.heap.size + 1, 0, none⟩) 4 4, .int .i64 5] 24)) (.cells fourL.flatten.toArray 32)
    rw [World.size_alloc] at h2
    exact ⟨hfl, by omega, by unfold maxLen; omega, .inr ⟨_, _, rfl, by omega, h2, by rw [List.size_toArray, hfl]; exact Nat.le_refl _, by rw [List.take_of_length_le (by show fourL.flatten.length ≤ 4 * 51; rw [hfl]; exact Nat.le_refl _)]⟩⟩
  have c0 := b1.c0
  have c1 := b1.c1
  have ho' := Lib.hid ho
  have hg' := Lib.hid hg
  clear b1 ho hg hfl
  go_enter Try.func19, Try.ntmps19
  go_wp2_with (first
    | (refine wpList_build (o := ⟨some 1, _, _, _, _, _⟩) rfl (T := 32) rfl (mkN 1 0).toArray (by kernel_rfl) ?_; simp only [Act.put, List.setIfInBounds_toArray, List.set_cons_zero, List.set_cons_succ])
    | (refine wpList_build (o := ⟨some 2, _, _, _, _, _⟩) rfl (T := 32) rfl (mkN 2 1).toArray (by kernel_rfl) ?_; simp only [Act.put, List.setIfInBounds_toArray, List.set_cons_zero, List.set_cons_succ])
    | (refine wpList_build (o := ⟨some 3, _, _, _, _, _⟩) rfl (T := 32) rfl (mkN 3 2).toArray (by kernel_rfl) ?_; simp only [Act.put, List.setIfInBounds_toArray, List.set_cons_zero, List.set_cons_succ])
    | (refine wpList_build (o := ⟨some 4, _, _, _, _, _⟩) rfl (T := 32) rfl (mkN 4 1).toArray (by kernel_rfl) ?_; simp only [Act.put, List.setIfInBounds_toArray, List.set_cons_zero, List.set_cons_succ])
    | (refine wpList_value (o := ⟨some 5, _, _, _, _, _⟩) rfl (exec_buildSlice (parts := #[(0, .agg (mkN 1 0).toArray), (1, .agg (mkN 2 1).toArray), (2, .agg (mkN 3 2).toArray), (3, .agg (mkN 4 1).toArray)]) rfl (by kernel_rfl) (run_four _)) ?_; simp only [Act.put, List.setIfInBounds_toArray, List.set_cons_zero, List.set_cons_succ]))
  rw [World.size_alloc]
  generalize (w.alloc (.cells #[.slice (some ⟨w.heap.size + 1, 0, none⟩) 4 4, .int .i64 5] 24)).alloc (.cells fourL.flatten.toArray 32) = W at *
  exact bodyPost_ret (v := .agg #[.slice (some ⟨w.heap.size + 1, 0, none⟩) 4 4, .int .i64 5]) (by simp [results, Try.results19, go_sem, c0, c1]) rfl ⟨rfl, ho'.out, hg'.out⟩
/-- Has a document these keys and depths? -/
def toldB (L : List (List Value)) : List Int → Bool
  | ns => decide (2 * L.length = ns.length) && (List.range L.length).all fun i => decide (ns[2 * i]? = some (keyN (nd L i))) && decide (ns[2 * i + 1]? = some (dp L i))
theorem toldB_spec {L : List (List Value)} {ns : List Int} (h : toldB L ns = true) : 2 * L.length = ns.length ∧ ∀ i, i < L.length → ns[2 * i]? = some (keyN (nd L i)) ∧ ns[2 * i + 1]? = some (dp L i) := by
  simp only [toldB, Bool.and_eq_true, List.all_eq_true, List.mem_range, decide_eq_true_eq] at h
  exact h
set_option maxRecDepth 100000 in
set_option maxHeartbeats 2000000 in
theorem told_yes (A : Option Addr) (n c : Nat) (L : List (List Value)) (x : Int) (S : Option Addr) (m k : Nat) (ns : List Int) (w : World) (hN : NodesAt w w.heap.size A n L) (hS : Reads w w.heap.size S (ns.map fun v => .int .i64 v)) (hm : ns.length = m) (ht : toldB L ns = true) :
    Calls Try.prog 20 #[.agg #[.slice A n c, .int .i64 x], .slice S m k] w fun e w' => e = .returned (.bool true) ∧ w.grownBy w' none := by
  obtain ⟨h1, h2⟩ := toldB_spec ht
  have hn := hN.few
  have hlen := hN.len
  have hg0 := World.grownBy_alloc w (.cells #[.slice A n c, .int .i64 x] 24) none
  have b0 := Row.new w 24 #[.slice A n c, .int .i64 x]
  have c0 : (w.alloc (.cells #[.slice A n c, .int .i64 x] 24)).cell? ⟨w.heap.size, 0, none⟩ = some (.slice A n c) := b0.at 0
  have hmn : m = 2 * n := by omega
  have HN := Lib.hid (fun W (hg : (w.alloc (.cells #[.slice A n c, .int .i64 x] 24)).grownBy W none) => hN.grow (grown_trans hg0 hg))
  have HS := Lib.hid (fun W (hg : (w.alloc (.cells #[.slice A n c, .int .i64 x] 24)).grownBy W none) => hS.grown0 (grown_trans hg0 hg))
  have HB := Lib.hid (fun W (hg : (w.alloc (.cells #[.slice A n c, .int .i64 x] 24)).grownBy W none) => show W.cell? ⟨w.heap.size, 0, none⟩ = some (.slice A n c) from (b0.kept0 hg).at 0)
  have h2' := Lib.hid h2
  have hl' := Lib.hid hlen
  have hg0' := Lib.hid hg0
  have hm' := Lib.hid hm
  subst hmn
  clear hN hS b0 hg0 h1 h2 hlen hm ht
  go_enter Try.func20, Try.ntmps20
  have d0 : ((2 : Int) * (n : Int) != ((2 * n : Nat) : Int)) = false := by simp
  go_wp2_with fail
  generalize w.alloc (.cells #[.slice A n c, .int .i64 x] 24) = W0 at *
  go_loopw [5] (fun i wr => ∃ j : Nat, j ≤ n ∧ i = .int .i64 (j : Int) ∧ W0.grownBy wr none) (fun i _ => n - (intOf i).toNat)
  case atStart => exact ⟨0, by omega, rfl, World.grownBy.refl _ _⟩
  case round =>
    obtain ⟨j, hj, rfl, hgr⟩ := hrel
    clear c0
    have c0 := HB.out _ hgr
    obtain ⟨wo, rfl⟩ : ∃ wo : World, wo = wr := ⟨_, rfl⟩
    by_cases hlt : j < n
    · have hN := HN.out _ hgr
      obtain ⟨ad, rfl, _⟩ := hN.some_ hlt
      have z0 := hN.key_ hlt
      have z1 := hN.dep_ hlt
      obtain ⟨q1, q2⟩ := h2'.out j (by have := hl'.out; omega)
      obtain ⟨sd, hS, _, hc⟩ := HS.out _ hgr (by rw [List.length_map, hm'.out]; omega)
      subst hS
      have s0 := hc (2 * j) (.int .i64 (keyN (nd L j))) (by rw [List.getElem?_map, q1]; rfl)
      have s1 := hc (2 * j + 1) (.int .i64 (dp L j)) (by rw [List.getElem?_map, q2]; rfl)
      rw [add_pos _ _ (by omega)] at s1
      have hw1 : IntKind.i64.wrap ((2 : Int) * (j : Int)) = (2 : Int) * (j : Int) := by rw [IntKind.wrap_i64]; omega
      have hw2 : IntKind.i64.wrap ((2 : Int) * (j : Int) + 1) = (2 : Int) * (j : Int) + 1 := by rw [IntKind.wrap_i64]; omega
      have i1 : (0 : Int) ≤ (j : Int) := by omega
      have i2 : (j : Int) < (n : Int) := by omega
      have i3 : (0 : Int) ≤ (2 : Int) * (j : Int) := by omega
      have i4 : (2 : Int) * (j : Int) < (2 : Int) * (n : Int) := by omega
      have i5 : (0 : Int) ≤ (2 : Int) * (j : Int) + 1 := by omega
      have i6 : (2 : Int) * (j : Int) + 1 < (2 : Int) * (n : Int) := by omega
      have i7 : ((2 : Int) * (j : Int)).toNat = 2 * j := by omega
      have i8 : ((2 : Int) * (j : Int) + 1).toNat = 2 * j + 1 := by omega
      have b1 : (keyN (nd L j) != keyN (nd L j)) = false := by simp
      have b2 : (dp L j != dp L j) = false := by simp
      clear hN hc q1 q2
      go_wp2_with fail
      go_quiet (fail)
      go_wp2_with fail
      exact ⟨⟨j + 1, by omega, by go_num, grown_drewN hgr _⟩, by simp [intOf]; omega⟩
    · go_wp2_with fail
      go_ret
      exact ⟨rfl, grown_trans hg0'.out hgr⟩
theorem great7_any (A : Option Addr) (n k : Nat) (L : List (List Value)) (x : Int) (c : Chg) (w : World) (hN : ∀ y ∈ L, OkAll nodeLs y) (hl : L.length = n) (hr : Reads w w.heap.size A L.flatten) (hn : n ≤ 9223372036854775807) (hc : c.ok) :
    Calls Try.prog 9 #[.agg #[.slice A n k, .int .i64 x], .agg c.cells] w fun e w' => ∃ b : Bool, e = .returned (.bool b) ∧ (b = false → (n ≤ 320 ∧ total L ≤ 5000) ∧ lenN c.y ≤ 5000) ∧ w.grownBy w' none := by
  have hg0 := grown_trans (World.grownBy_alloc w (.cells #[.slice A n k, .int .i64 x] 24) none) (World.grownBy_alloc _ (.cells c.cells 34) none)
  have b0 := (Two.new w 24 (.slice A n k) (.int .i64 x)).kept (World.grownBy_alloc _ (.cells c.cells 34) none) (by simp)
  have r0 := Row.new (w.alloc (.cells #[.slice A n k, .int .i64 x] 24)) 34 c.cells
  rw [World.size_alloc] at r0
  have CG := Lib.hid (great_any A n k L x _ hN hl ((hr.grown0 hg0).more hg0.size) hn)
  have c0 := b0.c0
  have c1 := b0.c1
  obtain ⟨s, hs1, hs2, hs3⟩ := okAll_text hc.y
  have hsm : s.size ≤ 9223372036854775807 := by unfold maxLen at hs3; exact hs3
  have r0' := Lib.hid (fun W (hg : ((w.alloc (.cells #[.slice A n k, .int .i64 x] 24)).alloc (.cells c.cells 34)).grownBy W none) => show W.cell? ⟨w.heap.size + 1, 54, none⟩ = some (.string s) from ((r0.kept0 hg).at 54).trans ((Chg.cy 50).trans hs1))
  have hg0' := Lib.hid hg0
  have hs2' := Lib.hid hs2
  clear hN hl hr hc b0 r0 hg0 hs1 hs2 hs3
  generalize c.cells = cs at *
  go_enter Try.func9, Try.ntmps9
  go_wp2_with fail
  generalize (w.alloc (.cells #[.slice A n k, .int .i64 x] 24)).alloc (.cells cs 34) = W0 at *
  refine CG.out.mono ?_; rintro r w1 ⟨b, rfl, hb, hg1⟩
  clear c0 c1
  have z := r0'.out _ hg1
  have hb' := Lib.hid hb
  clear hb
  cases b with
  | true =>
    go_wp2_with fail
    go_ret
    exact ⟨true, rfl, fun h => (by cases h), grown_trans hg0'.out hg1⟩
  | false =>
    by_cases h5 : (5000 : Int) < (s.size : Int)
    · have d0 : decide ((5000 : Int) < (s.size : Int)) = true := decide_eq_true h5
      clear h5
      go_wp2_with fail
      go_ret
      exact ⟨true, rfl, fun h => (by cases h), grown_trans hg0'.out hg1⟩
    · have d0 : decide ((5000 : Int) < (s.size : Int)) = false := decide_eq_false h5
      have h5' := Lib.hid h5
      clear h5
      go_wp2_with fail
      go_ret
      exact ⟨false, rfl, fun _ => ⟨hb'.out trivial, by have := h5'.out; have := hs2'.out; omega⟩, grown_trans hg0'.out hg1⟩
end Go.Proofs.Ytjnbfgogmhfbiaa
