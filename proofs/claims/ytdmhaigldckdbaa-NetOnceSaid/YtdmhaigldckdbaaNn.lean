/- A net that nobody made; the walk of NetNil. -/
import Derived.Test.YtdmhaigldckdbaaRows
import Derived.Test.YtdmhaigldckdbaaMem
import Derived.WalkSpells
namespace Go.Proofs.Ytdmhaigldckdbaa
open Go Go.RowKit
/-- A net that nobody made: nil, or one of which nothing is set. -/
def NoNet (w : World) (P : Option Addr) : Prop := P = none ∨ ∃ g, P = some ⟨g, 0, none⟩ ∧ w.heap[g]? = some (.cells #[.bool false, .slice none 0 0] 45 (0, 0))
theorem NoNet.grown0 {w w' : World} {P : Option Addr} (h : NoNet w P) (hg : w.grownBy w' none) : NoNet w' P := by
  rcases h with h | ⟨g, h1, h2⟩
  · exact .inl h
  · exact .inr ⟨g, h1, by rw [hg.block g (Array.getElem?_eq_some_iff.1 h2).1 (by simp)]; exact h2⟩
theorem none_no (w : World) (P : Option Addr) (h : NoNet w P) :
    Calls Try.prog 26 #[.pointer P] w fun e w' => e = .returned (.bool true) ∧ w = w' := by
  rcases h with rfl | ⟨g, rfl, hg⟩
  · go_enter Try.func26, Try.ntmps26
    go_wp2
    go_ret
    exact ⟨rfl, rfl⟩
  · have hc : w.cell? ⟨g, 0, none⟩ = some (.bool false) := by rw [cell_of_row w g 0 _ _ _ hg]; rfl
    go_enter Try.func26, Try.ntmps26
    go_wp2
    go_ret
    exact ⟨rfl, rfl⟩
theorem pick_no (w : World) (P : Option Addr) (k : Int) (h : NoNet w P) :
    Calls Try.prog 28 #[.pointer P, .int .i64 k] w fun e w' => e = .returned (.tuple #[.int .i64 0, .int .i64 1]) ∧ w = w' := by
  have C := Lib.hid (none_no w P h)
  clear h
  go_enter Try.func28, Try.ntmps28
  go_wp2_with fail
  refine C.out.mono ?_; rintro e w1 ⟨rfl, rfl⟩
  go_wp2
  go_ret2
  exact ⟨rfl, rfl⟩
theorem take_no (w : World) (P : Option Addr) (k : Int) (h : NoNet w P) :
    Calls Try.prog 12 #[.pointer P, .int .i64 k] w fun e w' => e = .returned (.tuple #[.agg #[.int .i64 0, .slice none 0 0], .int .i64 1]) ∧ w.grownBy w' none := by
  have C := Lib.hid (fun W (hg : w.grownBy W none) => pick_no W P k (h.grown0 hg))
  clear h
  go_enter Try.func12, Try.ntmps12
  go_wp2_with fail
  refine (C.out _ (World.grownBy_alloc _ _ _)).mono ?_; rintro e w1 ⟨rfl, rfl⟩
  go_wp2
  exact bodyPost_ret (v := .tuple #[.agg #[.int .i64 0, .slice none 0 0], .int .i64 1]) (by simp [results, Try.results12, go_sem]) rfl ⟨rfl, World.grownBy_alloc _ _ _⟩
theorem send_no (w : World) (P : Option Addr) (t : Int) (v : Value) (h : NoNet w P) :
    Calls Try.prog 14 #[.pointer P, .agg #[.int .i64 t, v]] w fun e w' => e = .returned (.int .i64 1) ∧ w.grownBy w' none := by
  have C := Lib.hid (fun W (hg : w.grownBy W none) => none_no W P (h.grown0 hg))
  clear h
  go_enter Try.func14, Try.ntmps14
  go_wp2_with fail
  refine (C.out _ (World.grownBy_alloc _ _ _)).mono ?_; rintro e w1 ⟨rfl, rfl⟩
  go_wp2
  go_ret
  exact ⟨rfl, World.grownBy_alloc _ _ _⟩
theorem copy_no (w : World) (P : Option Addr) (k : Int) (h : NoNet w P) :
    Calls Try.prog 13 #[.pointer P, .int .i64 k] w fun e w' => e = .returned (.int .i64 1) ∧ w = w' := by
  have C := Lib.hid (pick_no w P k h)
  clear h
  go_enter Try.func13, Try.ntmps13
  go_wp2_with fail
  refine C.out.mono ?_; rintro e w1 ⟨rfl, rfl⟩
  go_wp2
  go_ret
  exact ⟨rfl, rfl⟩
theorem spoil_no (w : World) (P : Option Addr) (k bit : Int) (h : NoNet w P) :
    Calls Try.prog 16 #[.pointer P, .int .i64 k, .int .i64 bit] w fun e w' => e = .returned (.int .i64 1) ∧ w = w' := by
  have C := Lib.hid (pick_no w P k h)
  clear h
  go_enter Try.func16, Try.ntmps16
  go_wp2_with fail
  refine C.out.mono ?_; rintro e w1 ⟨rfl, rfl⟩
  go_wp2
  go_ret
  exact ⟨rfl, rfl⟩
theorem all_no (w : World) (P : Option Addr) (h : NoNet w P) :
    Calls Try.prog 11 #[.pointer P] w fun e w' => e = .returned (.slice none 0 0) ∧ w = w' := by
  have C := Lib.hid (none_no w P h)
  clear h
  go_enter Try.func11, Try.ntmps11
  go_wp2_with fail
  refine C.out.mono ?_; rintro e w1 ⟨rfl, rfl⟩
  go_wp2
  go_ret
  exact ⟨rfl, rfl⟩
set_option maxRecDepth 100000 in
set_option maxHeartbeats 2000000 in
theorem NetNil_walk (k bit : Int) (a2 : Option Addr) (len2 cap2 : Nat) (z2 : List Int) (w : World) (wk : (Lit.int .i64 k).wf = true) (wb : (Lit.int .i64 bit).wf = true) (w2 : IsRow .u8 w a2 len2 cap2 z2) :
    Calls Try.prog 5 #[.int .i64 k, .int .i64 bit, .slice a2 len2 cap2] w fun e w' => e = .returned (.bool true) ∧ Below w.heap.size w w' := by
  clear wk wb w2
  by_cases h0 : 300 < len2
  · go_enter Try.func5, Try.ntmps5
    go_wp2
    go_ret
    exact ⟨rfl, Below.refl _ _⟩
  have HW : ∃ W, (w.alloc (.cells #[.bool false, .slice none 0 0] 45)).alloc (.cells #[.pointer none, .pointer (some ⟨w.heap.size, 0, none⟩)] 25) = W ∧ w.grownBy W none ∧ NoNet W (some ⟨w.heap.size, 0, none⟩) ∧ W.heap[w.heap.size + 1]? = some (.cells #[.pointer none, .pointer (some ⟨w.heap.size, 0, none⟩)] 25 (0, 0)) := by
    refine ⟨_, rfl, grown_trans (World.grownBy_alloc _ _ _) (World.grownBy_alloc _ _ _), ?_, ?_⟩
    · exact NoNet.grown0 (.inr ⟨_, rfl, heap_alloc_new w _⟩) (World.grownBy_alloc _ _ _)
    · have := heap_alloc_new (w.alloc (.cells #[.bool false, .slice none 0 0] 45)) (.cells #[.pointer none, .pointer (some ⟨w.heap.size, 0, none⟩)] 25)
      rwa [World.size_alloc] at this
  obtain ⟨W, hW, hgW, hN, hA⟩ := HW
  have HC : Hid (∀ t, t < 2 → ∃ P, NoNet W P ∧ ∀ V, W.grownBy V none → V.cell? ⟨w.heap.size + 1, t, none⟩ = some (.pointer P)) := fun t ht => by
    have hV : ∀ V, W.grownBy V none → V.heap[w.heap.size + 1]? = some (.cells #[.pointer none, .pointer (some ⟨w.heap.size, 0, none⟩)] 25 (0, 0)) := fun V hg => by
      rw [hg.block _ (Array.getElem?_eq_some_iff.1 hA).1 (by simp)]; exact hA
    rcases (by omega : t = 0 ∨ t = 1) with rfl | rfl
    · exact ⟨none, .inl rfl, fun V hg => by rw [cell_of_row V _ 0 _ _ _ (hV V hg)]; rfl⟩
    · exact ⟨_, hN, fun V hg => by rw [cell_of_row V _ 1 _ _ _ (hV V hg)]; rfl⟩
  have hW' := Lib.hid hW
  clear hW hN hA
  go_enter Try.func5, Try.ntmps5
  go_wp2_with fail
  rw [hW'.out]
  go_loopw [9, 10, 11] (fun v _ _ wr => ∃ t : Nat, t ≤ 2 ∧ v = .int .i64 t ∧ W.grownBy wr none) (fun v _ _ _ => 2 - (intOf v).toNat)
  case atStart => exact ⟨0, by omega, rfl, World.grownBy.refl _ _⟩
  case round =>
    obtain ⟨t, ht, rfl, hg⟩ := hrel
    by_cases hlt : t < 2
    · obtain ⟨P, hP, hcell⟩ := HC.out t hlt
      have hcell' := Lib.hid hcell
      have hP' := Lib.hid hP
      have c1 := hcell wr hg
      clear hcell hP
      go_wp2_with fail
      refine (take_no _ P k (hP'.out.grown0 hg)).mono ?_; rintro e w1 ⟨rfl, hg1⟩
      have hgA := grown_trans (grown_trans hg hg1) (World.grownBy_alloc w1 (.cells #[.int .i64 0, .slice none 0 0] 33) none)
      have c2 := hcell'.out _ hgA
      clear c1 hg hg1
      go_wp2_with fail
      refine (send_no _ P _ _ (hP'.out.grown0 hgA)).mono ?_; rintro e w2 ⟨rfl, hg2⟩
      have hgB := grown_trans hgA hg2
      have c3 := hcell'.out _ hgB
      clear c2 hgA hg2
      go_wp2_with fail
      refine (copy_no _ P _ (hP'.out.grown0 hgB)).mono ?_; rintro e w3 ⟨rfl, rfl⟩
      go_wp2_with fail
      refine (spoil_no _ P _ _ (hP'.out.grown0 hgB)).mono ?_; rintro e w3 ⟨rfl, rfl⟩
      go_wp2_with fail
      refine (all_no _ P (hP'.out.grown0 hgB)).mono ?_; rintro e w3 ⟨rfl, rfl⟩
      go_wp2_with fail
      go_roundw
      case rel => exact ⟨t + 1, by omega, by go_num, hgB⟩
      case measure => simp [intOf]; omega
    · go_wp2_with fail
      go_ret
      exact ⟨rfl, grown_below (grown_trans hgW hg)⟩
end Go.Proofs.Ytdmhaigldckdbaa
