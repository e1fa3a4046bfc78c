/- A ring that nobody made; the walk of RingNil. -/
import Derived.Test.YtkailfigoogfeaaNd
import Derived.Deep.RegionWith
import Derived.BigQuiet
import Derived.Deep.QuietTactic
namespace Go.Proofs.Ytkailfigoogfeaa
open Go Go.RowKit
def GreatPost (n : Nat) (w : World) (e : Ending) (w' : World) : Prop := ∃ b : Bool, e = .returned (.bool b) ∧ (b = false → n ≤ 400) ∧ w.grownBy w' none
set_option maxHeartbeats 1000000 in
/-- Great: whatever it says, where it says no there are at most 400 nodes. -/
theorem great_any (A : Option Addr) (n c : Nat) (L : List (List Value)) (x : Int) (w : World) (hL : ∀ y ∈ L, OkAll nodeLs y) (hl : L.length = n) (hr : Reads w w.heap.size A L.flatten) (hn : n ≤ 9223372036854775807) :
    Calls Try.prog 8 #[.agg #[.slice A n c, .int .i64 x]] w (GreatPost n w) := by
  have hg0 := World.grownBy_alloc w (.cells #[.slice A n c, .int .i64 x] 24) none
  have HC := Lib.hid (fun k (hk : k < n) W (hg : w.grownBy W none) => nodes_cell hL (hr.grown0 hg) (i := k) (by omega))
  have hg0' := Lib.hid hg0
  clear hL hr hl hg0
  go_enter Try.func8, Try.ntmps8
  go_wp2_with fail
  go_loop [3, 4] (fun v i => ∃ (k : Nat) (t : Int), k ≤ n ∧ k ≤ 400 ∧ i = .int .i64 k ∧ v = .int .i64 t ∧ -9223372036854775808 ≤ t ∧ t ≤ 9223372036854775807) (fun _ i => n - (intOf i).toNat)
  case atStart => exact ⟨0, 0, by omega, by omega, rfl, rfl, by omega, by omega⟩
  case round =>
    obtain ⟨k, t, hk, hk4, rfl, rfl, ht1, ht2⟩ := hrel
    by_cases hlt : k < n
    · obtain ⟨ad, y, rfl, _, hy, hok, hcl⟩ := HC.out k hlt _ hg0'.out
      obtain ⟨s, hs, hsz⟩ := node_text hok
      have hc := hcl 50 (by omega)
      rw [hs, add_pos _ _ (by omega)] at hc
      have h50 : (50 : Nat) = 50 := rfl
      clear hcl hy hok hs h50
      by_cases h400 : k = 400
      · have h4' : decide ((400 : Int) ≤ (k : Int)) = true := by simp; omega
        clear h400
        go_wp2_with fail
        all_goals
          go_ret
          exact ⟨true, rfl, fun h => (by cases h), hg0'.out⟩
      · have h4 : k < 400 := by omega
        have h4' : decide ((400 : Int) ≤ (k : Int)) = false := by simp; omega
        clear h400
        have hwb : -9223372036854775808 ≤ wrap64 (t + (s.size : Int)) ∧ wrap64 (t + (s.size : Int)) ≤ 9223372036854775807 := by unfold wrap64; omega
        have hwb' := Lib.hid hwb
        clear hwb
        go_wp2_with fail
        all_goals first
          | (go_ret; exact ⟨true, rfl, fun h => (by cases h), hg0'.out⟩)
          | (go_round; (case rel => exact ⟨k + 1, _, by omega, by omega, by go_num, rfl, hwb'.out.1, hwb'.out.2⟩); (case measure => simp [intOf]; omega))
    · go_wp2_with fail
      go_ret
      exact ⟨false, rfl, fun _ => by omega, hg0'.out⟩
/-- A ring that nobody made: nil, or one of which nothing is set. -/
def NoRing (w : World) (P : Option Addr) : Prop := P = none ∨ ∃ g, P = some ⟨g, 0, none⟩ ∧ w.heap[g]? = some (.cells #[.slice none 0 0, .int .i64 0, .slice none 0 0, .int .i64 0, .slice none 0 0, .int .i64 0, .slice none 0 0, .int .i64 0, .int .i64 0] 29 (0, 0))
theorem NoRing.grown0 {w w' : World} {P : Option Addr} (h : NoRing w P) (hg : w.grownBy w' none) : NoRing w' P := by
  rcases h with h | ⟨g, h1, h2⟩
  · exact .inl h
  · exact .inr ⟨g, h1, by rw [hg.block g (Array.getElem?_eq_some_iff.1 h2).1 (by simp)]; exact h2⟩
theorem last_no (w : World) (P : Option Addr) (h : NoRing w P) :
    Calls Try.prog 13 #[.pointer P] w fun e w' => e = .returned (.int .i64 0) ∧ w = w' := by
  rcases h with rfl | ⟨g, rfl, hg⟩
  · go_enter Try.func13, Try.ntmps13
    go_wp2
    go_ret
    exact ⟨rfl, rfl⟩
  · have hc : w.cell? ⟨g, 8, none⟩ = some (.int .i64 0) := by rw [cell_of_row w g 8 _ _ _ hg]; rfl
    go_enter Try.func13, Try.ntmps13
    go_wp2
    go_ret
    exact ⟨rfl, rfl⟩
theorem first_no (w : World) (P : Option Addr) (h : NoRing w P) :
    Calls Try.prog 12 #[.pointer P] w fun e w' => e = .returned (.int .i64 0) ∧ w = w' := by
  have C := Lib.hid (last_no w P h)
  clear h
  go_enter Try.func12, Try.ntmps12
  go_wp2_with fail
  refine C.out.mono ?_; rintro e w1 ⟨rfl, rfl⟩
  go_wp2
  go_ret
  exact ⟨rfl, rfl⟩
theorem push_no (w : World) (P : Option Addr) (v : Value) (x : Int) (h : NoRing w P) :
    Calls Try.prog 9 #[.pointer P, .agg #[v, .int .i64 x]] w fun e w' => e = .returned (.tuple #[.int .i64 0, .int .i64 1]) ∧ w.grownBy w' none := by
  have C := Lib.hid (fun W (hg : w.grownBy W none) => last_no W P (h.grown0 hg))
  clear h
  go_enter Try.func9, Try.ntmps9
  go_wp2_with fail
  refine (C.out _ (World.grownBy_alloc _ _ _)).mono ?_; rintro e w1 ⟨rfl, rfl⟩
  go_wp2
  go_ret2
  exact ⟨rfl, World.grownBy_alloc _ _ _⟩
theorem get_no (w : World) (P : Option Addr) (v : Int) (h : NoRing w P) :
    Calls Try.prog 10 #[.pointer P, .int .i64 v] w fun e w' => e = .returned (.tuple #[.agg #[.slice none 0 0, .int .i64 0], .int .i64 1]) ∧ w.grownBy w' none := by
  have C := Lib.hid (fun W (hg : w.grownBy W none) => last_no W P (h.grown0 hg))
  clear h
  go_enter Try.func10, Try.ntmps10
  go_wp2_with fail
  refine (C.out _ (World.grownBy_alloc _ _ _)).mono ?_; rintro e w1 ⟨rfl, rfl⟩
  go_wp2
  exact bodyPost_ret (v := .tuple #[.agg #[.slice none 0 0, .int .i64 0], .int .i64 1]) (by simp [results, Try.results10, go_sem]) rfl ⟨rfl, World.grownBy_alloc _ _ _⟩
/-- Two documents of nothing are the same. -/
theorem same_nothing (w : World) : Calls Try.prog 11 #[.agg #[.slice none 0 0, .int .i64 0], .agg #[.slice none 0 0, .int .i64 0]] w fun e w' => e = .returned (.bool true) ∧ w.grownBy w' none := by
  go_enter Try.func11, Try.ntmps11
  go_wp2_with fail
  refine wp_loop_rounds 1 ?_
  rw [rounds_succ]
  go_wp2
  go_ret
  exact ⟨rfl, grown_trans (World.grownBy_alloc _ _ _) (World.grownBy_alloc _ _ _)⟩
theorem noring_made (w : World) : ∃ W, (w.alloc (.cells #[.slice none 0 0, .int .i64 0, .slice none 0 0, .int .i64 0, .slice none 0 0, .int .i64 0, .slice none 0 0, .int .i64 0, .int .i64 0] 29)).alloc (.cells #[.pointer none, .pointer (some ⟨w.heap.size, 0, none⟩)] 26) = W ∧ w.grownBy W none ∧
    (∀ t, t < 2 → ∃ P, NoRing W P ∧ ∀ V, W.grownBy V none → V.cell? ⟨w.heap.size + 1, t, none⟩ = some (.pointer P)) := by
  refine ⟨_, rfl, grown_trans (World.grownBy_alloc _ _ _) (World.grownBy_alloc _ _ _), ?_⟩
  have hN : NoRing ((w.alloc (.cells #[.slice none 0 0, .int .i64 0, .slice none 0 0, .int .i64 0, .slice none 0 0, .int .i64 0, .slice none 0 0, .int .i64 0, .int .i64 0] 29)).alloc (.cells #[.pointer none, .pointer (some ⟨w.heap.size, 0, none⟩)] 26)) (some ⟨w.heap.size, 0, none⟩) :=
    NoRing.grown0 (.inr ⟨_, rfl, heap_alloc_new w _⟩) (World.grownBy_alloc _ _ _)
  have hA : ((w.alloc (.cells #[.slice none 0 0, .int .i64 0, .slice none 0 0, .int .i64 0, .slice none 0 0, .int .i64 0, .slice none 0 0, .int .i64 0, .int .i64 0] 29)).alloc (.cells #[.pointer none, .pointer (some ⟨w.heap.size, 0, none⟩)] 26)).heap[w.heap.size + 1]? = some (.cells #[.pointer none, .pointer (some ⟨w.heap.size, 0, none⟩)] 26 (0, 0)) := by
    have := heap_alloc_new (w.alloc (.cells #[.slice none 0 0, .int .i64 0, .slice none 0 0, .int .i64 0, .slice none 0 0, .int .i64 0, .slice none 0 0, .int .i64 0, .int .i64 0] 29)) (.cells #[.pointer none, .pointer (some ⟨w.heap.size, 0, none⟩)] 26)
    rwa [World.size_alloc] at this
  generalize ((w.alloc (.cells #[.slice none 0 0, .int .i64 0, .slice none 0 0, .int .i64 0, .slice none 0 0, .int .i64 0, .slice none 0 0, .int .i64 0, .int .i64 0] 29)).alloc (.cells #[.pointer none, .pointer (some ⟨w.heap.size, 0, none⟩)] 26)) = W at *
  intro t ht
  have hV : ∀ V, W.grownBy V none → V.heap[w.heap.size + 1]? = some (.cells #[.pointer none, .pointer (some ⟨w.heap.size, 0, none⟩)] 26 (0, 0)) := fun V hg => by
    rw [hg.block _ (Array.getElem?_eq_some_iff.1 hA).1 (by simp)]; exact hA
  rcases (by omega : t = 0 ∨ t = 1) with rfl | rfl
  · exact ⟨none, .inl rfl, fun V hg => by rw [cell_of_row V _ 0 _ _ _ (hV V hg)]; rfl⟩
  · exact ⟨_, hN, fun V hg => by rw [cell_of_row V _ 1 _ _ _ (hV V hg)]; rfl⟩
/-- A document in a box. -/
theorem Boxed2 (w : World) (A : Option Addr) (n c : Nat) (x : Int) : Hid (∀ W1, (w.alloc (.cells #[.slice A n c, .int .i64 x] 24)).grownBy W1 none → ∀ V, W1.grownBy V none → V.cell? ⟨w.heap.size, 0, none⟩ = some (.slice A n c) ∧ V.cell? ⟨w.heap.size, 1, none⟩ = some (.int .i64 x)) := fun W1 h1 V h2 => by
  have hV : V.heap[w.heap.size]? = some (.cells #[.slice A n c, .int .i64 x] 24 (0, 0)) := by
    rw [(grown_trans h1 h2).block _ (by simp) (by simp)]
    exact heap_alloc_new w _
  exact ⟨by rw [cell_of_row V _ 0 _ _ _ hV]; rfl, by rw [cell_of_row V _ 1 _ _ _ hV]; rfl⟩
set_option maxRecDepth 100000 in
set_option maxHeartbeats 2000000 in
theorem RingNil_walk (w : World) (A : Option Addr) (n c : Nat) (L : List (List Value)) (x : Int) (_wx : (Lit.int .i64 x).wf = true) (R : IsNodes w A n c L) (v : Int) (wv : (Lit.int .i64 v).wf = true) :
    Calls Try.prog 3 #[.agg #[.slice A n c, .int .i64 x], .int .i64 v] w fun e w' => e = .returned (.bool true) ∧ Below w.heap.size w w' := by
  have hlen := R.len_
  obtain ⟨hL1, hL2, _⟩ := R.size_
  have CG := Lib.hid (fun W (hg : w.grownBy W none) => great_any A n c L x W hL2 hL1 ((R.2.2.2.2.grown0 hg).more hg.size) (by omega))
  have hgB := World.grownBy_alloc w (.cells #[.slice A n c, .int .i64 x] 24) none
  have bD := Boxed2 w A n c x
  clear R hL1 hL2 wv hlen
  go_enter Try.func3, Try.ntmps3
  go_wp2_with fail
  refine (CG.out _ hgB).mono ?_; rintro e w1 ⟨b, rfl, _, hg1⟩
  have hgA := grown_trans hgB hg1
  have hD := bD.out w1 hg1
  clear hgB hg1 bD CG
  cases b with
  | true =>
    go_wp2_with fail
    go_ret
    exact ⟨rfl, grown_below hgA⟩
  | false =>
    obtain ⟨W, hW, hgW, HC0⟩ := noring_made w1
    have HC := Lib.hid HC0
    have hD' := Lib.hid (fun V (hg : W.grownBy V none) => hD V (grown_trans hgW hg))
    have hW' := Lib.hid hW
    clear hW HC0 hD
    go_wp2_with fail
    rw [hW'.out]
    go_loopw [7, 8, 9, 10, 11] (fun u _ _ _ _ wr => ∃ t : Nat, t ≤ 2 ∧ u = .int .i64 t ∧ W.grownBy wr none) (fun u _ _ _ _ _ => 2 - (intOf u).toNat)
    case atStart => exact ⟨0, by omega, rfl, World.grownBy.refl _ _⟩
    case round =>
      obtain ⟨t, ht, rfl, hg⟩ := hrel
      by_cases hlt : t < 2
      · obtain ⟨P, hP, hcell⟩ := HC.out t hlt
        have hcell' := Lib.hid hcell
        have hP' := Lib.hid hP
        have hgd := grown_drew hg
        have c1 := hcell _ hgd
        obtain ⟨d0, d1⟩ := hD'.out _ hgd
        clear hcell hP
        go_wp2_with fail
        go_region_with (go_at_call 9; refine (push_no _ P _ _ (hP'.out.grown0 hgd)).mono ?_; rintro e w2 ⟨rfl, hg2⟩)
        all_goals
          have hgC := grown_trans hgd hg2
          have c2 := hcell'.out _ hgC
          clear c1 d0 d1 hgd hg hg2
          go_wp2_with fail
          refine (get_no _ P _ (hP'.out.grown0 hgC)).mono ?_; rintro e w3 ⟨rfl, hg3⟩
          have hgD := grown_trans (grown_trans hgC hg3) (World.grownBy_alloc w3 (.cells #[.slice none 0 0, .int .i64 0] 24) none)
          clear c2 hgC hg3
          go_wp2_with fail
          refine (same_nothing _).mono ?_; rintro e w4 ⟨rfl, hg4⟩
          have hgE := grown_trans hgD hg4
          have c3 := hcell'.out _ hgE
          clear hgD hg4
          go_wp2_with fail
          refine (first_no _ P (hP'.out.grown0 hgE)).mono ?_; rintro e w5 ⟨rfl, rfl⟩
          go_wp2_with fail
          refine (last_no _ P (hP'.out.grown0 hgE)).mono ?_; rintro e w5 ⟨rfl, rfl⟩
          go_wp2_with fail
          go_roundw
          case rel => exact ⟨t + 1, by omega, by go_num, hgE⟩
          case measure => simp [intOf]; omega
      · go_wp2_with fail
        go_ret
        exact ⟨rfl, grown_below (grown_trans hgA (grown_trans hgW hg))⟩
end Go.Proofs.Ytkailfigoogfeaa
