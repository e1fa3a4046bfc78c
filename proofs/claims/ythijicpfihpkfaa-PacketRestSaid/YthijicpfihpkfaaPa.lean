/- The walk of packet's 'awake'. -/
import Derived.Test.YthijicpfihpkfaaPp
import Derived.Test.YthijicpfihpkfaaF1
import Derived.Test.YthijicpfihpkfaaPs
namespace Go.Proofs.Ythijicpfihpkfaa
open Go Go.RowKit
theorem seal_nil : sealL [] = [0, 141, 239, 2, 210] := by
  unfold sealL
  rw [show ([] : List Nat).length = 0 from rfl, putL_lo (by omega)]
  decide +kernel
theorem sealV_nil : sealV [] = [0, 141, 239, 2, 210] := by
  unfold sealV
  rw [if_pos (by simp), seal_nil]
theorem open_first : openL [0, 141, 239, 2, 210] = some [] := by
  rw [← seal_nil]; exact openL_seal (by simp)
theorem byt_lit (l : List Nat) (h : (l.all fun x => decide (x < 256)) = true) : Byt l := fun x hx => by
  have := List.all_eq_true.1 h x hx
  simpa using this
theorem open_zeros : openL [0, 0, 0, 0, 0] = none := by
  cases h : openL [0, 0, 0, 0, 0] with
  | none => rfl
  | some m =>
    obtain ⟨h1, h2⟩ := openL_some (byt_lit _ (by decide)) h
    have h3 := sealL_len5 h2
    rw [← h1] at h3
    have h4 : m = [] := List.eq_nil_of_length_eq_zero (by have h5 : (5 : Nat) = m.length + 5 := h3; omega)
    subst h4
    rw [seal_nil] at h1
    cases h1
theorem open_lit (A : Option Addr) (n c : Nat) (l : List Nat) (r : Option (List Nat)) (hr' : openL l = r) (w : World) (hl : l.length = n) (hr : Reads w w.heap.size A (l.map byte)) (hb : Byt l) (hn : n ≤ 800000) (hnc : n ≤ c) (hc : c ≤ 9223372036854775807) :
    Calls Try.prog 38 #[.slice A n c] w fun e w' => ∃ A' c', e = .returned (.tuple #[.slice A' (r.getD []).length c', .int .i64 (if r.isSome = true then 0 else 250)]) ∧ Tail w' w.heap.size A' (r.getD []) ∧ w.grownBy w' none := by
  subst hr'
  exact popen_any A n c l w hl hr hb hn hnc hc
theorem flip_lit (l y : List Nat) (bit : Int) (hy : flipB l bit = y) (hb : Byt l) (hn : l.length ≤ 1000) (h1 : -9223372036854775808 ≤ bit) (h2 : bit ≤ 9223372036854775807) (W : World) (e : TypeId) (B m : Nat) (hB : B = W.heap.size) (hm : m = l.length) (cs : Array Value) (hc : cs = (l.map byte).toArray) :
    Calls Try.prog 16 #[.slice (some ⟨B, 0, none⟩) m m, .int .i64 bit] (W.alloc (.cells cs e)) fun e' w' => ∃ A' c', e' = .returned (.slice A' m c') ∧ Own w' (W.alloc (.cells cs e)).heap.size 5 1 A' m c' (y.map byte) ∧ (W.alloc (.cells cs e)).grownBy w' none := by
  subst hB hm hc hy
  exact pflip_any _ _ _ bit l _ _ rfl (Reads.new_ W e l (by omega)) hb (by omega) h1 h2
theorem same_new (A1 : Option Addr) (n1 c1 : Nat) (l1 l : List Nat) (b : Bool) (hb : (l1 == l) = b) (W : World) (h1 : l1.length = n1) (r1 : Reads W W.heap.size A1 (l1.map byte)) (hn1 : n1 ≤ 1000) (hn : l.length ≤ 1000) (e : TypeId) (B m : Nat) (hB : B = W.heap.size) (hm : m = l.length) (cs : Array Value) (hc : cs = (l.map byte).toArray) :
    Calls Try.prog 17 #[.slice A1 n1 c1, .slice (some ⟨B, 0, none⟩) m m] (W.alloc (.cells cs e)) fun e' w' => e' = .returned (.bool b) ∧ (W.alloc (.cells cs e)).grownBy w' none := by
  subst hB hm hc
  exact same_lit A1 _ n1 c1 _ _ l1 l b hb _ W.heap.size _ h1 rfl (r1.alloc _) (Reads.new_ W e l (by omega)) (by omega) (by omega)
set_option maxRecDepth 100000 in
set_option maxHeartbeats 4000000 in
theorem pawake_any (w : World) : Calls Try.prog 39 #[] w fun e w' => e = .returned (.bool true) ∧ w.grownBy w' none := by
  have CS := Lib.hid (fun W => seal_any none 0 0 [] W rfl Reads.nil_ (by intro x hx; simp at hx) (by omega))
  rw [sealV_nil, show sealE [] = 0 from rfl] at CS
  have CO1 := Lib.hid (fun A c W (hr : Reads W W.heap.size A ([0, 141, 239, 2, 210].map byte)) (h1 : 5 ≤ c) (h2 : c ≤ 9223372036854775807) => open_lit A 5 c _ _ open_first W rfl hr (byt_lit _ (by decide)) (by omega) h1 h2)
  have CO2 := Lib.hid (fun (W : World) (B : Nat) (cs : Array Value) (hB : B = W.heap.size) (hc : cs = ([0, 0, 0, 0, 0].map byte).toArray) => show Calls Try.prog 38 #[.slice (some ⟨B, 0, none⟩) 5 5] (W.alloc (.cells cs 5)) _ from by
    subst hB hc
    exact open_lit (some ⟨W.heap.size, 0, none⟩) 5 5 _ _ open_zeros (W.alloc (.cells ([0, 0, 0, 0, 0].map byte).toArray 5)) rfl ((Reads.new_ W _ [0, 0, 0, 0, 0] (by simp)).more (by simp)) (byt_lit _ (by decide)) (by omega) (by omega) (by omega))
  have CO3 := Lib.hid (fun W => open_lit none 0 0 [] none (openL_small (by intro x hx; simp at hx) (by simp)) W rfl Reads.nil_ (by intro x hx; simp at hx) (by omega) (by omega) (by omega))
  have hmk : ∀ W : World, (Instr.makeSlice 22 (.int .i64 5) (.int .i64 5)).run Try.prog W = .ok (.slice (some ⟨W.heap.size, 0, none⟩) 5 5) (W.alloc (.cells #[.int .u8 0, .int .u8 0, .int .u8 0, .int .u8 0, .int .u8 0] 5)) := fun W => make_run 5 (by omega) W
  have f1 := Lib.hid (show flipB [1, 0] 0 = [0, 0] by decide)
  have f2 := Lib.hid (show flipB [1, 0] 9 = [1, 2] by decide)
  have f3 := Lib.hid (show flipB [1, 0] 16 = [0, 0] by decide)
  go_enter Try.func39, Try.ntmps39
  go_wp2_with fail
  refine (CS.out _).mono ?_; rintro e w1 ⟨A1, c1, rfl, hown1, hg1⟩
  have k1 := hown1.2.1
  have k2 : c1 ≤ 9223372036854775807 := by have := hown1.2.2.1; unfold maxLen at this; omega
  go_wp2_with fail
  refine (CO1.out _ _ _ hown1.reads (by simpa using k1) k2).mono ?_; rintro e w2 ⟨A2, c2, rfl, _, hg2⟩
  have hgA := grown_trans hg1 hg2
  have hownA := hown1.grown0 hg2
  clear hown1 hg1 hg2 CO1 CS
  go_wp2_with fail
  refine (CO2.out _ _ _ rfl rfl).mono ?_; rintro e w3 ⟨A3, c3, rfl, _, hg3⟩
  have hgB := grown_trans (grown_trans hgA (World.grownBy_alloc _ _ _)) hg3
  have hownB := (hownA.alloc _).grown0 hg3
  clear hgA hownA hg3 CO2
  go_wp2_with fail
  refine (CO3.out _).mono ?_; rintro e w4 ⟨A4, c4, rfl, _, hg4⟩
  have hgC := grown_trans hgB hg4
  have hownC := hownB.grown0 hg4
  clear hgB hownB hg4 CO3
  go_wp2_with fail
  refine (same_new A1 5 c1 [0, 141, 239, 2, 210] [0, 141, 239, 2, 210] true (by decide) _ rfl hownC.reads (by omega) (by simp) _ _ _ rfl rfl _ rfl).mono ?_; rintro e w5 ⟨rfl, hg5⟩
  have hgD := grown_trans (grown_trans hgC (World.grownBy_alloc _ _ _)) hg5
  clear hgC hownC hg5
  go_wp2_with fail
  refine (room_any _).mono ?_; rintro e w6 ⟨rfl, hg6⟩
  have hgE := grown_trans hgD hg6
  clear hgD hg6
  go_wp2_with fail
  refine (flip_lit [1, 0] [0, 0] 0 f1.out (byt_lit _ (by decide)) (by simp) (by omega) (by omega) _ _ _ _ rfl rfl _ rfl).mono ?_; rintro e w7 ⟨A7, c7, rfl, hown7, hg7⟩
  have hgF := grown_trans (grown_trans hgE (World.grownBy_alloc _ _ _)) hg7
  clear hgE hg7
  go_wp2_with fail
  refine (same_new A7 2 c7 [0, 0] [0, 0] true (by decide) _ rfl hown7.reads (by omega) (by simp) _ _ _ rfl rfl _ rfl).mono ?_; rintro e w8 ⟨rfl, hg8⟩
  have hgG := grown_trans (grown_trans hgF (World.grownBy_alloc _ _ _)) hg8
  clear hgF hg8 hown7
  go_wp2_with fail
  refine (flip_lit [1, 0] [1, 2] 9 f2.out (byt_lit _ (by decide)) (by simp) (by omega) (by omega) _ _ _ _ rfl rfl _ rfl).mono ?_; rintro e w9 ⟨A9, c9, rfl, hown9, hg9⟩
  have hgH := grown_trans (grown_trans hgG (World.grownBy_alloc _ _ _)) hg9
  clear hgG hg9
  go_wp2_with fail
  refine (same_new A9 2 c9 [1, 2] [1, 2] true (by decide) _ rfl hown9.reads (by omega) (by simp) _ _ _ rfl rfl _ rfl).mono ?_; rintro e w10 ⟨rfl, hg10⟩
  have hgI := grown_trans (grown_trans hgH (World.grownBy_alloc _ _ _)) hg10
  clear hgH hg10 hown9
  go_wp2_with fail
  refine (flip_lit [1, 0] [0, 0] 16 f3.out (byt_lit _ (by decide)) (by simp) (by omega) (by omega) _ _ _ _ rfl rfl _ rfl).mono ?_; rintro e w11 ⟨A11, c11, rfl, hown11, hg11⟩
  have hgJ := grown_trans (grown_trans hgI (World.grownBy_alloc _ _ _)) hg11
  clear hgI hg11
  go_wp2_with fail
  refine (same_new A11 2 c11 [0, 0] [0, 0] true (by decide) _ rfl hown11.reads (by omega) (by simp) _ _ _ rfl rfl _ rfl).mono ?_; rintro e w12 ⟨rfl, hg12⟩
  go_wp2
  go_ret
  exact ⟨rfl, grown_trans (grown_trans hgJ (World.grownBy_alloc _ _ _)) hg12⟩
end Go.Proofs.Ythijicpfihpkfaa
