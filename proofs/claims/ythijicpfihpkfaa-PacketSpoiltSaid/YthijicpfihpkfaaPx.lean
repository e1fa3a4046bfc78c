/- The walk of PacketSpoilt. -/
import Derived.Test.YthijicpfihpkfaaPb
import Derived.Test.YthijicpfihpkfaaPl7
namespace Go.Proofs.Ythijicpfihpkfaa
open Go Go.RowKit
theorem spot_lt {n : Nat} (h : 0 < n) (bit : Int) : spot n bit < 8 * n := Nat.mod_lt _ (by omega)
theorem flipB_differ (a b : List Nat) (ha : Byt a) (hb : Byt b) (hl : a.length = b.length) (i : Int) : differ (flipB a i) b ≤ differ a b + 1 := by
  unfold flipB
  split
  · omega
  · have := spot_lt (n := a.length) (by omega) i
    exact differ_flip a b ha hb hl (spot a.length i) (by omega)
theorem flipL_back (l : List Nat) (k : Nat) (hk : k / 8 < l.length) : flipL (flipL l k) k = l := by
  unfold flipL
  have h1 : nth (l.set (k / 8) (nth l (k / 8) ^^^ 2 ^ (k % 8))) (k / 8) = nth l (k / 8) ^^^ 2 ^ (k % 8) := by
    rw [nth_getElem (by rw [List.length_set]; exact hk)]
    simp
  rw [h1, List.set_set, Nat.xor_assoc, Nat.xor_self, Nat.xor_zero, nth_getElem hk, List.set_getElem_self]
theorem flipB_back (l : List Nat) (i : Int) : flipB (flipB l i) i = l := by
  by_cases h : l.length = 0
  · have h2 := flipB_len l i
    have h3 : flipB l i = l := if_pos h
    rw [h3, h3]
  · have h1 : flipB l i = flipL l (spot l.length i) := if_neg h
    have h2 : flipB (flipB l i) i = flipL (flipB l i) (spot (flipB l i).length i) := if_neg (by rw [flipB_len]; exact h)
    rw [h2, flipB_len, h1]
    have := spot_lt (n := l.length) (by omega) i
    exact flipL_back l _ (by omega)
/-- Bytes of which at most three bits are turned about are a datagram just if they are what they were. -/
def Good (m v : List Nat) : Prop := v.length = m.length + 5 ∧ Byt v ∧ (((v == sealV m) = true ∧ openV v = m ∧ openE v = 0) ∨ ((v == sealV m) = false ∧ openE v = 250))
theorem good_of {m v : List Nat} (hb : Byt m) (hm : m.length ≤ 123) (hv : Byt v) (hl : v.length = m.length + 5) (hd : differ v (sealL m) ≤ 3) : Good m v := by
  have es : sealV m = sealL m := if_pos hm
  obtain ⟨e1, e2, e3, _⟩ := open_seal hm
  rw [es] at e1 e2 e3
  refine ⟨hl, hv, ?_⟩
  rw [es]
  by_cases h : v = sealL m
  · exact .inl ⟨by simpa using h, by rw [h]; exact e1, by rw [h]; exact e2⟩
  · refine .inr ⟨by simpa using h, ?_⟩
    rcases openE_is hv with ⟨_, _, _, h4⟩ | ⟨h4, _⟩
    · exfalso
      obtain ⟨h5, h6⟩ := openL_some hv h4
      apply h
      refine apart4 v (sealL m) hv (sealL_byt hb) (by omega) (by omega) ?_ ?_ hd
      · rw [h5]; unfold sealL; exact whole_withs _
      · unfold sealL; exact whole_withs _
    · exact h4
theorem good3 {m : List Nat} (hb : Byt m) (hm : m.length ≤ 123) (i j k : Int) : Good m (flipB (sealV m) i) ∧ Good m (flipB (flipB (sealV m) i) j) ∧ Good m (flipB (flipB (flipB (sealV m) i) j) k) := by
  have es : sealV m = sealL m := if_pos hm
  rw [es]
  have hs := sealL_byt hb
  have hl := sealL_len5 hm
  have d0 := differ_self (sealL m) hs
  have b1 := flipB_byt hs i
  have b2 := flipB_byt b1 j
  have b3 := flipB_byt b2 k
  have l1 := flipB_len (sealL m) i
  have l2 := flipB_len (flipB (sealL m) i) j
  have l3 := flipB_len (flipB (flipB (sealL m) i) j) k
  have d1 := flipB_differ (sealL m) (sealL m) hs hs rfl i
  have d2 := flipB_differ (flipB (sealL m) i) (sealL m) b1 hs (by omega) j
  have d3 := flipB_differ (flipB (flipB (sealL m) i) j) (sealL m) b2 hs (by omega) k
  exact ⟨good_of hb hm b1 (by omega) (by omega), good_of hb hm b2 (by omega) (by omega), good_of hb hm b3 (by omega) (by omega)⟩
set_option maxRecDepth 100000 in
set_option maxHeartbeats 4000000 in
theorem PacketSpoilt_walk (a0 : Option Addr) (len0 cap0 : Nat) (z0 : List Int) (i j k : Int) (w : World) (w0 : IsRow .u8 w a0 len0 cap0 z0) (wi : (Lit.int .i64 i).wf = true) (wj : (Lit.int .i64 j).wf = true) (wk : (Lit.int .i64 k).wf = true) :
    Calls Try.prog 13 #[.slice a0 len0 cap0, .int .i64 i, .int .i64 j, .int .i64 k] w fun e w' => e = .returned (.bool true) ∧ Below w.heap.size w w' := by
  have b0 := w0.len_
  obtain ⟨l, hl, hb, hr⟩ := w0.bytes_
  have hi : -9223372036854775808 ≤ i ∧ i ≤ 9223372036854775807 := by simpa [Lit.wf, IntKind.min, IntKind.max, IntKind.signed, IntKind.bits] using wi
  have hj : -9223372036854775808 ≤ j ∧ j ≤ 9223372036854775807 := by simpa [Lit.wf, IntKind.min, IntKind.max, IntKind.signed, IntKind.bits] using wj
  have hk : -9223372036854775808 ≤ k ∧ k ≤ 9223372036854775807 := by simpa [Lit.wf, IntKind.min, IntKind.max, IntKind.signed, IntKind.bits] using wk
  clear w0 wi wj wk
  by_cases h0 : 123 < len0
  · go_enter Try.func13, Try.ntmps13
    go_wp2_with fail
    refine (pawake_any _).mono ?_; rintro e w0 ⟨rfl, hg0⟩
    go_wp2
    go_ret
    exact ⟨rfl, grown_below hg0⟩
  obtain ⟨e1, e2, e3, e4⟩ := open_seal (m := l) (by omega)
  obtain ⟨g1, g2, g3⟩ := good3 hb (by omega : l.length ≤ 123) i j k
  have CS := Lib.hid (fun W (hg : w.grownBy W none) => seal_any a0 len0 cap0 l W hl ((hr.grown0 hg).more hg.size) hb (by omega))
  rw [e3, e4, hl] at CS
  have hsl : (sealV l).length = len0 + 5 := by omega
  have hsb := sealV_byt hb
  have CF := Lib.hid (fun (v : List Nat) (bit : Int) (h1 : v.length = len0 + 5) (h2 : Byt v) (h3 : -9223372036854775808 ≤ bit ∧ bit ≤ 9223372036854775807) A c W (hrr : Reads W W.heap.size A (v.map byte)) => pflip_any A (len0 + 5) c bit v W W.heap.size h1 hrr h2 (by omega) h3.1 h3.2)
  have CO := Lib.hid (fun (v : List Nat) (h1 : v.length = len0 + 5) (h2 : Byt v) A c W (hnc : len0 + 5 ≤ c) (hc : c ≤ 9223372036854775807) (hrr : Reads W W.heap.size A (v.map byte)) => popen_any A (len0 + 5) c v W h1 hrr h2 (by omega) hnc hc)
  have CY := Lib.hid (fun A c W B (hrr : Reads W B A (l.map byte)) (hg : w.grownBy W none) => psame_yes A a0 len0 c len0 cap0 l W B w.heap.size hl hl hrr (hr.grown0 hg) (by omega))
  have bk3 := flipB_back (flipB (flipB (sealV l) i) j) k
  have bk2 := flipB_back (flipB (sealV l) i) j
  have bk1 := flipB_back (sealV l) i
  have cx := flipB_byt hsb i
  have cy := flipB_byt cx j
  have cz := flipB_byt cy k
  have lx := flipB_len (sealV l) i
  have ly := flipB_len (flipB (sealV l) i) j
  have lz := flipB_len (flipB (flipB (sealV l) i) j) k
  rw [hsl] at lx
  rw [lx] at ly
  rw [ly] at lz
  have Fx := Lib.hid (CF.out (sealV l) i hsl hsb hi)
  have Fy := Lib.hid (CF.out _ j lx cx hj)
  have Fz := Lib.hid (CF.out _ k ly cy hk)
  have Gz := Lib.hid (CF.out _ k lz cz hk)
  have Gy := Lib.hid (CF.out _ j ly cy hj)
  have Gx := Lib.hid (CF.out _ i lx cx hi)
  rw [bk3] at Gz
  rw [bk2] at Gy
  rw [bk1] at Gx
  have GG : Hid (∀ v, Good l v → v.length = len0 + 5 ∧ Byt v ∧ (((v == sealV l) = true ∧ openV v = l ∧ openE v = 0) ∨ ((v == sealV l) = false ∧ openE v = 250))) := fun v hv => by
    obtain ⟨q1, q2, q3⟩ := hv
    exact ⟨by omega, q2, q3⟩
  have CB := Lib.hid (fun (v : List Nat) (h1 : v.length = len0 + 5) (b : Bool) (hbb : (v == sealV l) = b) A1 c1 A2 c2 W (r1 : Reads W W.heap.size A1 (v.map byte)) (r2 : Reads W W.heap.size A2 ((sealV l).map byte)) => same_lit A1 A2 (len0 + 5) c1 (len0 + 5) c2 v (sealV l) b hbb W _ _ h1 hsl r1 r2 (by omega) (by omega))
  have hl' := Lib.hid hl
  clear bk1 bk2 bk3 cx cy cz lx ly lz e1 e2 e3 e4 hl hr CF
  generalize flipB (flipB (flipB (sealV l) i) j) k = z at *
  generalize flipB (flipB (sealV l) i) j = y at *
  generalize flipB (sealV l) i = x at *
  generalize sealV l = sv at *
  have g1' := Lib.hid g1
  have g2' := Lib.hid g2
  have g3' := Lib.hid g3
  have hsl' := Lib.hid hsl
  clear g1 g2 g3 hsl hi hj hk hb hsb
  go_enter Try.func13, Try.ntmps13
  go_wp2_with fail
  refine (pawake_any _).mono ?_; rintro e w0 ⟨rfl, hg0⟩
  go_wp2_with fail
  refine (CS.out _ hg0).mono ?_; rintro e w1 ⟨A1, c1, rfl, hown1, hg1⟩
  have hgA := grown_trans hg0 hg1
  clear hg0 hg1 CS
  go_wp2_with fail
  refine (Fx.out _ _ _ hown1.reads).mono ?_; rintro e w2 ⟨Ax, cx, rfl, hownx, hg2⟩
  go_wp2_with fail
  refine (Fy.out _ _ _ hownx.reads).mono ?_; rintro e w3 ⟨Ay, cy, rfl, howny, hg3⟩
  go_wp2_with fail
  refine (Fz.out _ _ _ howny.reads).mono ?_; rintro e w4 ⟨Az, cz, rfl, hownz, hg4⟩
  go_wp2_with fail
  have hgB : w1.grownBy (w4.alloc (.cells #[.slice Ax (len0 + 5) cx, .slice Ay (len0 + 5) cy, .slice Az (len0 + 5) cz] 22)) none := grown_trans (grown_trans hg2 (grown_trans hg3 hg4)) (World.grownBy_alloc _ _ _)
  have o1 := hown1.grown0 hgB
  have ox := ((hownx.grown0 hg3).grown0 hg4).alloc (.cells #[.slice Ax (len0 + 5) cx, .slice Ay (len0 + 5) cy, .slice Az (len0 + 5) cz] 22)
  have oy := (howny.grown0 hg4).alloc (.cells #[.slice Ax (len0 + 5) cx, .slice Ay (len0 + 5) cy, .slice Az (len0 + 5) cz] 22)
  have oz := hownz.alloc (.cells #[.slice Ax (len0 + 5) cx, .slice Ay (len0 + 5) cy, .slice Az (len0 + 5) cz] 22)
  have hcl : ∀ t, t < 3 → (w4.alloc (.cells #[.slice Ax (len0 + 5) cx, .slice Ay (len0 + 5) cy, .slice Az (len0 + 5) cz] 22)).cell? ⟨w4.heap.size, t, none⟩ = (#[Value.slice Ax (len0 + 5) cx, .slice Ay (len0 + 5) cy, .slice Az (len0 + 5) cz])[t]? := fun t _ => cell_of_row _ _ _ _ _ _ (heap_alloc_new w4 _)
  have hlt : w4.heap.size < (w4.alloc (.cells #[.slice Ax (len0 + 5) cx, .slice Ay (len0 + 5) cy, .slice Az (len0 + 5) cz] 22)).heap.size := by simp
  have hgC := grown_trans hgA hgB
  clear hownx howny hownz hown1 hg2 hg3 hg4 hgB Fx Fy Fz hgA
  generalize hB : w4.heap.size = B at *
  generalize (w4.alloc (.cells #[.slice Ax (len0 + 5) cx, .slice Ay (len0 + 5) cy, .slice Az (len0 + 5) cz] 22)) = w5 at *
  have HC : Hid (∀ t, t < 3 → ∀ W, w5.grownBy W none → ∃ At ct v, W.cell? ⟨B, t, none⟩ = some (.slice At (len0 + 5) ct) ∧ len0 + 5 ≤ ct ∧ ct ≤ 9223372036854775807 ∧ Reads W W.heap.size At (v.map byte) ∧ Good l v) := fun t ht W hg => by
    have hcw : W.cell? ⟨B, t, none⟩ = w5.cell? ⟨B, t, none⟩ := (grown_below hg).cell (p := ⟨B, t, none⟩) hlt
    have hmx : ∀ {c : Nat}, c ≤ maxLen → c ≤ 9223372036854775807 := fun h => by unfold maxLen at h; omega
    rcases (by omega : t = 0 ∨ t = 1 ∨ t = 2) with rfl | rfl | rfl
    · exact ⟨Ax, cx, x, by rw [hcw, hcl 0 (by omega)]; rfl, ox.2.1, hmx ox.2.2.1, (ox.grown0 hg).reads, g1'.out⟩
    · exact ⟨Ay, cy, y, by rw [hcw, hcl 1 (by omega)]; rfl, oy.2.1, hmx oy.2.2.1, (oy.grown0 hg).reads, g2'.out⟩
    · exact ⟨Az, cz, z, by rw [hcw, hcl 2 (by omega)]; rfl, oz.2.1, hmx oz.2.2.1, (oz.grown0 hg).reads, g3'.out⟩
  clear hcl ox oy hlt hB
  go_loopw [15, 16, 17, 18] (fun v _ _ _ wr => ∃ t : Nat, t ≤ 3 ∧ v = .int .i64 t ∧ w5.grownBy wr none) (fun v _ _ _ _ => 3 - (intOf v).toNat)
  case atStart => exact ⟨0, by omega, rfl, World.grownBy.refl _ _⟩
  case round =>
    obtain ⟨t, ht, rfl, hg⟩ := hrel
    by_cases hlt : t < 3
    · obtain ⟨At, ct, v, hc, hc1, hc2, hrv, hgood⟩ := HC.out t hlt wr hg
      obtain ⟨hv1, hv2, hv3⟩ := GG.out v hgood
      have C1 := Lib.hid (CO.out v hv1 hv2 At ct wr hc1 hc2 hrv)
      have hv1' := Lib.hid hv1
      have HCt := Lib.hid (fun W (h : wr.grownBy W none) => show W.cell? ⟨B, t, none⟩ = some (.slice At (len0 + 5) ct) from (by rw [← hc]; exact (grown_below h).cell (p := ⟨B, t, none⟩) (World.block_lt_of_cell? _ _ hc)))
      clear hv1 hgood
      rcases hv3 with ⟨q1, q2, q3⟩ | ⟨q1, q3⟩
      · rw [q2, q3, hl'.out] at C1
        have C2 := Lib.hid (fun A1 c1 A2 c2 W r1 r2 => CB.out v hv1'.out true q1 A1 c1 A2 c2 W r1 r2)
        clear q1 q2 q3
        go_wp2_with fail
        refine C1.out.mono ?_; rintro e w6 ⟨A6, c6, rfl, htl6, hg6⟩
        have hc6 := HCt.out _ hg6
        have hg' := grown_trans hg hg6
        clear hc
        go_wp2_with fail
        refine (C2.out _ _ _ _ _ ((hrv.grown0 hg6).more hg6.size) (o1.grown0 hg').reads).mono ?_; rintro e w7 ⟨rfl, hg7⟩
        have hg'' := grown_trans hg' hg7
        go_wp2_with fail
        refine (CY.out _ _ _ _ (htl6.grown0 hg7).reads (grown_trans hgC hg'')).mono ?_; rintro e w8 ⟨rfl, hg8⟩
        go_wp2_with fail
        go_roundw
        case rel => exact ⟨t + 1, by omega, by go_num, grown_trans hg'' hg8⟩
        case measure => simp [intOf]; omega
      · rw [q3] at C1
        have C2 := Lib.hid (fun A1 c1 A2 c2 W r1 r2 => CB.out v hv1'.out false q1 A1 c1 A2 c2 W r1 r2)
        clear q1 q3
        go_wp2_with fail
        refine C1.out.mono ?_; rintro e w6 ⟨A6, c6, rfl, htl6, hg6⟩
        have hc6 := HCt.out _ hg6
        have hg' := grown_trans hg hg6
        clear hc
        go_wp2_with fail
        refine (C2.out _ _ _ _ _ ((hrv.grown0 hg6).more hg6.size) (o1.grown0 hg').reads).mono ?_; rintro e w7 ⟨rfl, hg7⟩
        go_wp2_with fail
        go_roundw
        case rel => exact ⟨t + 1, by omega, by go_num, grown_trans hg' hg7⟩
        case measure => simp [intOf]; omega
    · have CE := Lib.hid (CB.out sv hsl'.out true (by simp))
      clear CB CO CY GG HC ht
      go_wp2_with fail
      refine (Gz.out _ _ _ (oz.grown0 hg).reads).mono ?_; rintro e w6 ⟨A6, c6, rfl, hown6, hg6⟩
      go_wp2_with fail
      refine (Gy.out _ _ _ hown6.reads).mono ?_; rintro e w7 ⟨A7, c7, rfl, hown7, hg7⟩
      go_wp2_with fail
      refine (Gx.out _ _ _ hown7.reads).mono ?_; rintro e w8 ⟨A8, c8, rfl, hown8, hg8⟩
      have hgE := grown_trans hg (grown_trans hg6 (grown_trans hg7 hg8))
      go_wp2_with fail
      refine (CE.out _ _ _ _ _ hown8.reads (o1.grown0 hgE).reads).mono ?_; rintro e w9 ⟨rfl, hg9⟩
      go_wp2
      go_ret
      exact ⟨rfl, grown_below (grown_trans hgC (grown_trans hgE hg9))⟩
end Go.Proofs.Ythijicpfihpkfaa
