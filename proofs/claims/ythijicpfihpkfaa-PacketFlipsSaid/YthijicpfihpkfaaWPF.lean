/- The walk of PacketFlips. -/
import Derived.Test.YthijicpfihpkfaaF1
namespace Go.Proofs.Ythijicpfihpkfaa
open Go Go.RowKit
theorem same_true (A1 A2 : Option Addr) (n1 c1 n2 c2 : Nat) (l : List Nat) (w : World) (B1 B2 : Nat) (h1 : l.length = n1) (h2 : l.length = n2) (r1 : Reads w B1 A1 (l.map byte)) (r2 : Reads w B2 A2 (l.map byte)) (hn : n1 ≤ 1000000) :
    Calls Try.prog 17 #[.slice A1 n1 c1, .slice A2 n2 c2] w fun e w' => e = .returned (.bool true) ∧ w.grownBy w' none := by
  have := same_any A1 A2 n1 c1 n2 c2 l l w B1 B2 h1 h2 r1 r2 hn (by omega)
  simpa using this

set_option maxHeartbeats 400000 in
theorem PacketFlips_walk (a0 : Option Addr) (len0 cap0 : Nat) (z0 : List Int) (bit : Int) (w : World) (w0 : IsRow .u8 w a0 len0 cap0 z0) (wb : (Lit.int .i64 bit).wf = true) :
    Calls Try.prog 3 #[.slice a0 len0 cap0, .int .i64 bit] w fun e w' => e = .returned (.bool true) ∧ Below w.heap.size w w' := by
  have b0 := w0.len_
  have hi : -9223372036854775808 ≤ bit ∧ bit ≤ 9223372036854775807 := by simpa [Lit.wf, IntKind.min, IntKind.max, IntKind.signed, IntKind.bits] using wb
  obtain ⟨l, hl, hb, hr⟩ := w0.bytes_
  by_cases h0 : 1000 < len0
  · go_enter Try.func3, Try.ntmps3
    go_wp2
    go_ret
    exact ⟨rfl, Below.refl _ _⟩
  have hyl := flipB_len l bit
  rw [hl] at hyl
  have hyb := flipB_byt hb bit
  have CP := Lib.hid (fun A c V X (h : Reads V X A (l.map byte)) => pflip_any A len0 c bit l V X hl h hb (by omega) hi.1 hi.2)
  have CR := Lib.hid (fun A c V X (h : Reads V X A (l.map byte)) => rflip_any A len0 c bit l V X hl h hb (by omega) hi.1 hi.2)
  clear hi
  generalize flipB l bit = y at *
  have hyl' := Lib.hid hyl; clear hyl
  have hyb' := Lib.hid hyb; clear hyb
  go_enter Try.func3, Try.ntmps3
  go_wp2_with fail
  refine (copy_any a0 len0 cap0 l _ _ hl hr (by omega)).mono ?_; rintro e w1 ⟨A1, c1, rfl, hown1, hg1⟩
  go_wp2_with fail
  refine (CP.out A1 c1 _ _ hown1.reads).mono ?_; rintro e w2 ⟨A2, c2, rfl, hown2, hg2⟩
  have hr2 := (hr.grown0 hg1).grown0 hg2
  go_wp2_with fail
  refine (CR.out a0 cap0 _ _ hr2).mono ?_; rintro e w3 ⟨A3, c3, rfl, hown3, hg3⟩
  have hown2' := hown2.grown0 hg3
  have hr3 := hr2.grown0 hg3
  go_wp2_with fail
  refine (same_true A2 A3 _ _ _ _ y _ _ _ hyl'.out hyl'.out hown2'.reads hown3.reads (by omega)).mono ?_; rintro e w4 ⟨rfl, hg4⟩
  have ho1 := ((hown1.grown0 hg2).grown0 hg3).grown0 hg4
  have ho2 := (hown2'.grown0 hg4)
  have hr4 := hr3.grown0 hg4
  have hgA := grown_trans hg1 (grown_trans hg2 (grown_trans hg3 hg4))
  have hgB := grown_trans hg2 (grown_trans hg3 hg4)
  have hlt1 : ∀ g, rowOf A1 c1 = some g → g < w1.heap.size := fun g h => (hown1.row_ge g h).2
  clear hown1 hown2 hown2' hown3 hr2 hr3 hg2 hg3 hg4
  have hs1 : w.heap.size ≤ w1.heap.size := hg1.size
  have hs4 : w1.heap.size ≤ w4.heap.size := hgB.size
  have hrr := rowOf A2 c2
  go_wp2_with fail
  go_loopw [8] (fun v wr => ∃ (j : Nat) (xs : List Nat), j ≤ len0 ∧ v = .int .i64 j ∧ xs.length = len0 ∧ Byt xs ∧ Own wr w1.heap.size 5 1 A2 len0 c2 (xs.map byte) ∧ w4.grownBy wr (rowOf A2 c2)) (fun v _ => len0 - (intOf v).toNat)
  case atStart => exact ⟨0, y, by omega, rfl, hyl'.out, hyb'.out, ho2, World.grownBy.refl _ _⟩
  case round =>
    obtain ⟨j, xs, hj, rfl, hxl, hxb, hxo, hxg⟩ := hrel
    clear ho2
    have hxl' := Lib.hid hxl; clear hxl
    by_cases hlt2 : j < len0
    · obtain ⟨g, rfl, hg0, hg1', hc, hf⟩ := hxo.byte_at (k := j) (by rw [hxl'.out]; exact hlt2)
      have hx := hxb.nth j
      have hcp := hxo.2.1
      have hro : rowOf (some (⟨g, 0, none⟩ : Addr)) c2 = some g := by simp [rowOf]; omega
      go_wp2
      go_roundw
      case rel => exact ⟨j + 1, xs.set j ((nth xs j + 1) % 256), by omega, by go_num, by rw [List.length_set]; exact hxl'.out, byt_set hxb (by omega), hxo.put_ _ _, grown_trans hxg (by rw [hro]; exact grownBy_setCell _ _ _ _)⟩
      case measure => simp [intOf]; omega
    · have hge := fun g h => (hxo.row_ge g h).1
      have hr5 := hr4.grown hxg (fun g h => by have := hge g h; omega)
      have hne : rowOf A1 c1 = none ∨ rowOf A1 c1 ≠ rowOf A2 c2 := by
        rcases h1 : rowOf A1 c1 with _ | g
        · exact .inl rfl
        · refine .inr fun e => ?_
          have h2 := hge g e.symm
          have h3 := hlt1 g h1
          omega
      have ho5 := ho1.grownBy_ hxg hne
      have hgF := grown_new hgA hxg (fun g h => by have := hge g h; omega)
      clear hge hne ho1 hr4 hlt1 hxg
      go_wp2_with fail
      refine (same_true A1 a0 _ _ _ _ l _ _ _ hl hl ho5.reads hr5 (by omega)).mono ?_; rintro e w6 ⟨rfl, hg6⟩
      go_wp2
      go_ret
      exact ⟨rfl, grown_below (grown_trans hgF hg6)⟩
end Go.Proofs.Ythijicpfihpkfaa
