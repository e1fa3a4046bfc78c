import Derived.Test.YtodpciiedebifaaT2
import Derived.Test.YtodpciiedebifaaPl2
namespace Go.Proofs.Ytodpciiedebifaa
open Go Go.RowKit
theorem CrcDiffers_walk (a0 : Option Addr) (len0 cap0 : Nat) (z0 : List Int) (a1 : Option Addr) (len1 cap1 : Nat) (z1 : List Int) (w : World) (w0 : IsRow .u8 w a0 len0 cap0 z0) (w1 : IsRow .u8 w a1 len1 cap1 z1) :
    Calls Try.prog 3 #[.slice a0 len0 cap0, .slice a1 len1 cap1] w fun e w' => e = .returned (.bool true) ∧ Below w.heap.size w w' := by
  have b0 := w0.len_
  have b1 := w1.len_
  obtain ⟨l0, hl0, hb0, hr0⟩ := w0.bytes_
  obtain ⟨l1, hl1, hb1, hr1⟩ := w1.bytes_
  by_cases h0 : 2000 < len0
  · go_enter Try.func3, Try.ntmps3
    go_wp2
    go_ret
    exact ⟨rfl, Below.refl _ _⟩
  by_cases h1 : 2000 < len1
  · go_enter Try.func3, Try.ntmps3
    go_wp2
    go_ret
    exact ⟨rfl, Below.refl _ _⟩
  go_enter Try.func3, Try.ntmps3
  go_wp2_with fail
  refine (differ_any a0 a1 len0 cap0 len1 cap1 l0 l1 _ _ _ hl0 hl1 hr0 hr1 hb0 hb1 (by omega) (by omega)).mono ?_; rintro e w1 ⟨rfl, hg1⟩
  go_wp2_with fail
  refine (rdiffer_any a0 a1 len0 cap0 len1 cap1 l0 l1 _ _ _ hl0 hl1 (hr0.grown0 hg1) (hr1.grown0 hg1) hb0 hb1 (by omega) (by omega)).mono ?_; rintro e w2 ⟨rfl, hg2⟩
  have he := differ_eq l0 l1 hb0 hb1
  go_wp2
  go_ret
  exact ⟨by simp, grown_below (grown_trans hg1 hg2)⟩
end Go.Proofs.Ytodpciiedebifaa
