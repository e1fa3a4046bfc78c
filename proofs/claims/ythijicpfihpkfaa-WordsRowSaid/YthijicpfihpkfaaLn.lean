/- The walk of WordsNumbers. -/
import Derived.Test.YthijicpfihpkfaaLf
import Derived.Test.YthijicpfihpkfaaW1
namespace Go.Proofs.Ythijicpfihpkfaa
open Go Go.RowKit
theorem same_yes (A1 A2 : Option Addr) (n1 c1 n2 c2 : Nat) (l : List Nat) (w : World) (B1 B2 : Nat) (h1 : l.length = n1) (h2 : l.length = n2) (r1 : Reads w B1 A1 (l.map byte)) (r2 : Reads w B2 A2 (l.map byte)) (hn : n1 ≤ 1000000) :
    Calls Try.prog 17 #[.slice A1 n1 c1, .slice A2 n2 c2] w fun e w' => e = .returned (.bool true) ∧ w.grownBy w' none := by
  have := same_any A1 A2 n1 c1 n2 c2 l l w B1 B2 h1 h2 r1 r2 hn (by omega)
  simpa using this
set_option maxHeartbeats 1000000 in
theorem WordsNumbers_walk (w : World) (v : Int) (wv : (Lit.int .u64 v).wf = true) (i : Int) (wi : (Lit.int .i64 i).wf = true) :
    Calls Try.prog 4 #[.int .u64 v, .int .i64 i] w fun e w' => e = .returned (.bool true) ∧ Below w.heap.size w w' := by
  have hi := wfI64 wi
  have hn := wfU64 wv
  obtain ⟨n, rfl⟩ := Int.eq_ofNat_of_zero_le hn.1
  have bn : n < 18446744073709551616 := by omega
  have C1 := Lib.hid (fun W => rput_any n W bn)
  have C2 := Lib.hid (fun W => put_any n W bn)
  have C3 := Lib.hid (fun W => size_any n W bn)
  have C4 := Lib.hid (fun W => fold_any i W hi.1 hi.2)
  have C5 := Lib.hid (fun W => rfold_any i W hi.1 hi.2)
  have C6 := Lib.hid (fun W => unfold_any n W hn.1 hn.2)
  have C7 := Lib.hid (fun W => runfold_any n W hn.1 hn.2)
  have hl := putL_len10 n bn
  generalize putL n = l at *
  generalize foldV i = x at *
  generalize unfoldV (n : Int) = y at *
  clear wi wv
  go_enter Try.func4, Try.ntmps4
  go_wp2_with fail
  refine (C1.out _).mono ?_; rintro e w1 ⟨A1, c1, rfl, hown1, hg1⟩
  go_wp2_with fail
  refine (C2.out _).mono ?_; rintro e w2 ⟨A2, c2, rfl, hown2, hg2⟩
  go_wp2_with fail
  refine (same_yes _ _ _ _ _ _ l _ _ _ rfl rfl hown2.reads (hown1.grown0 hg2).reads (by omega)).mono ?_; rintro e w3 ⟨rfl, hg3⟩
  have hg := grown_trans hg1 (grown_trans hg2 hg3)
  clear hown1 hown2 hg1 hg2 hg3
  go_wp2_with fail
  refine (C3.out _).mono ?_; rintro e w4 ⟨rfl, rfl⟩
  go_wp2_with fail
  refine (C4.out _).mono ?_; rintro e w4 ⟨rfl, rfl⟩
  go_wp2_with fail
  refine (C5.out _).mono ?_; rintro e w4 ⟨rfl, rfl⟩
  go_wp2_with fail
  refine (C6.out _).mono ?_; rintro e w4 ⟨rfl, rfl⟩
  go_wp2_with fail
  refine (C7.out _).mono ?_; rintro e w4 ⟨rfl, rfl⟩
  go_wp2
  go_ret
  exact ⟨by simp, grown_below hg⟩
end Go.Proofs.Ythijicpfihpkfaa
