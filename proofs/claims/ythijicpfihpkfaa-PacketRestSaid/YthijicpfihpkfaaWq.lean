/- The walk of the document's Put. -/
import Derived.Test.YthijicpfihpkfaaWp
namespace Go.Proofs.Ythijicpfihpkfaa
open Go Go.RowKit
set_option maxHeartbeats 400000 in
set_option maxRecDepth 100000 in
theorem rput_any (N : Nat) : ∀ (w : World) (_hN : N < 18446744073709551616),
    Calls Try.prog 19 #[.int .u64 N] w fun e w' => ∃ A c, e = .returned (.slice A (putL N).length c) ∧ Own w' w.heap.size 5 1 A (putL N).length c ((putL N).map byte) ∧ w.grownBy w' none := by
  induction N using Nat.strongRecOn with
  | _ N ih =>
    intro w hN
    obtain ⟨i0, hi0, hz0, hz1, hz2⟩ := info_parts infoB
    by_cases h : N < 128
    · have hp := Lib.hid (putL_lo h)
      clear ih
      go_enter Try.func19, Try.ntmps19
      go_wp2
      go_ret
      rw [hp.out]
      exact ⟨_, _, rfl, Own.new_ w _ _ [N] (Nat.le_refl _) (by simp), World.grownBy_alloc _ _ _⟩
    · have hp := Lib.hid (putL_hi h)
      have C := Lib.hid (fun W => ih (N / 128) (by omega) W (by omega))
      have hl := putL_len10 (N / 128) (by omega)
      have hcast : ((N / 128 : Nat) : Int) = (N : Int) / 128 := by omega
      have hcast2 : ((N % 128 + 128 : Nat) : Int) = (N : Int) % 128 + 128 := by omega
      rw [hcast] at C
      have hb := byte_one (putL (N / 128))
      generalize putL (N / 128) = r at *
      have hcast2' := Lib.hid hcast2
      clear ih hcast hcast2
      go_enter Try.func19, Try.ntmps19
      go_wp2_with fail
      refine (C.out _).mono ?_; rintro e w1 ⟨A, c, rfl, hown, hg⟩
      have h0 : Own w1 w.heap.size 5 1 (some ⟨w.heap.size, 0, none⟩) 1 1 ([N % 128 + 128].map byte) := by
        refine Own.grown0 ?_ hg
        have := Own.new_ w w.heap.size 5 [N % 128 + 128] (Nat.le_refl _) (by simp)
        rw [← hcast2'.out]
        exact this
      have hsz := hg.size
      simp at hsz
      go_wp2_with (at_builtin; refine wpList_append_Own rfl (.tmp 14) (.tmp 17) _ rfl w.heap.size 5 i0 _ 1 1 Try.underlying22 hi0 hz0 hz1 hz2 rfl (by omega) (some ⟨w.heap.size, 0, none⟩) 1 1 _ rfl h0 A r.length c _ (r.map byte) rfl (by simp) hown.reads hb (by simp only [maxLen]; omega) (by omega) (by omega) ?_; intro A' c' w2 hown2 hg2 _)
      go_ret
      have hrow := h0.row_ge
      have hlen : ((N % 128 + 128) :: r).length = 1 + r.length := by simp; omega
      rw [hp.out, hlen]
      refine ⟨A', c', ?_, by simpa using hown2, grown_new (grown_trans (World.grownBy_alloc _ _ _) hg) hg2 (fun g e => (hrow g e).1)⟩
      simp
end Go.Proofs.Ythijicpfihpkfaa
