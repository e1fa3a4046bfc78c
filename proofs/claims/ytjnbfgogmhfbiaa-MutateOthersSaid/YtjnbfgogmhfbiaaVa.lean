/- The document's and the tree's Copy, for seats without windowpanelaw05. -/
import Derived.Test.YtjnbfgogmhfbiaaTi
namespace Go.Proofs.Ytjnbfgogmhfbiaa
open Go Go.RowKit
theorem copy_any (A : Option Addr) (n c : Nat) (L : List (List Value)) (x : Int) (w : World) (B : Nat) (hL : ∀ y ∈ L, OkAll nodeLs y) (hl : L.length = n) (hr : Reads w B A L.flatten) (hn : n ≤ 100000) :
    Calls Try.prog 24 #[.agg #[.slice A n c, .int .i64 x]] w fun e w' => ∃ A' c', e = .returned (.agg #[.slice A' n c', .int .i64 x]) ∧ Own w' w.heap.size 32 51 A' n c' L.flatten ∧ w.grownBy w' none := by
  have CC := Lib.hid (fun W (hg : w.grownBy W none) => clone_nodes A n c L W B hL hl (hr.grown0 hg) hn)
  have b1 := (Two.new w 24 (.slice A n c) (.int .i64 x)).kept (World.grownBy_alloc _ (.cells #[.slice none 0 0, .int .i64 0] 24) none) (by simp)
  have b2 := Two.new (w.alloc (.cells #[.slice A n c, .int .i64 x] 24)) 24 (.slice none 0 0) (.int .i64 0)
  rw [World.size_alloc] at b2
  have hg0 := grown_trans (World.grownBy_alloc w (.cells #[.slice A n c, .int .i64 x] 24) none) (World.grownBy_alloc _ (.cells #[.slice none 0 0, .int .i64 0] 24) none)
  generalize hW : (w.alloc (.cells #[.slice A n c, .int .i64 x] 24)).alloc (.cells #[.slice none 0 0, .int .i64 0] 24) = W at *
  have hW' := Lib.hid hW
  have d0 := grown_drew (World.grownBy.refl W none)
  have q0 := b1.c0
  have q1 := b1.c1
  have q2 := (b1.kept d0 (by simp)).c0
  have q3 := (b1.kept d0 (by simp)).c1
  clear hW hL hl hr
  generalize L.flatten = xs at *
  go_enter Try.func24, Try.ntmps24
  go_wp2_with fail
  rw [hW'.out]
  have hl0 := b1.kept d0 (by simp)
  have hl1 := b2.kept d0 (by simp)
  have l0 := hl1.f 0
  have l1 := hl1.f 1
  go_region_with (go_at_call 29; refine (CC.out _ (grown_trans hg0 d0)).mono ?_; rintro e V ⟨A1, c2, rfl, hown, hg1⟩; have m1 := (hl1.kept hg1 (by simp)).f 0; have m2 := (hl1.kept hg1 (by simp)).f 1; have m3 := (hl0.kept hg1 (by simp)).c0; have m4 := (hl0.kept hg1 (by simp)).c1; have m5 := (hl1.kept hg1 (by simp)).c0; have m6 := (hl1.kept hg1 (by simp)).c1)
  all_goals
    have hb := hl1.kept hg1 (by simp)
    have f2 := (hb.s0 (.slice A1 n c2)).s1 (.int .i64 x)
    have g0 := f2.c0
    have g1 := f2.c1
    have hgF := grown_new (grown_new (grown_trans (grown_trans hg0 d0) hg1) (grownBy_setCell V (w.heap.size + 1) 0 (.slice A1 n c2)) (fun e h => by cases h; omega)) (grownBy_setCell _ (w.heap.size + 1) 1 (.int .i64 x)) (fun e h => by cases h; omega)
    have hoF := (hown.kept_ (grownBy_setCell V (w.heap.size + 1) 0 (.slice A1 n c2)) (b := w.heap.size + 1) hb (by decide)).kept_ (grownBy_setCell _ (w.heap.size + 1) 1 (.int .i64 x)) (b := w.heap.size + 1) (hb.s0 (.slice A1 n c2)) (by decide)
    clear m1 m2 m3 m4 m5 m6 hb f2
    generalize (V.setCell ⟨w.heap.size + 1, 0, none⟩ (.slice A1 n c2)).setCell ⟨w.heap.size + 1, 1, none⟩ (.int .i64 x) = w5 at *
    go_wp2
    exact bodyPost_ret (v := .agg #[.slice A1 n c2, .int .i64 x]) (by simp [results, Try.results24, go_sem, g0, g1]) rfl ⟨A1, c2, rfl, hoF.base_ hg0.size, hgF⟩
end Go.Proofs.Ytjnbfgogmhfbiaa
