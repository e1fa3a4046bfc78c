/- The document's Copy: a document in memory of its own. -/
import Derived.Test.YtkailfigoogfeaaRk
namespace Go.Proofs.Ytkailfigoogfeaa
open Go Go.RowKit
set_option maxHeartbeats 1000000 in
theorem copy_any (A : Option Addr) (n c : Nat) (L : List (List Value)) (x : Int) (w : World) (B : Nat) (hL : ∀ y ∈ L, OkAll nodeLs y) (hl : L.length = n) (hr : Reads w B A L.flatten) (hn : n ≤ 100000) :
    Calls Try.prog 14 #[.agg #[.slice A n c, .int .i64 x]] w fun e w' => ∃ A' c', e = .returned (.agg #[.slice A' n c', .int .i64 x]) ∧ Own w' w.heap.size 59 51 A' n c' L.flatten ∧ w.grownBy w' none := by
  obtain ⟨i0, hi0, hz0, hz1, hz2⟩ := info_parts infoN
  have hfl := Lib.hid (show L.flatten.length = n * 51 by rw [nodes_len hL, hl])
  have h1 := Lib.hid (nodes_one hL)
  have b1 := (Two.new w 24 (.slice A n c) (.int .i64 x)).kept (World.grownBy_alloc _ (.cells #[.slice none 0 0, .int .i64 0] 24) none) (by simp)
  have b2 := Two.new (w.alloc (.cells #[.slice A n c, .int .i64 x] 24)) 24 (.slice none 0 0) (.int .i64 0)
  rw [World.size_alloc] at b2
  have hg0 := grown_trans (World.grownBy_alloc w (.cells #[.slice A n c, .int .i64 x] 24) none) (World.grownBy_alloc _ (.cells #[.slice none 0 0, .int .i64 0] 24) none)
  have c1 := b1.c0
  generalize hW : (w.alloc (.cells #[.slice A n c, .int .i64 x] 24)).alloc (.cells #[.slice none 0 0, .int .i64 0] 24) = W at *
  have hrW := Lib.hid (hr.grown0 hg0)
  have hW' := Lib.hid hW
  clear hW hL hl hr
  generalize L.flatten = xs at *
  go_enter Try.func14, Try.ntmps14
  go_wp2_with (at_builtin; rw [hW'.out]; go_loud (refine wpList_append_Own rfl (.tmp 4) (.tmp 6) _ rfl w.heap.size 59 i0 _ 51 360 Try.underlying22 hi0 hz0 hz1 hz2 rfl (by omega) _ 0 0 [] rfl (Own.nil_ _ _ _ _ _) A n c B xs rfl hfl.out hrW.out h1.out (by simp only [maxLen]; omega) (by omega) hg0.size ?_; intro A1 c2 w1 hown hg1 _; replace hg1 : W.grownBy w1 none := hg1; try simp only [Nat.zero_add, List.nil_append] at hown; have e0 := (b1.kept hg1 (by simp)).c0; have e1 := (b1.kept hg1 (by simp)).c1; have e3 := (b2.kept hg1 (by simp)).c0; have e4 := (b2.kept hg1 (by simp)).c1; have e5 := (b2.kept hg1 (by simp)).f 0; have e6 := (b2.kept hg1 (by simp)).f 1))
  have d2 := b2.kept hg1 (by simp)
  have f2 := (d2.s0 (.slice A1 n c2)).s1 (.int .i64 x)
  have g0 := f2.c0
  have g1 := f2.c1
  have hgF := grown_put (grown_put (grown_trans hg0 hg1) (Nat.le_succ _) 0 (.slice A1 n c2)) (Nat.le_succ _) 1 (.int .i64 x)
  have hoF := (hown.kept_ (grownBy_setCell _ (w.heap.size + 1) 0 (.slice A1 n c2)) (b := w.heap.size + 1) d2 (by decide)).kept_ (grownBy_setCell _ (w.heap.size + 1) 1 (.int .i64 x)) (b := w.heap.size + 1) (d2.s0 (.slice A1 n c2)) (by decide)
  generalize (w1.setCell ⟨w.heap.size + 1, 0, none⟩ (.slice A1 n c2)).setCell ⟨w.heap.size + 1, 1, none⟩ (.int .i64 x) = w5 at *
  exact bodyPost_ret (v := .agg #[.slice A1 n c2, .int .i64 x]) (by simp [results, Try.results14, go_sem, g0, g1]) rfl ⟨A1, c2, rfl, hoF, hgF⟩
end Go.Proofs.Ytkailfigoogfeaa
