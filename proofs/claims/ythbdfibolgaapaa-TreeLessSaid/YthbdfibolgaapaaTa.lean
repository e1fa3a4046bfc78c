/- Great; two documents the same; a copy; the chapter's document. -/
import Derived.Test.YthbdfibolgaapaaTo
import Derived.Deep.RegionWith
import Derived.BigQuiet
import Derived.Deep.QuietTactic
namespace Go.Proofs.Ythbdfibolgaapaa
open Go Go.RowKit
def GreatPost (L : List (List Value)) (n : Nat) (w : World) (e : Ending) (w' : World) : Prop := ∃ b : Bool, e = .returned (.bool b) ∧ (b = false → n ≤ 320 ∧ total L ≤ 5000) ∧ w.grownBy w' none
set_option maxHeartbeats 1000000 in
theorem great_any (A : Option Addr) (n c : Nat) (L : List (List Value)) (x : Int) (w : World) (hL : ∀ y ∈ L, OkAll nodeLs y) (hl : L.length = n) (hr : Reads w w.heap.size A L.flatten) (hn : n ≤ 9223372036854775807) :
    Calls Try.prog 9 #[.agg #[.slice A n c, .int .i64 x]] w (GreatPost L n w) := by
  have hg0 := World.grownBy_alloc w (.cells #[.slice A n c, .int .i64 x] 24) none
  have HC := Lib.hid (fun k (hk : k < n) W (hg : w.grownBy W none) => nodes_cell hL (hr.grown0 hg) (i := k) (by omega))
  have hg0' := Lib.hid hg0
  have hl' := Lib.hid hl
  have b1 := Two.new w 24 (.slice A n c) (.int .i64 x)
  have c0 := b1.c0
  clear hL hr hl hg0 b1
  by_cases hn3 : n ≤ 320
  · have d0 : decide ((320 : Int) < (n : Int)) = false := by simp; omega
    go_enter Try.func9, Try.ntmps9
    go_wp2_with fail
    go_loop [3, 4] (fun v i => ∃ (k : Nat) (t : Nat), k ≤ n ∧ t = total (L.take k) ∧ t ≤ 5000 ∧ i = .int .i64 k ∧ v = .int .i64 ((5000 : Int) - t)) (fun _ i => n - (intOf i).toNat)
    case atStart => exact ⟨0, 0, by omega, by simp [total], by omega, rfl, rfl⟩
    case round =>
      obtain ⟨k, t, hk, ht, ht5, rfl, rfl⟩ := hrel
      have ht' := Lib.hid ht
      clear ht
      by_cases hlt : k < n
      · obtain ⟨ad, y, rfl, _, hy, hok, hcl⟩ := HC.out k hlt _ hg0'.out
        obtain ⟨s, hs, hsz, hsb⟩ := n_text hok
        have hc := hcl 50 (by omega)
        rw [hs, add_pos _ _ (by omega)] at hc
        have htt := Lib.hid (total_take L k (by have := hl'.out; omega))
        rw [nd_some hy] at htt
        have hsz' := Lib.hid hsz
        have hsb2 : s.size ≤ 9223372036854775807 := by omega
        clear hcl hy hok hs hsz hsb
        by_cases hbig : (5000 : Int) - t < (s.size : Int)
        · have d1 : decide ((5000 : Int) - t < (s.size : Int)) = true := decide_eq_true hbig
          go_wp2_with fail
          go_ret
          exact ⟨true, rfl, fun h => (by cases h), hg0'.out⟩
        · have d1 : decide ((5000 : Int) - t < (s.size : Int)) = false := decide_eq_false hbig
          have hsm : s.size ≤ 5000 := by omega
          go_wp2_with fail
          go_round
          case rel => exact ⟨k + 1, t + s.size, by omega, by rw [htt.out, ← hsz'.out, ← ht'.out], by omega, by go_num, by go_num⟩
          case measure => simp [intOf]; omega
      · obtain rfl : k = n := by omega
        go_wp2_with fail
        go_ret
        exact ⟨false, rfl, fun _ => ⟨hn3, by have h1 := ht'.out; rw [List.take_of_length_le (by have := hl'.out; omega)] at h1; omega⟩, hg0'.out⟩
  · have d0 : decide ((320 : Int) < (n : Int)) = true := by simp; omega
    go_enter Try.func9, Try.ntmps9
    go_wp2_with fail
    go_ret
    exact ⟨true, rfl, fun h => (by cases h), hg0'.out⟩
theorem len_total {L : List (List Value)} {i : Nat} (hi : i < L.length) : lenN (nd L i) ≤ total L := by
  have h1 := total_take L i hi
  have h2 := total_append (L.take (i + 1)) (L.drop (i + 1))
  rw [List.take_append_drop] at h2
  omega
set_option maxHeartbeats 1000000 in
/-- Copy: the same document, its nodes in a row of their own. -/
theorem copy_any (A : Option Addr) (n c : Nat) (L : List (List Value)) (x : Int) (w : World) (B : Nat) (hL : ∀ y ∈ L, OkAll nodeLs y) (hl : L.length = n) (hr : Reads w B A L.flatten) (hn : n ≤ 100000) :
    Calls Try.prog 15 #[.agg #[.slice A n c, .int .i64 x]] w fun e w' => ∃ A' c', e = .returned (.agg #[.slice A' n c', .int .i64 x]) ∧ Own w' w.heap.size 36 51 A' n c' L.flatten ∧ w.grownBy w' none := by
  have CC := Lib.hid (fun W (hg : w.grownBy W none) => clone_nodes A n c L W B hL hl (hr.grown0 hg) hn)
  have b1 := (Two.new w 24 (.slice A n c) (.int .i64 x)).kept (World.grownBy_alloc _ (.cells #[.slice none 0 0, .int .i64 0] 24) none) (by simp)
  have b2 := Two.new (w.alloc (.cells #[.slice A n c, .int .i64 x] 24)) 24 (.slice none 0 0) (.int .i64 0)
  rw [World.size_alloc] at b2
  have hg0 := grown_trans (World.grownBy_alloc w (.cells #[.slice A n c, .int .i64 x] 24) none) (World.grownBy_alloc _ (.cells #[.slice none 0 0, .int .i64 0] 24) none)
  generalize hW : (w.alloc (.cells #[.slice A n c, .int .i64 x] 24)).alloc (.cells #[.slice none 0 0, .int .i64 0] 24) = W at *
  have hW' := Lib.hid hW
  have d0 := grown_drew (World.grownBy.refl W none)
  have q0 := b1.c0
  have q1 := b1.c1
  have q2 := (b1.kept d0 (by simp)).c0
  have q3 := (b1.kept d0 (by simp)).c1
  clear hW hL hl hr
  generalize L.flatten = xs at *
  go_enter Try.func15, Try.ntmps15
  go_wp2_with fail
  rw [hW'.out]
  have hl0 := b1.kept d0 (by simp)
  have hl1 := b2.kept d0 (by simp)
  have l0 := hl1.f 0
  have l1 := hl1.f 1
  go_region_with (go_at_call 24; refine (CC.out _ (grown_trans hg0 d0)).mono ?_; rintro e V ⟨A1, c2, rfl, hown, hg1⟩; have m1 := (hl1.kept hg1 (by simp)).f 0; have m2 := (hl1.kept hg1 (by simp)).f 1; have m3 := (hl0.kept hg1 (by simp)).c0; have m4 := (hl0.kept hg1 (by simp)).c1; have m5 := (hl1.kept hg1 (by simp)).c0; have m6 := (hl1.kept hg1 (by simp)).c1)
  all_goals
    have hb := hl1.kept hg1 (by simp)
    have f2 := (hb.s0 (.slice A1 n c2)).s1 (.int .i64 x)
    have g0 := f2.c0
    have g1 := f2.c1
    have hgF := grown_new (grown_new (grown_trans (grown_trans hg0 d0) hg1) (grownBy_setCell V (w.heap.size + 1) 0 (.slice A1 n c2)) (fun e h => by cases h; omega)) (grownBy_setCell _ (w.heap.size + 1) 1 (.int .i64 x)) (fun e h => by cases h; omega)
    have hoF := (hown.kept_ (grownBy_setCell V (w.heap.size + 1) 0 (.slice A1 n c2)) (b := w.heap.size + 1) hb (by decide)).kept_ (grownBy_setCell _ (w.heap.size + 1) 1 (.int .i64 x)) (b := w.heap.size + 1) (hb.s0 (.slice A1 n c2)) (by decide)
    clear m1 m2 m3 m4 m5 m6 hb f2
    generalize (V.setCell ⟨w.heap.size + 1, 0, none⟩ (.slice A1 n c2)).setCell ⟨w.heap.size + 1, 1, none⟩ (.int .i64 x) = w5 at *
    go_wp2
    exact bodyPost_ret (v := .agg #[.slice A1 n c2, .int .i64 x]) (by simp [results, Try.results15, go_sem, g0, g1]) rfl ⟨A1, c2, rfl, hoF.base_ hg0.size, hgF⟩
end Go.Proofs.Ythbdfibolgaapaa
