/- The place behind a node's tree. -/
import Derived.Test.YtjnbfgogmhfbiaaTe
namespace Go.Proofs.Ytjnbfgogmhfbiaa
open Go Go.RowKit Go.Shelf
attribute [local go_sem] Oper.semAt_some
theorem below_in (m : Nat) (v u : Value) (t : Int) (w : World) :
    CallsIn Fence.wide m Try.prog 61 #[.agg #[v, u], .int .i64 t] w fun e w' => e = .returned (.func (.func 63) #[] #[.pointer (some ⟨w.heap.size + 1, 0, none⟩), .pointer (some ⟨w.heap.size, 0, none⟩)]) ∧ (w.alloc (.cells #[v, u] 24)).alloc (.cells #[.int .i64 t] 3) = w' := by
  refine callsIn_of_wp Try.func61 rfl trivial ?_ rfl
  simp only [Try.ntmps61, List.size_toArray, List.length_cons, List.length_nil, Nat.reduceAdd, Nat.reduceSub, Array.replicate_succ, Array.replicate_zero, List.push_toArray, List.append_toArray, List.nil_append, List.cons_append]
  gi_wp2
  go_ret
  exact ⟨rfl, rfl⟩
theorem below_stops (m : Nat) (hm : 1 ≤ m) (Bd Bt n₀ M e : Nat) (A : Option Addr) (n c : Nat) (x : Int) (t : Nat) (ht : t < n) (L : List (List Value)) (w : World)
    (hBd : Row w Bd 24 #[.slice A n c, .int .i64 x]) (hBt : Row w Bt 3 #[.int .i64 (t : Int)]) (hM : M ≤ w.heap.size) (hd1 : Bd < M) (hd2 : Bd ≠ e) (ht1 : Bt < M) (ht2 : Bt ≠ e) (hN : NodesAt w n₀ A n L) (hn1 : n₀ ≤ M) (hn2 : n₀ ≤ e) :
    SeqStopsK Fence.wide m Try.prog 63 #[.pointer (some ⟨Bt, 0, none⟩), .pointer (some ⟨Bd, 0, none⟩)] (fun i : Fin n => #[.int .i64 (i.val : Int), .agg (nd L i.val).toArray]) (Stay M e) (fun ys => ys.map Fin.val = belowL L n t) (fun pre => ∃ k, k ≤ n ∧ t + 1 ≤ k ∧ k ≤ endN (dp L) n t ∧ pre.map Fin.val = List.range' (t + 1) (k - (t + 1))) n w := fun l J Jx W hW hJa _ hY h0 => by
  have hg := below_grown hW
  exact below1_in m hm l Bd Bt n₀ M e A n c x t ht L J Jx _ hJa hY W (hBd.kept0 hg) (hBt.kept0 hg) hd1 hd2 ht1 ht2 (hN.grown0 hg) hn1 hn2 h0
def endAfter (t : Nat) (pre : List Nat) : Int := match pre.getLast? with
  | none => t + 1
  | some i => wrap64 (i + 1)
theorem endAfter_snoc (t : Nat) (pre : List Nat) (i : Nat) : endAfter t (pre ++ [i]) = wrap64 (i + 1) := by simp [endAfter]
theorem endAfter_below {L : List (List Value)} {n t : Nat} (ht : t < n) (hn : n ≤ 1000) : endAfter t (belowL L n t) = (endN (dp L) n t : Nat) := by
  have hle := endN_le (d := dp L) ht
  have h := endN_gt (d := dp L) ht
  unfold endAfter belowL
  obtain ⟨k, hk⟩ : ∃ k, endN (dp L) n t = t + 1 + k := ⟨endN (dp L) n t - (t + 1), by omega⟩
  rw [hk, show t + 1 + k - (t + 1) = k by omega]
  cases k with
  | zero => simp
  | succ k =>
    rw [List.range'_concat]
    simp only [List.getLast?_append, List.getLast?_singleton, Option.some_or, Nat.one_mul]
    unfold wrap64
    omega
set_option maxRecDepth 100000 in
set_option maxHeartbeats 4000000 in
theorem end_in (A : Option Addr) (n c : Nat) (x : Int) (t : Nat) (L : List (List Value)) (w : World) (hN : NodesAt w w.heap.size A n L) (ht : t < n) :
    Calls Try.prog 54 #[.agg #[.slice A n c, .int .i64 x], .int .i64 (t : Int)] w fun e w' => e = .returned (.int .i64 (endN (dp L) n t)) ∧ w.grownBy w' none := by
  have hn := hN.few
  have hg0 := World.grownBy_alloc w (.cells #[.slice A n c, .int .i64 x] 24) none
  have b0 := Two.new w 24 (.slice A n c) (.int .i64 x)
  have c0 := b0.c0
  have c1 := b0.c1
  have CI := Lib.hid (is_any A n c x (t : Int) (w.alloc (.cells #[.slice A n c, .int .i64 x] 24)) hn)
  rw [show decide (0 ≤ (t : Int) ∧ (t : Int) < n) = true by simp; omega] at CI
  have hNh := Lib.hid hN
  have heb := Lib.hid (endAfter_below (L := L) ht hn)
  have hgh := Lib.hid hg0
  have bh := Lib.hid b0
  clear hN b0
  refine (callsIn_wide (n := 5)).1 ?_
  refine callsIn_of_wp_marks Try.func54 rfl trivial ?_ rfl
  simp only [Try.ntmps54, List.size_toArray, List.length_cons, List.length_nil, Nat.reduceAdd, Nat.reduceSub, Array.replicate_succ, Array.replicate_zero, List.push_toArray, List.append_toArray, List.nil_append, List.cons_append]
  gi_wp2_with fail
  refine ⟨trivial, ?_⟩
  refine (callsIn_wide.2 CI.out).mono ?_; rintro e w1 ⟨rfl, hg1⟩
  have c2 := fun o => (grown_trans hg1 (World.grownBy_alloc w1 o none)).cell c0 (by simp)
  have c3 := fun o => (grown_trans hg1 (World.grownBy_alloc w1 o none)).cell c1 (by simp)
  clear c0 c1
  gi_wp2_with fail
  refine ⟨trivial, ?_⟩
  refine (below_in 4 _ _ _ _).mono ?_; rintro e w' ⟨rfl, rfl⟩
  clear c2 c3
  gi_wp2
  have hlt : w.heap.size < w1.heap.size := by have := hg1.size; rw [World.size_alloc] at this; omega
  have gA := World.grownBy_alloc w1 (.cells #[.int .i64 ((t : Int) + 1)] 3) none
  have gB := World.grownBy_alloc (w1.alloc (.cells #[.int .i64 ((t : Int) + 1)] 3)) (.cells #[.slice A n c, .int .i64 x] 24) none
  have gC := World.grownBy_alloc ((w1.alloc (.cells #[.int .i64 ((t : Int) + 1)] 3)).alloc (.cells #[.slice A n c, .int .i64 x] 24)) (.cells #[.int .i64 (t : Int)] 3) none
  have b5 := ((Row.new w1 3 #[.int .i64 ((t : Int) + 1)]).kept0 gB).kept0 gC
  have bD := (Row.new (w1.alloc (.cells #[.int .i64 ((t : Int) + 1)] 3)) 24 #[.slice A n c, .int .i64 x]).kept0 gC
  rw [World.size_alloc] at bD
  have bT := Row.new ((w1.alloc (.cells #[.int .i64 ((t : Int) + 1)] 3)).alloc (.cells #[.slice A n c, .int .i64 x] 24)) 3 #[.int .i64 (t : Int)]
  rw [World.size_alloc, World.size_alloc] at bT
  have hsz : (((w1.alloc (.cells #[.int .i64 ((t : Int) + 1)] 3)).alloc (.cells #[.slice A n c, .int .i64 x] 24)).alloc (.cells #[.int .i64 (t : Int)] 3)).heap.size = w1.heap.size + 3 := by simp
  have hg5 := grown_trans hgh.out (grown_trans hg1 (grown_trans gA (grown_trans gB gC)))
  clear gA gB gC
  generalize ((w1.alloc (.cells #[.int .i64 ((t : Int) + 1)] 3)).alloc (.cells #[.slice A n c, .int .i64 x] 24)).alloc (.cells #[.int .i64 (t : Int)] 3) = W5 at *
  generalize hq5 : w1.heap.size = q5 at *
  refine wpIn_rangeFunc_ownF (α := Fin n) rfl (by omega) (gf := 63) (lb := #[.pointer (some ⟨q5 + 1 + 1, 0, none⟩), .pointer (some ⟨q5 + 1, 0, none⟩)]) rfl trivial (enters_of Try.func63 (by kernel_rfl) rfl)
    (below_stops 4 (by omega) (q5 + 1) (q5 + 1 + 1) w.heap.size (q5 + 3) q5 A n c x t ht L W5 bD bT (by omega) (by omega) (by omega) (by omega) (by omega) (hNh.out.grown0 hg5) (by omega) (by omega))
    (fun h k => h.trans k) (fun W l o o' hl ho hc hw => stay_b (w := W5) (by omega) W l o o' hl ho hc hw) (Below.refl _ _) (fun _ => rfl)
    (fun pre W => Row W q5 3 #[.int .i64 (endAfter t (pre.map Fin.val))] ∧ Stay (q5 + 3) q5 W5 W)
    (fun c pre W => False)
    ?hI ?hIx ⟨b5, Stay.refl _ _ _⟩ ?a1 ?assign ?body ?done ?stop
  case assign =>
    intro l i W K hK
    gi_wp2
    exact hK
  case hI =>
    rintro s W W' row ⟨h1, h2⟩ hg hr
    have hne : ∀ b, row = some b → q5 + 3 ≤ b := fun b e => by have := (hr b e).1; omega
    exact ⟨h1.kept hg (fun e => by have := hne _ e.symm; omega), h2.trans (Stay.grown hg (by have := h2.size; omega) (fun b e => .inr (hne b e)))⟩
  case hIx => exact fun c s W W' row h _ _ => h
  case body =>
    rintro l pre i W ⟨h1, h2⟩ hlen
    have c5 := h1.at 0
    have f5 := h1.free 0
    gi_wp2
    refine ⟨KeepsOthers.setCell _ _ _, Stay.grown (grownBy_setCell _ _ _ _) (by have := h2.size; omega) (fun b e => .inl (by cases e; rfl)), ?_, h2.trans (Stay.grown (grownBy_setCell _ _ _ _) (by have := h2.size; omega) (fun b e => .inl (by cases e; rfl)))⟩
    rw [List.map_append, List.map_singleton, endAfter_snoc, show wrap64 ((i.val : Int) + 1) = (i.val : Int) + 1 by have := i.isLt; unfold wrap64; omega]
    simpa using h1.set 0 (.int .i64 ((i.val : Int) + 1))
  case done =>
    rintro D ys W hD hys ⟨h1, h2⟩ hK
    rw [hys, heb.out] at h1
    have c5 : W.cell? ⟨q5, 0, none⟩ = some (.int .i64 ((endN (dp L) n t : Nat) : Int)) := h1.at 0
    gi_wp2
    refine ⟨by simp, .inl ⟨_, _, rfl, run_takeDeferred hK, ?_⟩⟩
    refine ⟨.int .i64 ((endN (dp L) n t : Nat) : Int), by simp [results, Try.f54, go_sem], rfl, ?_⟩
    exact (h2.trans (stay_b (w := W5) (by omega) W D _ _ hD hK rfl rfl)).toGrown hg5 (by omega) (by omega)
  case stop => exact fun D c pre W hD _ h hK => h.elim
theorem end_no (A : Option Addr) (n c : Nat) (x t : Int) (w : World) (hn : n ≤ 1000) (ht : t < 0 ∨ (n : Int) ≤ t) :
    Calls Try.prog 54 #[.agg #[.slice A n c, .int .i64 x], .int .i64 t] w fun e w' => e = .returned (.int .i64 (-1)) ∧ w.grownBy w' none := by
  have hg0 := World.grownBy_alloc w (.cells #[.slice A n c, .int .i64 x] 24) none
  have b0 := Two.new w 24 (.slice A n c) (.int .i64 x)
  have c0 := b0.c0
  have c1 := b0.c1
  have CI := Lib.hid (is_any A n c x t (w.alloc (.cells #[.slice A n c, .int .i64 x] 24)) hn)
  rw [show decide (0 ≤ t ∧ t < n) = false by simp; omega] at CI
  clear b0 ht
  go_enter Try.func54, Try.ntmps54
  go_wp2_with fail
  refine CI.out.mono ?_; rintro e w1 ⟨rfl, hg1⟩
  go_wp2_with fail
  go_ret
  exact ⟨rfl, grown_trans hg0 hg1⟩
end Go.Proofs.Ytjnbfgogmhfbiaa
