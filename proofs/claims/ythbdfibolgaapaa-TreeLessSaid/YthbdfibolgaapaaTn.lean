/- A node's parent: Parent. -/
import Derived.Test.YthbdfibolgaapaaTb
namespace Go.Proofs.Ythbdfibolgaapaa
open Go Go.RowKit Go.Shelf
attribute [local go_sem] Oper.semAt_some
theorem parent_none' {d : Nat → Int} {t : Nat} (h : ∀ j, j < t → d j ≠ d t - 1) : parentN d t = -1 := by
  rcases upFrom_spec d (d t - 1) t with ⟨h1, _⟩ | ⟨p, h1, h2, h3, _⟩
  · exact h1
  · exact absurd h3 (h p h2)
set_option maxRecDepth 100000 in
set_option maxHeartbeats 4000000 in
theorem parent_in (A : Option Addr) (n c : Nat) (x : Int) (t : Nat) (L : List (List Value)) (w : World) (hN : NodesAt w w.heap.size A n L) (ht : t < n) (hnc : n ≤ c) (hc : c ≤ 9223372036854775807) (hdp : ∀ i, i < n → -1 ≤ dp L i ∧ dp L i ≤ 1000) :
    Calls Try.prog 12 #[.agg #[.slice A n c, .int .i64 x], .int .i64 (t : Int)] w fun e w' => e = .returned (.int .i64 (parentN (dp L) t)) ∧ w.grownBy w' none := by
  have hn := hN.few
  have gD := World.grownBy_alloc w (.cells #[.slice A n c, .int .i64 x] 24) none
  have gT := World.grownBy_alloc (w.alloc (.cells #[.slice A n c, .int .i64 x] 24)) (.cells #[.int .i64 (t : Int)] 3) none
  have gR := World.grownBy_alloc ((w.alloc (.cells #[.slice A n c, .int .i64 x] 24)).alloc (.cells #[.int .i64 (t : Int)] 3)) (.cells #[.int .i64 0] 3) none
  have bD := ((Row.new w 24 #[.slice A n c, .int .i64 x]).kept0 gT).kept0 gR
  have bT := (Row.new (w.alloc (.cells #[.slice A n c, .int .i64 x] 24)) 3 #[.int .i64 (t : Int)]).kept0 gR
  rw [World.size_alloc] at bT
  have bR := Row.new ((w.alloc (.cells #[.slice A n c, .int .i64 x] 24)).alloc (.cells #[.int .i64 (t : Int)] 3)) 3 #[.int .i64 0]
  rw [World.size_alloc, World.size_alloc] at bR
  have c0 := bD.at 0
  have c1 := bD.at 1
  have c2 := bT.at 0
  simp only [List.getElem?_toArray, List.getElem?_cons_zero, List.getElem?_cons_succ] at c0 c1 c2
  have CI := Lib.hid (fun W => is_any A n c x (t : Int) W hn)
  rw [show decide (0 ≤ (t : Int) ∧ (t : Int) < n) = true by simp; omega] at CI
  have hNh := Lib.hid hN
  have hgh := Lib.hid (grown_trans gD (grown_trans gT gR))
  clear hN gD gT gR
  refine (callsIn_wide (n := 5)).1 ?_
  refine callsIn_of_wp_marks Try.func12 rfl trivial ?_ rfl
  simp only [Try.ntmps12, List.size_toArray, List.length_cons, List.length_nil, Nat.reduceAdd, Nat.reduceSub, Array.replicate_succ, Array.replicate_zero, List.push_toArray, List.append_toArray, List.nil_append, List.cons_append]
  gi_wp2_with fail
  refine ⟨trivial, ?_⟩
  refine (callsIn_wide.2 (CI.out _)).mono ?_; rintro e w1 ⟨rfl, hg1⟩
  have d0 := hg1.cell c0 (by simp)
  have d1 := hg1.cell c1 (by simp)
  have d2 := hg1.cell c2 (by simp)
  clear c0 c1 c2
  gi_wp2_with fail
  refine ⟨trivial, ?_⟩
  refine (nback_in 4 _ _ _ _).mono ?_; rintro e w' ⟨rfl, rfl⟩
  clear d0 d1 d2
  gi_wp2
  have hlt : w.heap.size + 2 < w1.heap.size := by have := hg1.size; rw [World.size_alloc, World.size_alloc, World.size_alloc] at this; omega
  have gA := World.grownBy_alloc w1 (.cells #[.slice A t c] 22) none
  have b5 := Row.new w1 22 #[.slice A t c]
  have hsz : (w1.alloc (.cells #[.slice A t c] 22)).heap.size = w1.heap.size + 1 := by simp
  have g1 := grown_trans hg1 gA
  have hg5 := grown_trans hgh.out g1
  have bD5 := bD.kept0 g1
  have bT5 := bT.kept0 g1
  have bR5 := bR.kept0 g1
  clear gA g1 bD bT bR hg1
  generalize w1.alloc (.cells #[.slice A t c] 22) = W5 at *
  generalize hq5 : w1.heap.size = q5 at *
  obtain ⟨q, hq⟩ : ∃ q, w.heap.size + 2 = q := ⟨_, rfl⟩
  have hq2 : w.heap.size + 1 + 1 = q := hq
  simp only [hq2] at bR5 ⊢
  refine wpIn_range_box (α := Fin n) rfl (by omega) (gf := 27) (lb := #[.pointer (some ⟨q5, 0, none⟩)]) rfl trivial (enters_of Try.func27 (by kernel_rfl) rfl)
    (nback_stops 4 (by omega) q5 w.heap.size (q5 + 1) q A n t c (by omega) L W5 b5 (by omega) (by omega) (by omega) (hNh.out.grown0 hg5) (by omega) (by omega)) (fun _ => rfl)
    (fun h k => h.trans k) (fun W l o o' hl ho hc hw => stay_b (w := W5) (by omega) W l o o' hl ho hc hw) (fun A B hA hg => Stay.grown hg (by omega) (fun b e => by cases e))
    (fun pre W => (Row W q 3 #[.int .i64 0] ∧ ∀ j ∈ pre.map Fin.val, dp L j ≠ dp L t - 1) ∧ Stay (q5 + 1) q W5 W)
    (fun c pre W => (c = .ret ∧ ∃ (ini : List Nat) (j : Nat), pre.map Fin.val = ini ++ [j] ∧ dp L j = dp L t - 1 ∧ (∀ i ∈ ini, dp L i ≠ dp L t - 1) ∧ Row W q 3 #[.int .i64 (j : Int)]) ∧ Stay (q5 + 1) q W5 W)
    (fun i b W => Row W b 36 (nd L i.val).toArray)
    ?hI ?hIx ?hRF ⟨⟨bR5, by simp⟩, Stay.refl _ _ _⟩ ?act ?assign ?body ?done ?stop
  case assign =>
    intro l i W K hW hK
    have hone := okAll_one (hNh.out.nd_ok i.isLt)
    have hsz : (nd L i.val).toArray.size = 51 := by rw [List.size_toArray]; exact (hNh.out.nd_ok i.isLt).len
    gi_wp2_with (refine wpListIn_fresh bigN rfl rfl rfl rfl (.tmp 6) (.tmp 17) rfl (nd L i.val).toArray hsz (by simpa using hone) rfl rfl ?_; intro W1 hg1 hr1; simp only [Act.put, List.setIfInBounds_toArray, List.set_cons_zero, List.set_cons_succ])
    generalize W.heap.size = b at *
    exact hK b _ hg1 hr1
  case hI =>
    rintro s W W' row ⟨⟨h1, h0⟩, h2⟩ hg hr
    have hne : ∀ b, row = some b → q5 + 1 ≤ b := fun b e => by have := (hr b e).1; omega
    exact ⟨⟨h1.kept hg (fun e => by have := hne _ e.symm; omega), h0⟩, h2.trans (Stay.grown hg (by have := h2.size; omega) (fun b e => .inr (hne b e)))⟩
  case hIx =>
    rintro c s W W' row ⟨⟨rfl, ini, j, e1, e2, e3, h1⟩, h2⟩ hg hr
    have hne : ∀ b, row = some b → q5 + 1 ≤ b := fun b e => by have := (hr b e).1; omega
    exact ⟨⟨rfl, ini, j, e1, e2, e3, h1.kept hg (fun e => by have := hne _ e.symm; omega)⟩, h2.trans (Stay.grown hg (by have := h2.size; omega) (fun b e => .inr (hne b e)))⟩
  case hRF =>
    rintro i b W W' row hr hg hrow
    refine hr.kept hg (fun e => ?_)
    obtain ⟨_, ob, hob, hoc⟩ := hrow b e.symm
    rw [hr] at hob
    cases hob
    simp [Obj.isCells] at hoc
  case body =>
    rintro l pre i b W ⟨⟨h1, h0⟩, h2⟩ hlen hrb
    have hi := i.isLt
    have hnodes := h2.nodes (hNh.out.grown0 hg5) (by omega) (by omega)
    have hokI := hNh.out.nd_ok hi
    have hDW := h2.row bD5 (by omega) (by omega)
    have hTW := h2.row bT5 (by omega) (by omega)
    obtain ⟨ad, rfl, _⟩ := hnodes.some_ ht
    have c0 : W.cell? ⟨w.heap.size, 0, none⟩ = some (.slice (some ad) n c) := hDW.at 0
    have c1 : W.cell? ⟨w.heap.size + 1, 0, none⟩ = some (.int .i64 (t : Int)) := hTW.at 0
    have c2 := hnodes.dep_ ht
    have c3 : W.cell? ⟨b, 1, none⟩ = some (.int .i64 (dp L i.val)) := (row_node hrb hokI).2.1
    have b1 := hdp t ht
    have b2 := hdp i.val hi
    have hsub : IntKind.i64.wrap (dp L t - 1) = dp L t - 1 := by rw [IntKind.wrap_i64]; omega
    have h1' := Lib.hid h1
    have h0' := Lib.hid h0
    have h2' := Lib.hid h2
    have k0 : W.cell? ⟨q, 0, none⟩ = some (.int .i64 0) := h1.at 0
    have f0 := h1.free 0
    clear hDW hTW hnodes hokI hrb h1 h0 h2
    obtain ⟨dt, hdt⟩ : ∃ d, d = dp L t := ⟨_, rfl⟩
    obtain ⟨di, hdi⟩ : ∃ d, d = dp L i.val := ⟨_, rfl⟩
    have hdt' := Lib.hid hdt
    have hdi' := Lib.hid hdi
    rw [← hdt] at c2 b1 hsub
    rw [← hdi] at c3 b2
    clear hdt hdi
    have hgd : ∀ q, W.grownBy (W.drewN q) none := fun q => grown_drewN (World.grownBy.refl _ none) q
    have fin := Lib.hid (fun (q' : Nat) (hne : di ≠ dt - 1) => show ownPostK (Stay (q5 + 1) q) (fun pre W => (Row W q 3 #[.int .i64 0] ∧ ∀ j ∈ pre.map Fin.val, dp L j ≠ dp L t - 1) ∧ Stay (q5 + 1) q W5 W) (fun c pre W => (c = .ret ∧ ∃ (ini : List Nat) (j : Nat), pre.map Fin.val = ini ++ [j] ∧ dp L j = dp L t - 1 ∧ (∀ i ∈ ini, dp L i ≠ dp L t - 1) ∧ Row W q 3 #[.int .i64 (j : Int)]) ∧ Stay (q5 + 1) q W5 W) (pre ++ [i]) W .normal { tmps := #[], defers := [] } (W.drewN q') from by
      refine ⟨KeepsOthers.of_grownBy (hgd q') (fun j o e => by cases e), Stay.grown (hgd q') (by have := h2'.out.size; omega) (fun b e => by cases e), ⟨h1'.out.kept0 (hgd q'), fun j hj => ?_⟩, h2'.out.trans (Stay.grown (hgd q') (by have := h2'.out.size; omega) (fun b e => by cases e))⟩
      rw [List.map_append, List.map_singleton] at hj
      rcases List.mem_append.1 hj with hj | hj
      · exact h0'.out j hj
      · rw [List.mem_singleton.1 hj, ← hdi'.out, ← hdt'.out]; exact hne)
    clear hgd
    by_cases hlt2 : di < dt
    · have hd0 : decide (di < dt) = true := decide_eq_true hlt2
      by_cases heq : di = dt - 1
      · have hq1 : (di == dt - 1) = true := by simp [heq]
        have heq' := Lib.hid heq
        clear heq
        gi_wp2
        refine wpIn_region_quiet_round rfl (by kernel_rfl) (by kernel_rfl) (by kernel_rfl) ?_
        repeat (gi_big_quiet_step (fail))
        refine wpQuietIn_nil ?_
        intro _ hw'
        obtain ⟨nq, hw''⟩ := hw'
        subst hw''
        gi_wp2
        have hgd : W.grownBy (W.drewN nq) none := grown_drewN (World.grownBy.refl _ none) nq
        have hgs := grownBy_setCell (W.drewN nq) q 0 (.int .i64 (i.val : Int))
        refine ⟨(KeepsOthers.of_grownBy hgd (fun j o e => by cases e)).trans (KeepsOthers.setCell _ _ _), ⟨rfl, pre.map Fin.val, i.val, by simp, by rw [← hdi'.out, ← hdt'.out]; exact heq'.out, h0'.out, ?_⟩, ?_⟩
        · simpa using (h1'.out.kept0 hgd).set 0 (.int .i64 (i.val : Int))
        · exact (h2'.out.trans (Stay.grown hgd (by have := h2'.out.size; omega) (fun b e => by cases e))).trans (Stay.grown hgs (by have := h2'.out.size; have := hgd.size; omega) (fun b e => .inl (by cases e; rfl)))
      · have hq1 : (di == dt - 1) = false := by simp; omega
        have heq' := Lib.hid heq
        clear heq
        gi_wp2
        refine wpIn_region_quiet_round rfl (by kernel_rfl) (by kernel_rfl) (by kernel_rfl) ?_
        repeat (gi_big_quiet_step (fail))
        refine wpQuietIn_nil ?_
        intro _ hw'
        obtain ⟨nq, hw''⟩ := hw'
        subst hw''
        gi_wp2
        exact fin.out nq heq'.out
    · have hd0 : decide (di < dt) = false := decide_eq_false hlt2
      have heq' := Lib.hid (show di ≠ dt - 1 by omega)
      gi_wp2
      refine wpIn_region_quiet_round rfl (by kernel_rfl) (by kernel_rfl) (by kernel_rfl) ?_
      repeat (gi_big_quiet_step (fail))
      refine wpQuietIn_nil ?_
      intro _ hw'
      obtain ⟨nq, hw''⟩ := hw'
      subst hw''
      gi_wp2
      exact fin.out nq heq'.out
  case done =>
    rintro D ys W hD hys ⟨⟨h1, h0⟩, h2⟩ hK
    have hno := parent_none' (d := dp L) (t := t) (fun j hj => h0 j (by rw [hys]; exact (mem_bwdL (Nat.le_refl _)).2 ⟨by omega, hj⟩))
    have hno' := Lib.hid hno
    clear hno
    have c5 : W.cell? ⟨q, 0, none⟩ = some (.int .i64 0) := h1.at 0
    have f5 := h1.free 0
    gi_wp2
    have hK' := (KeepsOthers.setCell W ⟨q, 0, none⟩ (.int .i64 (-1))).same D _ hK rfl
    refine ⟨by simp, .inl ⟨_, _, rfl, run_takeDeferred hK', ?_⟩⟩
    have g0 : ((W.setCell ⟨q, 0, none⟩ (.int .i64 (-1))).putObj D (.deferred none)).cell? ⟨q, 0, none⟩ = some (.int .i64 (-1)) := cell_kept (by have := (h1.set 0 (.int .i64 (-1))).at 0; simpa using this) (grownBy_putObj' _ D (.deferred none)) (fun r e => by cases e; exact ⟨_, hK', rfl⟩)
    refine ⟨.int .i64 (-1), by simp [results, Try.f12, go_sem, g0], by rw [hno'.out], ?_⟩
    have hst := h2.trans (Stay.grown (grownBy_setCell W q 0 (.int .i64 (-1))) (by have := h2.size; omega) (fun b e => .inl (by cases e; rfl)))
    exact (hst.trans (stay_b (w := W5) (by omega) _ D _ _ hD hK' rfl rfl)).toGrown hg5 (by omega) (by omega)
  case stop =>
    rintro D c pre W hD ⟨k, hk, hpre⟩ ⟨⟨rfl, ini, j, e1, e2, e3, h1⟩, h2⟩ hK
    rw [e1, bwdL_succ] at hpre
    obtain ⟨rfl, hj⟩ := List.append_inj' hpre rfl
    have hj2 : j = t - 1 - k := by simpa using hj
    have hpa : parentN (dp L) t = (j : Int) := upFrom_uniq (by omega) e2 (fun i h3 h4 => e3 i ((mem_bwdL (by omega)).2 ⟨by omega, h4⟩))
    have hpa' := Lib.hid hpa
    clear hpa hj e1 e2 e3
    have c5 : W.cell? ⟨q, 0, none⟩ = some (.int .i64 (j : Int)) := h1.at 0
    gi_wp2
    refine ⟨by simp, .inl ⟨_, _, rfl, run_takeDeferred hK, ?_⟩⟩
    have g0 : (W.putObj D (.deferred none)).cell? ⟨q, 0, none⟩ = some (.int .i64 (j : Int)) := cell_kept c5 (grownBy_putObj' _ D (.deferred none)) (fun r e => by cases e; exact ⟨_, hK, rfl⟩)
    refine ⟨.int .i64 (j : Int), by simp [results, Try.f12, go_sem, g0], by rw [hpa'.out], ?_⟩
    exact (h2.trans (stay_b (w := W5) (by omega) _ D _ _ hD hK rfl rfl)).toGrown hg5 (by omega) (by omega)
end Go.Proofs.Ythbdfibolgaapaa
