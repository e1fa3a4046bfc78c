/- A node's kids. -/
import Derived.Test.YtjnbfgogmhfbiaaTd
import Derived.Test.YtjnbfgogmhfbiaaTg
namespace Go.Proofs.Ytjnbfgogmhfbiaa
open Go Go.RowKit Go.Shelf
attribute [local go_sem] Oper.semAt_some
def intV (k : Nat) : Value := .int .i64 (k : Int)
def kidsF (L : List (List Value)) (t : Nat) (pre : List Nat) : List Nat := pre.filter (fun j => decide (dp L j = dp L t + 1))
theorem kidsF_snoc (L : List (List Value)) (t i : Nat) (pre : List Nat) : kidsF L t (pre ++ [i]) = if dp L i = dp L t + 1 then kidsF L t pre ++ [i] else kidsF L t pre := by
  unfold kidsF
  rw [List.filter_append]
  split <;> simp [*]
theorem kidsF_below (L : List (List Value)) (n t : Nat) : kidsF L t (belowL L n t) = kidsN (dp L) n t := rfl
theorem infoI : (Try.prog.info? 3).map (fun i => (i.zero, i.size, i.bytes)) = some (some (.int .i64 0), 1, 8) := by kernel_rfl
theorem Row.keptOwn {w w' : World} {g base e size n cap : Nat} {T : TypeId} {cs : Array Value} {A : Option Addr} {xs : List Value} (h : Row w g T cs) (ho : Own w base e size A n cap xs) (hne : e ≠ T) (hg : w.grownBy w' (rowOf A cap)) : Row w' g T cs := by
  refine h.kept hg fun he => ?_
  obtain ⟨cur, hcur⟩ := Own.row_of ho he.symm
  unfold Row at h
  rw [h] at hcur
  cases hcur
  exact hne rfl
set_option maxRecDepth 100000 in
set_option maxHeartbeats 4000000 in
theorem kids_in (A : Option Addr) (n c : Nat) (x : Int) (t : Nat) (L : List (List Value)) (w : World) (hN : NodesAt w w.heap.size A n L) (ht : t < n) (hdp : ∀ i, i < n → -1 ≤ dp L i ∧ dp L i ≤ 1000) :
    Calls Try.prog 53 #[.agg #[.slice A n c, .int .i64 x], .int .i64 (t : Int)] w fun e w' => ∃ A' c', e = .returned (.slice A' (kidsN (dp L) n t).length c') ∧ Own w' w.heap.size 3 1 A' (kidsN (dp L) n t).length c' ((kidsN (dp L) n t).map intV) ∧ w.grownBy w' none := by
  have hn := hN.few
  have gD := World.grownBy_alloc w (.cells #[.slice A n c, .int .i64 x] 24) none
  have gT := World.grownBy_alloc (w.alloc (.cells #[.slice A n c, .int .i64 x] 24)) (.cells #[.int .i64 (t : Int)] 3) none
  have bD := (Row.new w 24 #[.slice A n c, .int .i64 x]).kept0 gT
  have bT := Row.new (w.alloc (.cells #[.slice A n c, .int .i64 x] 24)) 3 #[.int .i64 (t : Int)]
  rw [World.size_alloc] at bT
  have c0 := bD.at 0
  have c1 := bD.at 1
  have c2 := bT.at 0
  simp only [List.getElem?_toArray, List.getElem?_cons_zero, List.getElem?_cons_succ] at c0 c1 c2
  have CI := Lib.hid (fun W => is_any A n c x (t : Int) W hn)
  rw [show decide (0 ≤ (t : Int) ∧ (t : Int) < n) = true by simp; omega] at CI
  have hNh := Lib.hid hN
  have hgh := Lib.hid (grown_trans gD gT)
  clear hN gD gT
  refine (callsIn_wide (n := 5)).1 ?_
  refine callsIn_of_wp_marks Try.func53 rfl trivial ?_ rfl
  simp only [Try.ntmps53, List.size_toArray, List.length_cons, List.length_nil, Nat.reduceAdd, Nat.reduceSub, Array.replicate_succ, Array.replicate_zero, List.push_toArray, List.append_toArray, List.nil_append, List.cons_append]
  gi_wp2_with fail
  refine ⟨trivial, ?_⟩
  refine (callsIn_wide.2 (CI.out _)).mono ?_; rintro e w1 ⟨rfl, hg1⟩
  have d0 := fun o => (grown_trans hg1 (World.grownBy_alloc w1 o none)).cell c0 (by simp)
  have d1 := fun o => (grown_trans hg1 (World.grownBy_alloc w1 o none)).cell c1 (by simp)
  have d2 := fun o => (grown_trans hg1 (World.grownBy_alloc w1 o none)).cell c2 (by simp)
  clear c0 c1 c2
  gi_wp2_with fail
  refine ⟨trivial, ?_⟩
  refine (below_in 4 _ _ _ _).mono ?_; rintro e w' ⟨rfl, rfl⟩
  clear d0 d1 d2
  gi_wp2
  have hlt : w.heap.size + 1 < w1.heap.size := by have := hg1.size; rw [World.size_alloc, World.size_alloc] at this; omega
  have gA := World.grownBy_alloc w1 (.cells #[.slice none 0 0] 43) none
  have gB := World.grownBy_alloc (w1.alloc (.cells #[.slice none 0 0] 43)) (.cells #[.slice A n c, .int .i64 x] 24) none
  have gC := World.grownBy_alloc ((w1.alloc (.cells #[.slice none 0 0] 43)).alloc (.cells #[.slice A n c, .int .i64 x] 24)) (.cells #[.int .i64 (t : Int)] 3) none
  have b5 := ((Row.new w1 43 #[.slice none 0 0]).kept0 gB).kept0 gC
  have bDD := (Row.new (w1.alloc (.cells #[.slice none 0 0] 43)) 24 #[.slice A n c, .int .i64 x]).kept0 gC
  rw [World.size_alloc] at bDD
  have bTT := Row.new ((w1.alloc (.cells #[.slice none 0 0] 43)).alloc (.cells #[.slice A n c, .int .i64 x] 24)) 3 #[.int .i64 (t : Int)]
  rw [World.size_alloc, World.size_alloc] at bTT
  have hsz : (((w1.alloc (.cells #[.slice none 0 0] 43)).alloc (.cells #[.slice A n c, .int .i64 x] 24)).alloc (.cells #[.int .i64 (t : Int)] 3)).heap.size = w1.heap.size + 3 := by simp
  have g1 := grown_trans hg1 (grown_trans gA (grown_trans gB gC))
  have hg5 := grown_trans hgh.out g1
  have bD5 := bD.kept0 g1
  have bT5 := bT.kept0 g1
  clear gA gB gC g1 bD bT
  generalize ((w1.alloc (.cells #[.slice none 0 0] 43)).alloc (.cells #[.slice A n c, .int .i64 x] 24)).alloc (.cells #[.int .i64 (t : Int)] 3) = W5 at *
  generalize hq5 : w1.heap.size = q5 at *
  obtain ⟨i0, hi0, hz0, hz1, hz2⟩ := info_parts infoI
  refine wpIn_range_box (α := Fin n) rfl (by omega) (gf := 63) (lb := #[.pointer (some ⟨q5 + 1 + 1, 0, none⟩), .pointer (some ⟨q5 + 1, 0, none⟩)]) rfl trivial (enters_of Try.func63 (by kernel_rfl) rfl)
    (below_stops 4 (by omega) (q5 + 1) (q5 + 1 + 1) w.heap.size (q5 + 3) q5 A n c x t ht L W5 bDD bTT (by omega) (by omega) (by omega) (by omega) (by omega) (hNh.out.grown0 hg5) (by omega) (by omega)) (fun _ => rfl)
    (fun h k => h.trans k) (fun W l o o' hl ho hc hw => stay_b (w := W5) (by omega) W l o o' hl ho hc hw) (fun A B hA hg => Stay.grown hg (by omega) (fun b e => by cases e))
    (fun pre W => ∃ A' c', Row W q5 43 #[.slice A' (kidsF L t (pre.map Fin.val)).length c'] ∧ (Own W (q5 + 3) 3 1 A' (kidsF L t (pre.map Fin.val)).length c' ((kidsF L t (pre.map Fin.val)).map intV) ∧ pre.length ≤ n) ∧ Stay (q5 + 3) q5 W5 W)
    (fun c pre W => False)
    (fun i b W => Row W b 32 (nd L i.val).toArray)
    ?hI ?hIx ?hRF ⟨none, 0, b5, ⟨Own.nil_ _ _ _ _ _, by simp⟩, Stay.refl _ _ _⟩ ?act ?assign ?body ?done ?stop
  case assign =>
    intro l i W K hW hK
    have hone := okAll_one (hNh.out.nd_ok i.isLt)
    have hsz : (nd L i.val).toArray.size = 51 := by rw [List.size_toArray]; exact (hNh.out.nd_ok i.isLt).len
    gi_wp2_with (refine wpListIn_fresh bigN rfl rfl rfl rfl (.tmp 7) (.tmp 16) rfl (nd L i.val).toArray hsz (by simpa using hone) rfl rfl ?_; intro W1 hg1 hr1; simp only [Act.put, List.setIfInBounds_toArray, List.set_cons_zero, List.set_cons_succ])
    generalize W.heap.size = b at *
    exact hK b _ hg1 hr1
  case hI =>
    rintro s W W' row ⟨A', c', h1, ⟨h0, hpn⟩, h2⟩ hg hr
    have hne : ∀ b, row = some b → q5 + 3 ≤ b := fun b e => by have := (hr b e).1; omega
    refine ⟨A', c', h1.kept hg (fun e => by have := hne _ e.symm; omega), ⟨h0.grownBy_ hg ?_, hpn⟩, h2.trans (Stay.grown hg (by have := h2.size; omega) (fun b e => .inr (hne b e)))⟩
    cases row with
    | none =>
      by_cases hro : rowOf A' c' = none
      · exact .inl hro
      · exact .inr hro
    | some r =>
      refine .inr fun e => ?_
      obtain ⟨_, ob, hob, hoc⟩ := hr r rfl
      obtain ⟨cur, hcur⟩ := Own.row_of h0 e
      rw [hcur] at hob
      cases hob
      simp [Obj.isCells] at hoc
  case hIx => exact fun c s W W' row h _ _ => h
  case hRF =>
    rintro i b W W' row hr hg hrow
    refine hr.kept hg (fun e => ?_)
    obtain ⟨_, ob, hob, hoc⟩ := hrow b e.symm
    rw [hr] at hob
    cases hob
    simp [Obj.isCells] at hoc
  case body =>
    rintro l pre i b W ⟨A', c', h1, ⟨h0, hpn⟩, h2⟩ hlen hrb
    have hi := i.isLt
    have hsn := Lib.hid (kidsF_snoc L t i.val (pre.map Fin.val))
    have hnodes := h2.nodes (hNh.out.grown0 hg5) (by omega) (by omega)
    have hokI := hNh.out.nd_ok hi
    have hkl : (kidsF L t (pre.map Fin.val)).length ≤ n := by
      unfold kidsF
      exact Nat.le_trans (List.length_filter_le _ _) (by simpa using hpn)
    have hDW := h2.row bD5 (by omega) (by omega)
    have hTW := h2.row bT5 (by omega) (by omega)
    obtain ⟨ad, rfl, _⟩ := hnodes.some_ ht
    have c0 : W.cell? ⟨w.heap.size, 0, none⟩ = some (.slice (some ad) n c) := hDW.at 0
    have c1 : W.cell? ⟨w.heap.size + 1, 0, none⟩ = some (.int .i64 (t : Int)) := hTW.at 0
    have c2 := hnodes.dep_ ht
    have c3 : W.cell? ⟨b, 1, none⟩ = some (.int .i64 (dp L i.val)) := (row_node hrb hokI).2.1
    have b1 := hdp t ht
    have b2 := hdp i.val hi
    have hsub : IntKind.i64.wrap (dp L i.val - 1) = dp L i.val - 1 := by rw [IntKind.wrap_i64]; omega
    have h1' := Lib.hid h1
    have h0' := Lib.hid h0
    have h2' := Lib.hid h2
    have hbd : (dp L i.val - 1 == dp L t) = decide (dp L i.val = dp L t + 1) := by
      rw [Bool.eq_iff_iff]; simp; omega
    have hbd' := Lib.hid hbd
    clear hDW hTW hnodes hokI hrb h1 h0 h2 hbd
    generalize kidsF L t (pre.map Fin.val) = kl at *
    obtain ⟨dt, hdt⟩ : ∃ d, d = dp L t := ⟨_, rfl⟩
    obtain ⟨di, hdi⟩ : ∃ d, d = dp L i.val := ⟨_, rfl⟩
    have hdt' := Lib.hid hdt
    have hdi' := Lib.hid hdi
    rw [← hdt] at c2 b1 hbd'
    rw [← hdi] at c3 b2 hbd' hsub
    clear hdt hdi
    cases hq : (di - 1 == dt) with
    | false =>
      have hks := Lib.hid (show kidsF L t (pre.map Fin.val ++ [i.val]) = kl by
        have e1 := hsn.out
        have e2 := hbd'.out
        rw [hq, hdt'.out] at e2
        rw [e1, ← hdi'.out, if_neg (of_decide_eq_false e2.symm)])
      gi_wp2
      refine wpIn_region_quiet_round rfl (by kernel_rfl) (by kernel_rfl) (by kernel_rfl) ?_
      repeat (gi_big_quiet_step (fail))
      refine wpQuietIn_nil ?_
      intro _ hw'
      obtain ⟨nq, hw''⟩ := hw'
      subst hw''
      gi_wp2
      have hgd : W.grownBy (W.drewN nq) none := grown_drewN (World.grownBy.refl _ none) nq
      refine ⟨KeepsOthers.of_grownBy hgd (fun j o e => by cases e), Stay.grown hgd (by have := h2'.out.size; omega) (fun b e => by cases e), A', c', ?_, ⟨?_, by rw [List.length_append]; simp; omega⟩, h2'.out.trans (Stay.grown hgd (by have := h2'.out.size; omega) (fun b e => by cases e))⟩
      · rw [List.map_append, List.map_singleton, hks.out]; exact h1'.out.kept0 hgd
      · rw [List.map_append, List.map_singleton, hks.out]; exact h0'.out.grown0 hgd
    | true =>
      have hks := Lib.hid (show kidsF L t (pre.map Fin.val ++ [i.val]) = kl ++ [i.val] by
        have e1 := hsn.out
        have e2 := hbd'.out
        rw [hq, hdt'.out] at e2
        rw [e1, ← hdi'.out, if_pos (of_decide_eq_true e2.symm)])
      gi_wp2
      refine wpIn_region_quiet_round rfl (by kernel_rfl) (by kernel_rfl) (by kernel_rfl) ?_
      repeat (gi_big_quiet_step (fail))
      refine wpQuietIn_nil ?_
      intro _ hw'
      obtain ⟨nq, hw''⟩ := hw'
      subst hw''
      have hgd : W.grownBy (W.drewN nq) none := grown_drewN (World.grownBy.refl _ none) nq
      have hgb := World.grownBy_alloc (W.drewN nq) (.cells #[.int .i64 (i.val : Int)] 3) none
      have hRd := Reads.one_ (W.drewN nq) 3 (.int .i64 (i.val : Int))
      have k5 : (W.drewN nq).cell? ⟨q5, 0, none⟩ = some (.slice A' kl.length c') := (h1'.out.kept0 hgd).at 0
      have hwn : W.heap.size = (W.drewN nq).heap.size := rfl
      have hoA := Lib.hid ((h0'.out.grown0 hgd).grown0 hgb)
      have h1A := Lib.hid ((h1'.out.kept0 hgd).kept0 hgb)
      have hgW := Lib.hid (grown_trans hgd hgb)
      have hRd' := Lib.hid hRd
      have hlt5 : q5 + 3 ≤ W.heap.size := by have := h2'.out.size; omega
      clear hRd c0 c1 c2 c3 hgd hgb
      generalize W.drewN nq = wd at *
      have hKeep := Lib.hid (fun w6 (hg6 : (wd.alloc (.cells #[.int .i64 (i.val : Int)] 3)).grownBy w6 (rowOf A' c')) => Row.keptOwn h1A.out hoA.out (by decide) hg6)
      have hbase : q5 + 3 ≤ (wd.alloc (.cells #[.int .i64 (i.val : Int)] 3)).heap.size := by have := hgW.out.size; omega
      have hm1 := Lib.hid (show kl.length + 1 ≤ maxLen by simp only [maxLen]; omega)
      gi_wp2_with (gi_at_builtin; refine wpListIn_append_Own rfl (.tmp 27) (.tmp 29) 43 rfl (q5 + 3) 3 i0 _ 1 8 Try.underlying43 hi0 hz0 hz1 hz2 rfl (by omega) A' kl.length c' (kl.map intV) rfl hoA.out (some ⟨wd.heap.size, 0, none⟩) 1 1 _ [.int .i64 (i.val : Int)] rfl rfl hRd'.out (by simp [Value.oneCell']) hm1.out (by omega) hbase ?_; intro A2 c2 w6 h6 hg6 _; have k6 := hKeep.out _ hg6; have f6 := k6.free 0; have z6 : w6.cell? ⟨q5, 0, none⟩ = some (.slice A' kl.length c') := k6.at 0)
      have hgA := hoA.out.row_ge
      have hgS := grownBy_setCell w6 q5 0 (.slice A2 (kl.length + 1) c2)
      have hgWs := hgW.out.size
      refine ⟨?_, ?_, A2, c2, ?_, ⟨?_, by rw [List.length_append]; simp; omega⟩, ?_⟩
      · refine ((KeepsOthers.of_grownBy hgW.out (fun j o e => by cases e)).trans (KeepsOthers.of_grownBy hg6 (fun j o e ho => ?_))).trans (KeepsOthers.setCell _ _ _)
        obtain ⟨cur, hcur⟩ := Own.row_of hoA.out e
        rw [ho] at hcur
        cases hcur
        rfl
      · refine ((Stay.grown hgW.out (by omega) (fun b e => by cases e)).trans (Stay.grown hg6 hbase (fun b e => .inr (hgA b e).1))).trans (Stay.grown hgS (by have := hg6.size; omega) (fun b e => .inl (by cases e; rfl)))
      · rw [List.map_append, List.map_singleton, hks.out, List.length_append]
        simpa using k6.set 0 (.slice A2 (kl.length + 1) c2)
      · rw [List.map_append, List.map_singleton, hks.out, List.map_append, List.length_append]
        refine Own.grownBy_ h6 hgS ?_
        refine .inr fun e => ?_
        obtain ⟨cur, hcur⟩ := Own.row_of h6 e
        unfold Row at k6
        rw [k6] at hcur
        cases hcur
      · exact h2'.out.trans (((Stay.grown hgW.out (by omega) (fun b e => by cases e)).trans (Stay.grown hg6 hbase (fun b e => .inr (hgA b e).1))).trans (Stay.grown hgS (by have := hg6.size; omega) (fun b e => .inl (by cases e; rfl))))
  case done =>
    rintro D ys W hD hys ⟨A', c', h1, ⟨h0, hpn⟩, h2⟩ hK
    rw [hys, kidsF_below] at h1 h0
    have c5 := h1.at 0
    simp only [List.getElem?_toArray, List.getElem?_cons_zero] at c5
    gi_wp2
    refine ⟨by simp, .inl ⟨_, _, rfl, run_takeDeferred hK, ?_⟩⟩
    have hgp := grownBy_putObj' W D (.deferred none)
    refine ⟨.slice A' (kidsN (dp L) n t).length c', by simp [results, Try.f53, go_sem], ⟨A', c', rfl, (h0.base_ (by omega)).grownBy_ hgp ?_, (h2.trans (stay_b (w := W5) (by omega) W D _ _ hD hK rfl rfl)).toGrown hg5 (by omega) (by omega)⟩⟩
    refine .inr fun e => ?_
    obtain ⟨cur, hcur⟩ := Own.row_of h0 e
    rw [hK] at hcur
    cases hcur
  case stop => exact fun D c pre W hD _ h hK => h.elim
end Go.Proofs.Ytjnbfgogmhfbiaa
