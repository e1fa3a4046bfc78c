/- style.Edges, content, limits, Width, Widths, Height, Heights, Font. -/
import Derived.Test.YtjaeoaebkkmaaaaSt
import Derived.Test.YtjaeoaebkkmaaaaWk1
import Derived.OwnWalk
import Derived.Deep.RegionHeld3
import Derived.KernelRfl
namespace Go.Proofs.Ytjaeoaebkkmaaaa
open Go Go.RowKit
set_option linter.unusedSimpArgs false
theorem load_sty {ops : Array Oper} {rest : List Oper} {o : Oper} {a : Act} {w : World} {Q : Exit → Act → World → Prop} {s : Sty} {g : Nat} (hh : Held w g s) (hgd : o.guard = none) (x : Operand) (ho : o.op = .load 39 x)
    (hx : a.eval x = .pointer (some ⟨g, 0, none⟩)) (h : wpList Try.prog ops Q rest (a.put o.dst (.agg s.cells)) w) : wpList Try.prog ops Q (o :: rest) a w :=
  wpList_load_row hgd 39 x ho g hx 39 s.cells (0, 0) _ hh rfl rfl rfl h
theorem yields_sty {ops : Array Oper} {o : Oper} {a : Act} {s : Sty} {g : Nat} (hw : Region.wanted o (yielded ops a.tmps) = true) (x : Operand) (ho : o.op = .load 39 x)
    (hx : a.eval x = .pointer (some ⟨g, 0, none⟩)) : YieldsIf Try.prog ops (fun w => Held w g s) o (.agg s.cells) a :=
  .inl ⟨hw, fun w hS => by
    unfold execOp
    simp only [ho, hx, Instr.loadAt, Instr.sureAddr, Sem.run_bind, Sem.run_pure, Result.andThen_ok, run_loadVar_row (P := Try.prog) w g 39 39 s.cells (0, 0) _ hS rfl rfl rfl]⟩
def acrossV (s : Sty) : Int := s.n 25 + s.n 29 + s.n 23 + s.n 27
def upV (s : Sty) : Int := s.n 22 + s.n 26 + s.n 24 + s.n 28
def edgesV (s : Sty) : Value := if mayB s then .tuple #[.int .i64 (acrossV s), .int .i64 (upV s), .int .i64 0] else .tuple #[.int .i64 0, .int .i64 0, .int .i64 60]
structure Pads (s : Sty) : Prop where
  b22 : 0 ≤ s.n 22 ∧ s.n 22 ≤ 274877906944
  b23 : 0 ≤ s.n 23 ∧ s.n 23 ≤ 274877906944
  b24 : 0 ≤ s.n 24 ∧ s.n 24 ≤ 274877906944
  b25 : 0 ≤ s.n 25 ∧ s.n 25 ≤ 274877906944
  b26 : 0 ≤ s.n 26 ∧ s.n 26 ≤ 274877906944
  b27 : 0 ≤ s.n 27 ∧ s.n 27 ≤ 274877906944
  b28 : 0 ≤ s.n 28 ∧ s.n 28 ≤ 274877906944
  b29 : 0 ≤ s.n 29 ∧ s.n 29 ≤ 274877906944
theorem Pads.of {s : Sty} (h : mayB s = true) : Pads s := by
  simp only [mayB, r6, side, amongB, Bool.and_eq_true, decide_eq_true_eq] at h
  obtain ⟨_, _, _, _, _, ⟨⟨_, h22, h26⟩, ⟨_, h23, h27⟩, ⟨_, h24, h28⟩, _, h25, h29⟩, _⟩ := h
  exact ⟨h22, h23, h24, h25, h26, h27, h28, h29⟩
theorem acrossV_bounds {s : Sty} (h : mayB s = true) : 0 ≤ acrossV s ∧ acrossV s ≤ 1099511627776 := by
  have p := Pads.of h
  have := p.b25; have := p.b29; have := p.b23; have := p.b27
  unfold acrossV
  omega
theorem upV_bounds {s : Sty} (h : mayB s = true) : 0 ≤ upV s ∧ upV s ≤ 1099511627776 := by
  have p := Pads.of h
  have := p.b22; have := p.b26; have := p.b24; have := p.b28
  unfold upV
  omega
set_option maxHeartbeats 1000000 in
set_option maxRecDepth 100000 in
theorem edges_yes (s : Sty) (w : World) (hs : s.ok) (hm : mayB s = true) :
    Calls Try.prog 24 #[.agg s.cells] w fun e w' => e = .returned (.tuple #[.int .i64 (acrossV s), .int .i64 (upV s), .int .i64 0]) ∧ w.grownBy w' none := by
  obtain ⟨b22, b23, b24, b25, b26, b27, b28, b29⟩ := Pads.of hm
  unfold acrossV upV
  have CA := Lib.hid (fun W => both_across s W b25 b29 b23 b27)
  have CU := Lib.hid (fun W => both_up s W b22 b26 b24 b28)
  have CM := Lib.hid (fun W => may_any s W hs)
  rw [hm] at CM
  clear hm b25 b29 b23 b27 b22 b26 b24 b28
  generalize s.n 25 + s.n 29 + s.n 23 + s.n 27 = A at *
  generalize s.n 22 + s.n 26 + s.n 24 + s.n 28 = U at *
  go_enter Try.func24, Try.ntmps24
  have hh := Held.new w s
  have hg := World.grownBy_alloc w (.cells s.cells 39) none
  go_wp2_with (refine load_sty hh rfl _ rfl rfl ?_)
  refine (CM.out _).mono ?_; rintro e w1 ⟨rfl, hx⟩
  have hg := grown_trans hg hx
  have hh := hh.grown hx
  clear hx
  go_wp2_with fail
  have hgW := Lib.hid hg
  clear hg
  generalize w.heap.size = B at *
  refine wp_region_held_drew (S := fun w' => Held w' B s) (by kernel_rfl) hh (fun hHeld => ?_)
  refine wpAnyH_take (i := 0) rfl (by kernel_rfl) (by kernel_rfl) (by kernel_rfl) (fun _ _ _ h => h) (yields_sty (by rfl) _ rfl rfl) hHeld ?_
  try simp only [Act.put, List.setIfInBounds_toArray, List.set_cons_zero, List.set_cons_succ]
  refine wpAnyH_take (i := 2) rfl (by kernel_rfl) (by kernel_rfl) (by kernel_rfl) (fun _ _ _ h => h) (yields_sty (by rfl) _ rfl rfl) hHeld ?_
  try simp only [Act.put, List.setIfInBounds_toArray, List.set_cons_zero, List.set_cons_succ]
  refine wpAnyH_ready (rs := [1]) (by kernel_rfl) (by simp) ?_
  refine AllReadyH.cons rfl (fun K hK => ?_) AllReadyH.nil
  go_simp
  refine (CA.out _).mono ?_; rintro e w2 ⟨rfl, hx2⟩
  refine hK.out _ _ (Held.grown hHeld hx2) (fun hHeld2 => ?_)
  clear hK K hHeld
  try simp only [Act.put, List.setIfInBounds_toArray, List.set_cons_zero, List.set_cons_succ]
  refine wpAnyH_ready (rs := [3]) (by kernel_rfl) (by simp) ?_
  refine AllReadyH.cons rfl (fun K hK => ?_) AllReadyH.nil
  go_simp
  refine (CU.out _).mono ?_; rintro e w3 ⟨rfl, hx3⟩
  refine hK.out _ _ (Held.grown hHeld2 hx3) (fun hHeld3 => ?_)
  clear hK K hHeld2
  try simp only [Act.put, List.setIfInBounds_toArray, List.set_cons_zero, List.set_cons_succ]
  refine wpAnyH_ready (rs := [4]) (by kernel_rfl) (by simp) ?_
  refine AllReadyH.cons rfl (fun K hK => ?_) AllReadyH.nil
  go_simp
  refine hK.out _ _ hHeld3 (fun hHeld3 => ?_)
  clear hK K
  try simp only [Act.put, List.setIfInBounds_toArray, List.set_cons_zero, List.set_cons_succ]
  refine wpAnyH_ready (rs := [5]) (by kernel_rfl) (by simp) ?_
  refine AllReadyH.cons rfl (fun K hK => ?_) AllReadyH.nil
  go_simp
  refine hK.out _ _ hHeld3 (fun hHeld3 => ?_)
  clear hK K
  try simp only [Act.put, List.setIfInBounds_toArray, List.set_cons_zero, List.set_cons_succ]
  refine wpAnyH_ready (rs := [6]) (by kernel_rfl) (by simp) ?_
  refine AllReadyH.cons rfl (fun K hK => ?_) AllReadyH.nil
  go_simp
  refine hK.out _ _ hHeld3 (fun hHeld3 => ?_)
  clear hK K
  try simp only [Act.put, List.setIfInBounds_toArray, List.set_cons_zero, List.set_cons_succ]
  refine wpAnyH_done (by kernel_rfl) ?_ _
  go_wp2
  go_ret3
  exact ⟨rfl, grown_trans (grown_drew hgW.out) (grown_trans hx2 hx3)⟩
set_option maxHeartbeats 1000000 in
theorem edges_any (s : Sty) (w : World) (hs : s.ok) :
    Calls Try.prog 24 #[.agg s.cells] w fun e w' => e = .returned (edgesV s) ∧ w.grownBy w' none := by
  cases hm : mayB s with
  | true => exact (edges_yes s w hs hm).mono fun e w' h => ⟨by rw [h.1]; unfold edgesV; rw [if_pos hm], h.2⟩
  | false =>
    have hv := Lib.hid (show edgesV s = .tuple #[.int .i64 0, .int .i64 0, .int .i64 60] by unfold edgesV; rw [if_neg (by simp [hm])])
    have CM := Lib.hid (fun W => may_any s W hs)
    rw [hm] at CM
    clear hm
    go_enter Try.func24, Try.ntmps24
    have hh := Held.new w s
    go_wp2_with (refine load_sty hh rfl _ rfl rfl ?_)
    refine (CM.out _).mono ?_; rintro e w1 ⟨rfl, hx⟩
    go_wp2
    go_ret3
    exact ⟨by rw [hv.out]; rfl, grown_trans (World.grownBy_alloc _ _ _) hx⟩
theorem resV_bound (k n of : Int) : -1099511627776 ≤ (resV k n of).n ∧ (resV k n of).n ≤ 1099511627776 := by
  unfold resV
  split
  · split
    · simp
    · rename_i h; exact far_false.1 (by simpa using h)
  split
  · unfold partV
    split
    · simp
    split
    · simp
    split
    · simp
    · rename_i h; exact far_false.1 (by simpa using h)
  · simp
/-- A length as a content's size. -/
def contV (wh : Bool) (k n of ed : Int) : Got :=
  if (resV k n of).is && wh then ⟨max 0 ((resV k n of).n - ed), (resV k n of).is, (resV k n of).e⟩ else resV k n of
set_option maxHeartbeats 1000000 in
theorem content_any (s : Sty) (k n of ed : Int) (w : World) (k1 : 0 ≤ k ∧ k ≤ 255) (h1 : -9223372036854775808 ≤ n ∧ n ≤ 9223372036854775807) (h3 : -9223372036854775808 ≤ of ∧ of ≤ 9223372036854775807) (he : 0 ≤ ed ∧ ed ≤ 1099511627776) :
    Calls Try.prog 38 #[.agg s.cells, len2 k n, .int .i64 of, .int .i64 ed] w fun e w' => e = .returned (contV (s.b 1) k n of ed).val ∧ w.grownBy w' none := by
  have CR := Lib.hid (fun W => resolve_any k n of W k1.1 k1.2 h1.1 h1.2 h3.1 h3.2)
  have hb := resV_bound k n of
  have hv := Lib.hid (show contV (s.b 1) k n of ed = if (resV k n of).is && (s.b 1) then ⟨max 0 ((resV k n of).n - ed), (resV k n of).is, (resV k n of).e⟩ else resV k n of from rfl)
  have c1 := s.c1
  generalize resV k n of = g at *
  generalize s.b 1 = wh at *
  obtain ⟨m, is, er⟩ := g
  unfold Got.val at CR
  unfold len2 at *
  dsimp only at hb CR
  clear k1 h1 h3
  go_enter Try.func38, Try.ntmps38
  go_wp2_with fail
  refine (CR.out _).mono ?_; rintro e w1 ⟨rfl, hx⟩
  have hG : w.grownBy w1 none := grown_trans (World.grownBy_alloc _ _ _) (grown_trans (World.grownBy_alloc _ _ _) hx)
  have hw := (((Held.new w s).grown (World.grownBy_alloc _ (.cells #[.int .u8 k, .int .i64 n] 35) _)).grown hx).at 1 |>.trans c1
  clear hx
  cases is with
  | false =>
    go_wp2
    go_ret3
    exact ⟨by rw [hv.out]; rfl, hG⟩
  | true =>
    cases wh with
    | false =>
      go_wp2
      go_ret3
      exact ⟨by rw [hv.out]; rfl, hG⟩
    | true =>
      go_wp2
      all_goals
        go_ret3
        first
        | exact ⟨by rw [show contV true k n of ed = ⟨m - ed, true, er⟩ by rw [hv.out]; simp; omega]; rfl, hG⟩
        | exact ⟨by rw [show contV true k n of ed = ⟨0, true, er⟩ by rw [hv.out]; simp; omega]; rfl, hG⟩
structure Three where
  a : Int
  b : Int
  e : Int
def Three.val (t : Three) : Value := .tuple #[.int .i64 t.a, .int .i64 t.b, .int .i64 t.e]
/-- The least and the most. -/
def limV (wh : Bool) (k1 n1 k2 n2 of ed : Int) : Three :=
  if (contV wh k1 n1 of ed).e != 0 then ⟨0, 0, (contV wh k1 n1 of ed).e⟩
  else if (contV wh k2 n2 of ed).e != 0 then ⟨0, 0, (contV wh k2 n2 of ed).e⟩
  else ⟨(contV wh k1 n1 of ed).n, if (contV wh k2 n2 of ed).is then (contV wh k2 n2 of ed).n else 1099511627776, 0⟩
set_option maxHeartbeats 1000000 in
theorem limits_any (s : Sty) (k1 n1 k2 n2 of ed : Int) (w : World) (hk1 : 0 ≤ k1 ∧ k1 ≤ 255) (hn1 : -9223372036854775808 ≤ n1 ∧ n1 ≤ 9223372036854775807) (hk2 : 0 ≤ k2 ∧ k2 ≤ 255) (hn2 : -9223372036854775808 ≤ n2 ∧ n2 ≤ 9223372036854775807)
    (h3 : -9223372036854775808 ≤ of ∧ of ≤ 9223372036854775807) (he : 0 ≤ ed ∧ ed ≤ 1099511627776) :
    Calls Try.prog 39 #[.agg s.cells, len2 k1 n1, len2 k2 n2, .int .i64 of, .int .i64 ed] w fun e w' => e = .returned (limV (s.b 1) k1 n1 k2 n2 of ed).val ∧ w.grownBy w' none := by
  have C1 := Lib.hid (fun W => content_any s k1 n1 of ed W hk1 hn1 h3 he)
  have C2 := Lib.hid (fun W => content_any s k2 n2 of ed W hk2 hn2 h3 he)
  have hv := Lib.hid (show limV (s.b 1) k1 n1 k2 n2 of ed = if (contV (s.b 1) k1 n1 of ed).e != 0 then ⟨0, 0, (contV (s.b 1) k1 n1 of ed).e⟩ else if (contV (s.b 1) k2 n2 of ed).e != 0 then ⟨0, 0, (contV (s.b 1) k2 n2 of ed).e⟩ else ⟨(contV (s.b 1) k1 n1 of ed).n, if (contV (s.b 1) k2 n2 of ed).is then (contV (s.b 1) k2 n2 of ed).n else 1099511627776, 0⟩ from rfl)
  generalize contV (s.b 1) k1 n1 of ed = g1 at *
  generalize contV (s.b 1) k2 n2 of ed = g2 at *
  obtain ⟨m1, i1, e1⟩ := g1
  obtain ⟨m2, i2, e2⟩ := g2
  unfold Got.val at C1 C2
  unfold len2 at *
  dsimp only at C1 C2
  clear hk1 hn1 hk2 hn2 h3 he
  go_enter Try.func39, Try.ntmps39
  have hh := ((Held.new w s).grown (World.grownBy_alloc _ (.cells #[.int .u8 k1, .int .i64 n1] 35) _)).grown (World.grownBy_alloc _ (.cells #[.int .u8 k2, .int .i64 n2] 35) _)
  go_wp2_with (refine load_sty hh rfl _ rfl rfl ?_)
  refine (C1.out _).mono ?_; rintro e w1 ⟨rfl, hx⟩
  have hG : w.grownBy w1 none := grown_trans (World.grownBy_alloc _ _ _) (grown_trans (World.grownBy_alloc _ _ _) (grown_trans (World.grownBy_alloc _ _ _) hx))
  have hh1 := hh.grown hx
  obtain ⟨hc, hf⟩ := sty_cells hx
  clear hx hh
  simp only [World.size_alloc] at hc hf
  by_cases z1 : e1 = 0
  · have z1' : (e1 != 0) = false := by simp [z1]
    rw [z1'] at hv
    go_wp2_with (refine load_sty hh1 rfl _ rfl rfl ?_)
    refine (C2.out _).mono ?_; rintro e w2 ⟨rfl, hx2⟩
    by_cases z2 : e2 = 0
    · have z2' : (e2 != 0) = false := by simp [z2]
      rw [z2'] at hv
      cases i2 with
      | false =>
        go_wp2
        go_ret3
        exact ⟨by rw [hv.out]; rfl, grown_trans hG hx2⟩
      | true =>
        go_wp2
        go_ret3
        exact ⟨by rw [hv.out]; rfl, grown_trans hG hx2⟩
    · have z2' : (e2 != 0) = true := by simp [z2]
      rw [z2'] at hv
      clear z2
      go_wp2
      go_ret3
      exact ⟨by rw [hv.out]; rfl, grown_trans hG hx2⟩
  · have z1' : (e1 != 0) = true := by simp [z1]
    rw [z1'] at hv
    clear z1
    go_wp2
    go_ret3
    exact ⟨by rw [hv.out]; rfl, hG⟩
def widthV (s : Sty) (of : Int) : Got := if mayB s then contV (s.b 1) (s.n 2) (s.n 3) of (acrossV s) else ⟨0, false, 60⟩
def widthsV (s : Sty) (of : Int) : Three := if mayB s then limV (s.b 1) (s.n 4) (s.n 5) (s.n 6) (s.n 7) of (acrossV s) else ⟨0, 0, 60⟩
set_option maxHeartbeats 1000000 in
theorem width_any (s : Sty) (of : Int) (w : World) (hs : s.ok) (h3 : -9223372036854775808 ≤ of ∧ of ≤ 9223372036854775807) :
    Calls Try.prog 25 #[.agg s.cells, .int .i64 of] w fun e w' => e = .returned (widthV s of).val ∧ w.grownBy w' none := by
  have CE := Lib.hid (fun W => edges_any s W hs)
  cases hm : mayB s with
  | true =>
    have hv := Lib.hid (show widthV s of = contV (s.b 1) (s.n 2) (s.n 3) of (acrossV s) by unfold widthV; rw [if_pos hm])
    have he : edgesV s = .tuple #[.int .i64 (acrossV s), .int .i64 (upV s), .int .i64 0] := by unfold edgesV; rw [if_pos hm]
    rw [he] at CE
    have CC := Lib.hid (fun W => content_any s (s.n 2) (s.n 3) of (acrossV s) W (Sty.b2 hs) (Sty.b3 hs) h3 (acrossV_bounds hm))
    have c2 := s.c2
    have c3 := s.c3
    generalize contV (s.b 1) (s.n 2) (s.n 3) of (acrossV s) = g at *
    obtain ⟨m, is, er⟩ := g
    unfold Got.val at CC
    unfold len2 at CC
    dsimp only at CC
    clear he hm h3
    generalize acrossV s = ac at *
    generalize upV s = up at *
    go_enter Try.func25, Try.ntmps25
    have hh := Held.new w s
    go_wp2_with (refine load_sty hh rfl _ rfl rfl ?_)
    refine (CE.out _).mono ?_; rintro e w1 ⟨rfl, hx⟩
    have hG : w.grownBy w1 none := grown_trans (World.grownBy_alloc _ _ _) hx
    have hh1 := hh.grown hx
    have k2 := (hh1.at 2).trans c2
    have k3 := (hh1.at 3).trans c3
    clear hh hx
    go_wp2_with (refine load_sty hh1 rfl _ rfl rfl ?_)
    refine (CC.out _).mono ?_; rintro e w2 ⟨rfl, hx⟩
    go_wp2
    go_ret3
    exact ⟨by rw [hv.out]; rfl, grown_trans hG hx⟩
  | false =>
    have hv := Lib.hid (show widthV s of = ⟨0, false, 60⟩ by unfold widthV; rw [if_neg (by simp [hm])])
    have he : edgesV s = .tuple #[.int .i64 0, .int .i64 0, .int .i64 60] := by unfold edgesV; rw [if_neg (by simp [hm])]
    rw [he] at CE
    clear he hm
    go_enter Try.func25, Try.ntmps25
    have hh := Held.new w s
    go_wp2_with (refine load_sty hh rfl _ rfl rfl ?_)
    refine (CE.out _).mono ?_; rintro e w1 ⟨rfl, hx⟩
    go_wp2
    go_ret3
    exact ⟨by rw [hv.out]; rfl, grown_trans (World.grownBy_alloc _ _ _) hx⟩
set_option maxHeartbeats 1000000 in
theorem widths_any (s : Sty) (of : Int) (w : World) (hs : s.ok) (h3 : -9223372036854775808 ≤ of ∧ of ≤ 9223372036854775807) :
    Calls Try.prog 26 #[.agg s.cells, .int .i64 of] w fun e w' => e = .returned (widthsV s of).val ∧ w.grownBy w' none := by
  have CE := Lib.hid (fun W => edges_any s W hs)
  cases hm : mayB s with
  | true =>
    have hv := Lib.hid (show widthsV s of = limV (s.b 1) (s.n 4) (s.n 5) (s.n 6) (s.n 7) of (acrossV s) by unfold widthsV; rw [if_pos hm])
    have he : edgesV s = .tuple #[.int .i64 (acrossV s), .int .i64 (upV s), .int .i64 0] := by unfold edgesV; rw [if_pos hm]
    rw [he] at CE
    have CC := Lib.hid (fun W => limits_any s (s.n 4) (s.n 5) (s.n 6) (s.n 7) of (acrossV s) W (Sty.b4 hs) (Sty.b5 hs) (Sty.b6 hs) (Sty.b7 hs) h3 (acrossV_bounds hm))
    have c4 := s.c4
    have c5 := s.c5
    have c6 := s.c6
    have c7 := s.c7
    generalize limV (s.b 1) (s.n 4) (s.n 5) (s.n 6) (s.n 7) of (acrossV s) = g at *
    obtain ⟨m, is, er⟩ := g
    unfold Three.val at CC
    unfold len2 at CC
    dsimp only at CC
    clear he hm h3
    generalize acrossV s = ac at *
    generalize upV s = up at *
    go_enter Try.func26, Try.ntmps26
    have hh := Held.new w s
    go_wp2_with (refine load_sty hh rfl _ rfl rfl ?_)
    refine (CE.out _).mono ?_; rintro e w1 ⟨rfl, hx⟩
    have hG : w.grownBy w1 none := grown_trans (World.grownBy_alloc _ _ _) hx
    have hh1 := hh.grown hx
    have k4 := (hh1.at 4).trans c4
    have k5 := (hh1.at 5).trans c5
    have k6 := (hh1.at 6).trans c6
    have k7 := (hh1.at 7).trans c7
    clear hh hx
    go_wp2_with (refine load_sty hh1 rfl _ rfl rfl ?_)
    refine (CC.out _).mono ?_; rintro e w2 ⟨rfl, hx⟩
    go_wp2
    go_ret3
    exact ⟨by rw [hv.out]; rfl, grown_trans hG hx⟩
  | false =>
    have hv := Lib.hid (show widthsV s of = ⟨0, 0, 60⟩ by unfold widthsV; rw [if_neg (by simp [hm])])
    have he : edgesV s = .tuple #[.int .i64 0, .int .i64 0, .int .i64 60] := by unfold edgesV; rw [if_neg (by simp [hm])]
    rw [he] at CE
    clear he hm
    go_enter Try.func26, Try.ntmps26
    have hh := Held.new w s
    go_wp2_with (refine load_sty hh rfl _ rfl rfl ?_)
    refine (CE.out _).mono ?_; rintro e w1 ⟨rfl, hx⟩
    go_wp2
    go_ret3
    exact ⟨by rw [hv.out]; rfl, grown_trans (World.grownBy_alloc _ _ _) hx⟩
end Go.Proofs.Ytjaeoaebkkmaaaa
