/- The mutations: move. -/
import Derived.Test.YtjnbfgogmhfbiaaVj
import Derived.Deep.DrawnRows
namespace Go.Proofs.Ytjnbfgogmhfbiaa
open Go Go.RowKit
theorem gapYes_one {L : List (List Value)} {par num : Int} {u k u' k' : Nat} (h : GapYes L par num u k) (h' : GapYes L par num u' k') : u = u' ∧ k = k' := by
  obtain ⟨h1, _, _, h2, _⟩ := h
  obtain ⟨g1, _, _, g2, _⟩ := h'
  omega
theorem gap_yes {A : Option Addr} {n c : Nat} {L : List (List Value)} {x parent number : Int} {w : World} (hN : NodesAt w w.heap.size A n L) (hdp : ∀ i, i < n → -1 ≤ dp L i ∧ dp L i ≤ 1000) {u k : Nat} (hy : GapYes L parent number u k) :
    Calls Try.prog 38 #[.agg #[.slice A n c, .int .i64 x], .int .i64 parent, .int .i64 number] w fun r w' => r = .returned (.tuple #[.int .i64 (gapAt L u k : Int), .int .i64 (dp L u + 1)]) ∧ w.grownBy w' none :=
  (gap_any A n c L x parent number w hN hdp).mono fun r w' h => by
    rcases h with ⟨⟨u', k', h1, h2⟩ | ⟨h1, _⟩, hg⟩
    · obtain ⟨rfl, rfl⟩ := gapYes_one hy h1
      exact ⟨h2, hg⟩
    · exact absurd ⟨u, k, hy⟩ h1
theorem gap_no {A : Option Addr} {n c : Nat} {L : List (List Value)} {x parent number : Int} {w : World} (hN : NodesAt w w.heap.size A n L) (hdp : ∀ i, i < n → -1 ≤ dp L i ∧ dp L i ≤ 1000) (hno : ¬ ∃ u k : Nat, GapYes L parent number u k) :
    Calls Try.prog 38 #[.agg #[.slice A n c, .int .i64 x], .int .i64 parent, .int .i64 number] w fun r w' => r = .panicked [{ v := wrongV 70, recovered := false }] ∧ w.grownBy w' none :=
  (gap_any A n c L x parent number w hN hdp).mono fun r w' h => by
    rcases h with ⟨⟨u', k', h1, h2⟩ | ⟨_, h2⟩, hg⟩
    · exact absurd ⟨u', k', h1⟩ hno
    · exact ⟨h2, hg⟩
/-- Where the gap is. -/
theorem kids_lt {L : List (List Value)} {n u j : Nat} (hu : u < n) (hj : j ∈ kidsN (dp L) n u) : u < j ∧ j < endN (dp L) n u := by
  have := (mem_kids hu).1 hj
  omega
theorem gapAt_bounds {L : List (List Value)} {u k : Nat} (hu : u < L.length) : u < gapAt L u k ∧ gapAt L u k ≤ endN (dp L) L.length u ∧ gapAt L u k ≤ L.length := by
  have e1 := endN_gt (d := dp L) hu
  have e2 := endN_le (d := dp L) hu
  unfold gapAt
  cases h : (kidsN (dp L) L.length u)[k]? with
  | none => simp only [Option.getD_none]; omega
  | some j =>
    have := kids_lt hu (List.mem_of_getElem? h)
    simp only [Option.getD_some]
    omega
/-- The first nodes lie deeper by as much. -/
def someDeeper (T : List (List Value)) (d : Int) (k : Nat) : List (List Value) := (T.take k).map (deepen d) ++ T.drop k
theorem someDeeper_zero (T : List (List Value)) (d : Int) : someDeeper T d 0 = T := by simp [someDeeper]
theorem someDeeper_all (T : List (List Value)) (d : Int) : someDeeper T d T.length = T.map (deepen d) := by simp [someDeeper]
theorem someDeeper_len (T : List (List Value)) (d : Int) (k : Nat) : (someDeeper T d k).length = T.length := by simp [someDeeper]; omega
theorem someDeeper_nd (T : List (List Value)) (d : Int) (k : Nat) (hk : k < T.length) : nd (someDeeper T d k) k = nd T k := by
  unfold nd someDeeper
  rw [List.getElem?_append_right (by simp; omega)]
  simp only [List.length_map, List.length_take, List.getElem?_drop]
  rw [show k + (k - min k T.length) = k by omega]
theorem someDeeper_succ (T : List (List Value)) (d : Int) (k : Nat) (hk : k < T.length) : (someDeeper T d k).set k ((nd T k).set 1 (.int .i64 (depN (nd T k) + d))) = someDeeper T d (k + 1) := by
  apply List.ext_getElem?
  intro t
  have hl1 : ((T.take k).map (deepen d)).length = k := by simp; omega
  have hl2 : ((T.take (k + 1)).map (deepen d)).length = k + 1 := by simp; omega
  by_cases ht : t = k
  · subst ht
    rw [List.getElem?_set_self (by rw [someDeeper_len]; exact hk)]
    unfold someDeeper
    rw [List.getElem?_append_left (by omega), List.getElem?_map, List.getElem?_take, if_pos (by omega), nd_get hk]
    rfl
  · rw [List.getElem?_set_ne (Ne.symm ht)]
    unfold someDeeper
    by_cases h : t < k
    · rw [List.getElem?_append_left (by omega), List.getElem?_append_left (by omega), List.getElem?_map, List.getElem?_map, List.getElem?_take, List.getElem?_take, if_pos h, if_pos (by omega)]
    · rw [List.getElem?_append_right (by omega), List.getElem?_append_right (by omega), List.getElem?_drop, List.getElem?_drop, hl1, hl2, show k + (t - k) = t by omega, show k + 1 + (t - (k + 1)) = t by omega]
theorem deepen_ok {y : List Value} (hy : OkAll nodeLs y) {d : Int} (h1 : -9223372036854775808 ≤ depN y + d) (h2 : depN y + d ≤ 9223372036854775807) : OkAll nodeLs (deepen d y) :=
  okAll_set nodeLs y 1 (.int .i64) _ hy rfl ⟨_, rfl, wf_of h1 h2⟩
theorem deeper_ok {T : List (List Value)} (h : ∀ y ∈ T, OkAll nodeLs y) {d : Int} (hd : ∀ y ∈ T, -9223372036854775808 ≤ depN y + d ∧ depN y + d ≤ 9223372036854775807) : ∀ y ∈ T.map (deepen d), OkAll nodeLs y := fun y hy => by
  obtain ⟨z, hz, rfl⟩ := List.mem_map.1 hy
  exact deepen_ok (h z hz) (hd z hz).1 (hd z hz).2
theorem dep_mem {L : List (List Value)} {lo hi : Int} (h : ∀ i, i < L.length → lo ≤ dp L i ∧ dp L i ≤ hi) : ∀ y ∈ L, lo ≤ depN y ∧ depN y ≤ hi := fun y hy => by
  obtain ⟨i, hi, rfl⟩ := List.mem_iff_getElem.1 hy
  have := h i hi
  unfold dp at this
  rwa [nd_some (List.getElem?_eq_getElem hi)] at this
theorem mem_dep {L : List (List Value)} {lo hi : Int} (h : ∀ y ∈ L, lo ≤ depN y ∧ depN y ≤ hi) : ∀ i, i < L.length → lo ≤ dp L i ∧ dp L i ≤ hi := fun i hi => h _ (List.mem_of_getElem? (nd_get hi))
set_option maxRecDepth 100000 in
set_option maxHeartbeats 4000000 in
theorem move_any (B p : Nat) (A : Option Addr) (n k : Nat) (L : List (List Value)) (x : Int) (c : Chg) (w : World) (hD : DocAt w B p A n k L x) (hB : B ≤ w.heap.size) (hc : c.ok) (hdp : ∀ i, i < n → -1 ≤ dp L i ∧ dp L i ≤ 1000) :
    Calls Try.prog 32 #[.pointer (some ⟨p, 0, none⟩), .agg c.cells] w (OpPost w B p (rowOf A k) (moveL L x c.key c.par c.num)) := by
  have hg0 := World.grownBy_alloc w (.cells c.cells 34) none
  have CC := Lib.hid (cut_any B p A n k L x c.key _ (hD.grown hg0) (Nat.le_trans hB hg0.size))
  have hl := hD.len
  have hl' := Lib.hid hl
  have hDlt := hD.two.lt
  have hDrow := hD.own.row_ge
  have hr0 := (chg_box w c).out _ (World.grownBy.refl _ _)
  have hr0' := Lib.hid hr0
  have e1 := hr0.at 1
  rw [Chg.c1] at e1
  have hfew := hD.few
  have hDm := Lib.hid (dep_mem (hl ▸ hdp))
  have hszW := World.size_alloc w (.cells c.cells 34)
  have hg0' := Lib.hid hg0
  have hok := Lib.hid hD.ok
  have hkm : k ≤ 9223372036854775807 := by have := hD.own.2.2.1; unfold maxLen at this; exact this
  have hB' := Lib.hid hB
  clear hD hB hg0 hr0 hdp hl
  go_enter Try.func32, Try.ntmps32
  go_wp2_with fail
  generalize hW0 : w.alloc (.cells c.cells 34) = W0 at *
  refine CC.out.mono ?_; rintro r w1 hres
  clear e1 CC
  rcases hres with ⟨u, e, hu, h0, hun, he, ⟨A1, c1, rfl, hown1⟩, hD1, hM⟩ | ⟨hu, rfl, hD1, hM⟩
  · have he1 : u < e := by rw [he]; exact endN_gt hun
    have he2 : e ≤ n := by rw [he]; exact endN_le hun
    have hR1 : Row w1 w.heap.size 34 c.cells := hM.row hr0'.out (by omega) (fun e' => by have := (hDrow _ e'.symm).2; omega)
    obtain ⟨T, hT⟩ : ∃ T, T = (L.drop u).take (e - u) := ⟨_, rfl⟩
    obtain ⟨R, hR⟩ : ∃ R, R = L.take u ++ L.drop e := ⟨_, rfl⟩
    have hcut : cutL L c.key = .ok (T, R) := by
      rw [hT, hR]
      exact cutL_yes hu h0 (by rw [hl'.out]; exact he)
    rw [← hT] at hown1
    rw [← hR] at hD1
    obtain ⟨m, hm⟩ : ∃ m, m = e - u := ⟨_, rfl⟩
    obtain ⟨n1, hn1⟩ : ∃ n1, n1 = u + (n - e) := ⟨_, rfl⟩
    rw [← hm] at hown1 ⊢
    rw [← hn1] at hD1
    have hm0 : 0 < m := by omega
    have hmn : m + n1 ≤ 700 := by omega
    clear hm hn1
    have hTm : ∀ y ∈ T, -1 ≤ depN y ∧ depN y ≤ 1000 := fun y hy => hDm.out y (by rw [hT] at hy; exact List.mem_of_mem_drop (List.mem_of_mem_take hy))
    have hRm : ∀ y ∈ R, -1 ≤ depN y ∧ depN y ≤ 1000 := fun y hy => hDm.out y (by
      rw [hR] at hy
      rcases List.mem_append.1 hy with hy | hy
      · exact List.mem_of_mem_take hy
      · exact List.mem_of_mem_drop hy)
    have hTok : ∀ y ∈ T, OkAll nodeLs y := fun y hy => by
      rw [hT] at hy
      exact sub_ok hok.out _ _ y hy
    have hTl : T.length = m := by
      have h1 := hown1.len
      have h2 := nodes_len hTok
      omega
    have hRl := hD1.len
    have hRdp : ∀ i, i < n1 → -1 ≤ dp R i ∧ dp R i ≤ 1000 := hRl ▸ mem_dep hRm
    have hTdp : ∀ i, i < m → -1 ≤ dp T i ∧ dp T i ≤ 1000 := hTl ▸ mem_dep hTm
    have HB := Lib.hid (fun W (hg : w1.grownBy W none) => show (W.cell? ⟨p, 0, none⟩ = some (.slice A n1 k) ∧ W.cell? ⟨p, 1, none⟩ = some (.int .i64 x)) ∧ W.cell? ⟨w.heap.size, 2, none⟩ = some (.int .i64 c.par) ∧ W.cell? ⟨w.heap.size, 3, none⟩ = some (.int .i64 c.num) from
      ⟨(hD1.grown hg).cells, ((hR1.kept0 hg).at 2).trans Chg.c2, ((hR1.kept0 hg).at 3).trans Chg.c3⟩)
    have hM' := Lib.hid hM
    have hD1' := Lib.hid hD1
    have hfar := Lib.hid (fun (g : Nat) (hg : W0.heap.size ≤ g) => show g ≠ p ∧ rowOf A k ≠ some g from ⟨by omega, fun e => by have := (hDrow g e).2; omega⟩)
    have hB1 := Lib.hid (show B ≤ w1.heap.size by have := hM.size; have := hB'.out; omega)
    have hcut' := Lib.hid hcut
    have hgd := grown_drew (World.grownBy.refl w1 none)
    by_cases hy : ∃ v q : Nat, GapYes R c.par c.num v q
    · obtain ⟨v, q, hy⟩ := hy
      have CG := Lib.hid (fun W (hg : w1.grownBy W none) => gap_yes (c := k) (x := x) (hD1.grown hg).nodes hRdp hy)
      have hvl : v < R.length := hy.2.1
      obtain ⟨gb1, gb2, gb3⟩ := gapAt_bounds (k := q) hvl
      have hgE := Lib.hid (gapE_yes hy)
      obtain ⟨g, hgq⟩ : ∃ g, g = gapAt R v q := ⟨_, rfl⟩
      obtain ⟨dv, hdv⟩ : ∃ dv, dv = dp R v + 1 := ⟨_, rfl⟩
      rw [← hgq, ← hdv] at CG hgE
      have hdvb : 0 ≤ dv ∧ dv ≤ 1001 := by have := hRdp v (by omega); omega
      have hgn : g ≤ n1 := by omega
      obtain ⟨⟨c0, c1'⟩, e2, e3⟩ := HB.out _ hgd
      clear hM hD1 hcut hR1 hT hR he hu hRm hRdp hdv hgq gb1 gb2 gb3 hy hr0' hDrow hszW hvl hRl
      go_wp2_with fail
      go_region_held3 (fun W => (W.cell? ⟨p, 0, none⟩ = some (.slice A n1 k) ∧ W.cell? ⟨p, 1, none⟩ = some (.int .i64 x)) ∧ W.cell? ⟨w.heap.size, 2, none⟩ = some (.int .i64 c.par) ∧ W.cell? ⟨w.heap.size, 3, none⟩ = some (.int .i64 c.num)) (first | exact ⟨⟨c0, c1'⟩, e2, e3⟩ | go_keep) (first
        | (go_at_call 38; ((with_reducible refine (CG.out _ hgd).mono ?_); rintro r w2 ⟨rfl, hg2⟩); clear c0 c1' e2 e3; replace hgd := grown_trans hgd hg2; obtain ⟨⟨c0, c1'⟩, e2, e3⟩ := HB.out _ hgd; clear hg2))
      obtain ⟨g1, hA1, hrw1, hg1b, hg1l, hcl1⟩ := hown1.cells_ (by rw [hown1.len]; omega)
      subst hA1
      have hown2 := hown1.grown0 hgd
      have t1 := hown2.cells_ (by rw [hown1.len]; omega)
      have hndT := nd_ok_ hTok (i := 0) (by omega)
      have hz : w2.cell? ⟨g1, 1, none⟩ = some (.int .i64 (dp T 0)) := by
        obtain ⟨g', e', _, _, _, hc2⟩ := t1
        cases e'
        rw [hc2 1 (by rw [hown1.len]; omega), flatten_get 51 (by omega) T (len51 hTok), nd_get (by omega : 1 / 51 < T.length)]
        exact (n_dep hndT).1
      have hd0 := hTdp 0 hm0
      obtain ⟨d0, hd0e⟩ : ∃ d0, d0 = dp T 0 := ⟨_, rfl⟩
      rw [← hd0e] at hz hd0
      obtain ⟨δ, hδ⟩ : ∃ δ, δ = dv - d0 := ⟨_, rfl⟩
      have hδb : -1001 ≤ δ ∧ δ ≤ 1002 := by omega
      have hwr : IntKind.i64.wrap (dv - d0) = δ := by rw [IntKind.wrap_i64]; omega
      have hδ' := Lib.hid hδ
      have hd0' := Lib.hid hd0e
      have hgd' := Lib.hid hgd
      have hcm : c1 ≤ 9223372036854775807 := by have := hown2.2.2.1; unfold maxLen at this; exact this
      have hmc : m ≤ c1 := hown2.2.1
      have hl0 := Lib.hid (show Own w2 W0.heap.size 32 51 (some ⟨g1, 0, none⟩) m c1 (someDeeper T δ 0).flatten by rw [someDeeper_zero]; exact hown2)
      have hTl' := Lib.hid hTl
      have hTd' := Lib.hid hTdp
      have hTok' := Lib.hid hTok
      have hTm' := Lib.hid hTm
      clear hown1 hown2 t1 hcl1 hndT hd0e hδ hgd CG c0 c1' e2 e3 hTl hTdp hTok hTm hrw1
      go_wp2_with fail
      go_loopw [8, 32] (fun _ i wi => ∃ j : Nat, j ≤ m ∧ i = .int .i64 (j : Int) ∧ Own wi W0.heap.size 32 51 (some ⟨g1, 0, none⟩) m c1 (someDeeper T δ j).flatten ∧ w2.grownBy wi (some g1)) (fun _ i _ => m - (intOf i).toNat)
      case atStart => exact ⟨0, by omega, rfl, hl0.out, World.grownBy.refl _ _⟩
      case round =>
        obtain ⟨j, hj, rfl, hox, hgi⟩ := hrel
        clear hl0
        obtain ⟨wo, rfl⟩ : ∃ wo : World, wo = wr := ⟨_, rfl⟩
        by_cases hlt : j < m
        · have hjT : j < T.length := by rw [hTl'.out]; exact hlt
          have hokj := nd_ok_ hTok'.out hjT
          have hle := hox.len
          obtain ⟨g', e', _, _, _, hcx⟩ := hox.cells_ (by rw [hle]; omega)
          cases e'
          have hlen : ∀ y ∈ someDeeper T δ j, y.length = 51 := fun y hy => by
            unfold someDeeper at hy
            rcases List.mem_append.1 hy with hy | hy
            · obtain ⟨z, hz, rfl⟩ := List.mem_map.1 hy
              unfold deepen
              rw [List.length_set]
              exact (hTok'.out z (List.mem_of_mem_take hz)).len
            · exact (hTok'.out y (List.mem_of_mem_drop hy)).len
          have z1 : wo.cell? ⟨g1, j * 51 + 1, none⟩ = some (.int .i64 (depN (nd T j))) := by
            rw [hcx _ (by rw [hle]; omega), flatten_get 51 (by omega) _ hlen, show (j * 51 + 1) / 51 = j by omega, show (j * 51 + 1) % 51 = 1 by omega, nd_get (by rw [someDeeper_len]; exact hjT), someDeeper_nd T δ j hjT]
            exact (n_dep hokj).1
          have z2 := hox.frozen_ (by rw [hle]; omega) rfl (j * 51 + 1)
          have hb := hTd'.out j hlt
          obtain ⟨dj, hdj⟩ : ∃ dj, dj = depN (nd T j) := ⟨_, rfl⟩
          have hbj : -1 ≤ dj ∧ dj ≤ 1000 := by rw [hdj]; exact hb
          have hNew := hox.set_ (j * 51 + 1) (.int .i64 (dj + δ))
          rw [flatten_set hlen j 1 _ (by rw [someDeeper_len]; exact hjT) (by omega), someDeeper_nd T δ j hjT, hdj, someDeeper_succ T δ j hjT, ← hdj] at hNew
          rw [← hdj] at z1
          have hNew' := Lib.hid hNew
          have hgN := Lib.hid (grown_trans hgi (grownBy_setCell _ g1 (j * 51 + 1) (.int .i64 (dj + δ))))
          have hws : IntKind.i64.wrap (dj + δ) = dj + δ := by rw [IntKind.wrap_i64]; omega
          clear hNew hox hgi hcx hlen hokj hle hjT hb hdj
          go_wp2_with fail
          go_roundw
          case rel => exact ⟨j + 1, by omega, by go_num, hNew'.out, hgN.out⟩
          case measure => simp [intOf]; omega
        · obtain rfl : j = m := by omega
          rw [← hTl'.out, someDeeper_all, hTl'.out] at hox
          have D2 := hD1'.out.grown hgd'.out
          obtain ⟨nep, nrow⟩ := hfar.out g1 hg1b
          have D3 : DocAt wo B p A n1 k R x := ⟨D2.two.kept hgi (fun e => nep (Option.some.inj e).symm), D2.own.grownBy_ hgi (.inr nrow), D2.ok, D2.few⟩
          have hTd'' : ∀ y ∈ T.map (deepen δ), OkAll nodeLs y := deeper_ok hTok'.out (fun y hy => by have := hTm'.out y hy; omega)
          have CI := Lib.hid (ins_nodes wo B n1 k g j c1 W0.heap.size A (some ⟨g1, 0, none⟩) R (T.map (deepen δ)) (by have := hB1.out; have := hgd'.out.size; have := hgi.size; omega) D3.ok hTd'' D3.own hox (fun e => nrow (by rw [← e]; unfold rowOf; rw [if_neg (by omega)]; rfl)) hgn hm0 (by omega))
          obtain ⟨c0, c1'⟩ := D3.cells
          have D3' := Lib.hid D3
          have hgi' := Lib.hid hgi
          clear D2 D3 hox hgi
          go_wp2_with fail
          refine CI.out.mono ?_; rintro r w5 ⟨A5, c5, rfl, hown5, hg5⟩
          have hokp : ∀ y ∈ R.take g ++ T.map (deepen δ) ++ R.drop g, OkAll nodeLs y := fun y hy => by
            rcases List.mem_append.1 hy with hy | hy
            · rcases List.mem_append.1 hy with hy | hy
              · exact D3'.out.ok y (List.mem_of_mem_take hy)
              · exact hTd'' y hy
            · exact D3'.out.ok y (List.mem_of_mem_drop hy)
          have hp6 := D3'.out.put hg5 hown5 hokp (by omega)
          have hb5 := D3'.out.two.kept hg5 (Ne.symm D3'.out.row_ne)
          have f0 := hb5.f 0
          have c0'' := hb5.c0
          have hfin : OpPost w B p (rowOf A k) (moveL L x c.key c.par c.num) (.returned (.tuple #[])) (w5.setCell ⟨p, 0, none⟩ (.slice A5 (n1 + j) c5)) := by
            unfold moveL
            rw [hcut'.out]
            dsimp only
            rw [hgE.out]
            dsimp only
            rw [← hd0'.out, ← hδ'.out]
            exact (OpPost.fine rfl hp6.1 (((hM'.out.trans (Mut.ofGrown hgd'.out (.inl rfl)) (.inl rfl)).trans (Mut.ofGrown (q := some g1) hgi'.out (.inr (.inr rfl))) (.inr fun g e => by cases e; exact hg1b)).trans hp6.2 (.inl rfl))).widen hg0'.out
          have hfin' := Lib.hid hfin
          clear hfin hp6 hb5 hown5 hg5 hokp c0 c1'
          go_wp2_with fail
          go_end0
          exact hfin'.out
    · have CG := Lib.hid (fun W (hg : w1.grownBy W none) => gap_no (c := k) (x := x) (hD1.grown hg).nodes hRdp hy)
      have hgE := Lib.hid (gapE_no hy)
      obtain ⟨⟨c0, c1'⟩, e2, e3⟩ := HB.out _ hgd
      clear hM hD1 hcut hR1 hT hR he hu hRm hRdp hy hr0' hDrow hszW hRl
      have hfin : ∀ w2, w1.grownBy w2 none → OpPost w B p (rowOf A k) (moveL L x c.key c.par c.num) (.panicked [{ v := wrongV 70, recovered := false }]) w2 := fun w2 hg => by
        unfold moveL
        rw [hcut'.out]
        dsimp only
        rw [hgE.out]
        exact (OpPost.err rfl (hD1'.out.grown hg) (hM'.out.trans (Mut.ofGrown hg (.inl rfl)) (.inl rfl))).widen hg0'.out
      have hfin' := Lib.hid hfin
      clear hfin
      go_wp2_with fail
      refine wp_region_held (S := (fun W => (W.cell? ⟨p, 0, none⟩ = some (.slice A n1 k) ∧ W.cell? ⟨p, 1, none⟩ = some (.int .i64 x)) ∧ W.cell? ⟨w.heap.size, 2, none⟩ = some (.int .i64 c.par) ∧ W.cell? ⟨w.heap.size, 3, none⟩ = some (.int .i64 c.num))) (by kernel_rfl) ?_
      refine wpAnyH_take (i := 0) (v := .pointer (some ⟨p, 0, none⟩)) rfl (by kernel_rfl) (by kernel_rfl) (by kernel_rfl) (fun _ _ _ h => h) (Or.inl ⟨by kernel_rfl, fun V _ => by kernel_rfl⟩) ⟨⟨c0, c1'⟩, e2, e3⟩ ?_
      simp only [Act.put, List.getElem_toArray, List.getElem_cons_succ, List.getElem_cons_zero, List.setIfInBounds_toArray, List.set_cons_zero, List.set_cons_succ]
      refine wpAnyH_take (i := 1) (v := .pointer (some ⟨p, 0, none⟩)) rfl (by kernel_rfl) (by kernel_rfl) (by kernel_rfl) (fun _ _ _ h => h) (Or.inl ⟨by kernel_rfl, fun V _ => by kernel_rfl⟩) ⟨⟨c0, c1'⟩, e2, e3⟩ ?_
      simp only [Act.put, List.getElem_toArray, List.getElem_cons_succ, List.getElem_cons_zero, List.setIfInBounds_toArray, List.set_cons_zero, List.set_cons_succ]
      refine wpAnyH_take (i := 2) (v := .agg #[.slice A n1 k, .int .i64 x]) rfl (by kernel_rfl) (by kernel_rfl) (by kernel_rfl) (fun _ _ _ h => h) (Or.inl ⟨by kernel_rfl, fun V hV => by obtain ⟨⟨a0, a1⟩, a2, a3⟩ := hV; go_simp⟩) ⟨⟨c0, c1'⟩, e2, e3⟩ ?_
      simp only [Act.put, List.getElem_toArray, List.getElem_cons_succ, List.getElem_cons_zero, List.setIfInBounds_toArray, List.set_cons_zero, List.set_cons_succ]
      refine wpAnyH_take (i := 3) (v := .pointer (some ⟨w.heap.size, 2, none⟩)) rfl (by kernel_rfl) (by kernel_rfl) (by kernel_rfl) (fun _ _ _ h => h) (Or.inl ⟨by kernel_rfl, fun V _ => by kernel_rfl⟩) ⟨⟨c0, c1'⟩, e2, e3⟩ ?_
      simp only [Act.put, List.getElem_toArray, List.getElem_cons_succ, List.getElem_cons_zero, List.setIfInBounds_toArray, List.set_cons_zero, List.set_cons_succ]
      refine wpAnyH_take (i := 4) (v := .int .i64 c.par) rfl (by kernel_rfl) (by kernel_rfl) (by kernel_rfl) (fun _ _ _ h => h) (Or.inl ⟨by kernel_rfl, fun V hV => by obtain ⟨⟨a0, a1⟩, a2, a3⟩ := hV; go_simp⟩) ⟨⟨c0, c1'⟩, e2, e3⟩ ?_
      simp only [Act.put, List.getElem_toArray, List.getElem_cons_succ, List.getElem_cons_zero, List.setIfInBounds_toArray, List.set_cons_zero, List.set_cons_succ]
      refine wpAnyH_take (i := 5) (v := .pointer (some ⟨w.heap.size, 3, none⟩)) rfl (by kernel_rfl) (by kernel_rfl) (by kernel_rfl) (fun _ _ _ h => h) (Or.inl ⟨by kernel_rfl, fun V _ => by kernel_rfl⟩) ⟨⟨c0, c1'⟩, e2, e3⟩ ?_
      simp only [Act.put, List.getElem_toArray, List.getElem_cons_succ, List.getElem_cons_zero, List.setIfInBounds_toArray, List.set_cons_zero, List.set_cons_succ]
      refine wpAnyH_take (i := 6) (v := .int .i64 c.num) rfl (by kernel_rfl) (by kernel_rfl) (by kernel_rfl) (fun _ _ _ h => h) (Or.inl ⟨by kernel_rfl, fun V hV => by obtain ⟨⟨a0, a1⟩, a2, a3⟩ := hV; go_simp⟩) ⟨⟨c0, c1'⟩, e2, e3⟩ ?_
      simp only [Act.put, List.getElem_toArray, List.getElem_cons_succ, List.getElem_cons_zero, List.setIfInBounds_toArray, List.set_cons_zero, List.set_cons_succ]
      refine wpAnyH_ready (rs := [7]) (by kernel_rfl) (by simp) ?_
      refine AllReadyH.cons rfl (fun K hK => ?_) AllReadyH.nil
      go_simp
      refine (CG.out _ hgd).mono ?_; rintro r w2 ⟨rfl, hg2⟩
      exact ⟨rfl, hfin'.out _ (grown_trans hgd hg2)⟩
  · have hfin : OpPost w B p (rowOf A k) (moveL L x c.key c.par c.num) (.panicked [{ v := wrongV 70, recovered := false }]) w1 := by
      unfold moveL
      rw [cutL_no hu]
      exact (OpPost.err rfl hD1 hM).widen hg0'.out
    have hfin' := Lib.hid hfin
    clear hfin hD1 hM hu
    go_wp2_with fail
    exact ⟨rfl, hfin'.out⟩
end Go.Proofs.Ytjnbfgogmhfbiaa
