/- May: the walk. -/
import Derived.Test.YtjnbfgogmhfbiaaTo
import Derived.Test.YtjnbfgogmhfbiaaTf
import Derived.Deep.CutBlock
import Derived.Deep.RegionWith
import Derived.Outline
namespace Go.Proofs.Ytjnbfgogmhfbiaa
open Go Go.RowKit Go.Maps
/-- May's state between two rounds. -/
structure MaySt (w wr : World) (L : List (List Value)) (x : Int) (dv : Array Value) (qm ql k : Nat) (D : DataW Unit) : Prop where
  sum : total (L.take k) ≤ 5000 * k
  good : ∀ i, i < k → Good L x i
  doc : Row wr w.heap.size 24 dv
  last : Row wr ql 32 (lastN L k).toArray
  map : wr.ownsMap Try.prog 3 (plainElem Try.prog 3) qm k D
  met : Met L k D
  grown : w.grownBy wr none
theorem wf_of {n : Int} (h1 : -9223372036854775808 ≤ n) (h2 : n ≤ 9223372036854775807) : (Lit.int .i64 n).wf = true := by
  simp [Lit.wf, IntKind.min, IntKind.max, IntKind.signed, IntKind.bits]; omega
theorem not_goes {L : List (List Value)} {x : Int} {k : Nat} (hk : k < L.length) (hg : ∀ i, i < k → Good L x i) (hng : ¬ Goes L x k) : ¬ Shape L x := fun h => hng ((goes_iff hk hg).2 (h.2.2.2.1 k hk))
theorem lastN_dep {L : List (List Value)} {x : Int} {k : Nat} (hg : ∀ i, i < k → Good L x i) : -1 ≤ depN (lastN L k) ∧ depN (lastN L k) < 16 := by
  cases k with
  | zero => show -1 ≤ depN lastZ ∧ depN lastZ < 16; rw [dep_lastZ]; omega
  | succ j => have := (hg j (by omega)).1.2.2; exact ⟨by show -1 ≤ depN (nd L j); omega, this.2.1⟩
set_option maxRecDepth 100000 in
set_option maxHeartbeats 4000000 in
theorem may_any (A : Option Addr) (n c : Nat) (x : Int) (L : List (List Value)) (w : World) (hN : NodesAt w w.heap.size A n L) (hsm : ∀ i, i < n → lenN (nd L i) ≤ 5000) :
    Calls Try.prog 26 #[.agg #[.slice A n c, .int .i64 x]] w fun e w' => Tells (Shape L x) e ∧ w.grownBy w' none := by
  have hn := hN.few
  have hlen := hN.len
  have hg0 := World.grownBy_alloc w (.cells #[.slice A n c, .int .i64 x] 24) none
  have b0 := Row.new w 24 #[.slice A n c, .int .i64 x]
  have hS := Lib.hid (show Shape L x ↔ (1 ≤ L.length ∧ L.length ≤ 300 ∧ x ≤ 1073741825 ∧ (∀ i, i < L.length → Good L x i) ∧ kindN (nd L 0) = 0 ∧ total L ≤ 1500) from Iff.rfl)
  rw [hlen] at hS
  have hmm := @run_makeMap Try.prog
  have b0' := Lib.hid b0
  have hg0' := Lib.hid hg0
  have c0 : (w.alloc (.cells #[.slice A n c, .int .i64 x] 24)).cell? ⟨w.heap.size, 0, none⟩ = some (.slice A n c) := b0.at 0
  have c1 : (w.alloc (.cells #[.slice A n c, .int .i64 x] 24)).cell? ⟨w.heap.size, 1, none⟩ = some (.int .i64 x) := b0.at 1
  have hNh := Lib.hid hN
  have hsm' := Lib.hid hsm
  have hlen' := Lib.hid hlen
  clear hN b0 hg0 hsm hlen
  rcases (by omega : n < 1 ∨ (1 ≤ n ∧ 300 < n) ∨ ((1 ≤ n ∧ n ≤ 300) ∧ 1073741825 < x) ∨ ((1 ≤ n ∧ n ≤ 300) ∧ x ≤ 1073741825)) with h | ⟨h1, h⟩ | ⟨⟨h1, h2⟩, h⟩ | ⟨⟨h1, h2⟩, h⟩
  · have d0 : decide ((n : Int) < 1) = true := by simp; omega
    have h' := Lib.hid h
    clear h
    go_enter Try.func26, Try.ntmps26
    go_wp2
    go_ret
    exact ⟨.no (by rw [hS.out]; have := h'.out; omega), hg0'.out⟩
  · have d0 : decide ((n : Int) < 1) = false := by simp; omega
    have d1 : decide ((300 : Int) < (n : Int)) = true := by simp; omega
    have h' := Lib.hid h
    clear h
    go_enter Try.func26, Try.ntmps26
    go_wp2
    go_ret
    exact ⟨.no (by rw [hS.out]; have := h'.out; omega), hg0'.out⟩
  · have d0 : decide ((n : Int) < 1) = false := by simp; omega
    have d1 : decide ((300 : Int) < (n : Int)) = false := by simp; omega
    have d2 : decide ((1073741825 : Int) < x) = true := by simp; omega
    have h' := Lib.hid h
    clear h
    go_enter Try.func26, Try.ntmps26
    go_wp2
    go_ret
    exact ⟨.no (by rw [hS.out]; have := h'.out; omega), hg0'.out⟩
  · have d0 : decide ((n : Int) < 1) = false := by simp; omega
    have d1 : decide ((300 : Int) < (n : Int)) = false := by simp; omega
    have d2 : decide ((1073741825 : Int) < x) = false := by simp; omega
    have h' := Lib.hid h
    clear h
    go_enter Try.func26, Try.ntmps26
    go_upto_region 5 with (first
      | (refine wpList_build rfl (T := 32) rfl lastZ.toArray (by kernel_rfl) ?_; simp only [Act.put, List.setIfInBounds_toArray, List.set_cons_zero, List.set_cons_succ])
      | (refine wpList_fresh bigN rfl rfl rfl rfl _ _ rfl lastZ.toArray rfl (by have := okAll_one lastZ_ok; simpa using this) rfl rfl ?_; intro W1 hg1 hr1; simp only [Act.put, List.setIfInBounds_toArray, List.set_cons_zero, List.set_cons_succ]))
    have hgm := World.grownBy_alloc (w.alloc (.cells #[.slice A n c, .int .i64 x] 24)) (.map #[] 0) none
    have hq : ((w.alloc (.cells #[.slice A n c, .int .i64 x] 24)).alloc (.map #[] 0)).heap.size = w.heap.size + 2 := by simp
    have hown0 := (World.ownsMap_made (H := Unit) (w.alloc (.cells #[.slice A n c, .int .i64 x] 24)) Try.prog 3 (plainElem Try.prog 3)).kept hg1 (by simp)
    rw [World.size_alloc] at hown0
    rw [hq] at hr1 ⊢
    have hst := Lib.hid (show MaySt w W1 L x #[.slice A n c, .int .i64 x] (w.heap.size + 1) (w.heap.size + 2) 0 (.map []) from ⟨by simp [total], fun i hi => absurd hi (by omega), (b0'.out.kept0 hgm).kept0 hg1, hr1, hown0, met_zero L, grown_trans hg0'.out (grown_trans hgm hg1)⟩)
    have c2 : W1.cell? ⟨w.heap.size, 0, none⟩ = some (.slice A n c) := hst.out.doc.at 0
    clear hgm hq hown0 hr1 hg1 c0 c1 d0 d1 d2 hmm
    go_upto_region 7 with fail
    go_loopw [5, 28] (fun vb vi wr => ∃ (k : Nat) (D : DataW Unit), k ≤ n ∧ vi = .int .i64 k ∧ vb = .int .i64 (total (L.take k) : Nat) ∧ MaySt w wr L x #[.slice A n c, .int .i64 x] (w.heap.size + 1) (w.heap.size + 2) k D) (fun _ vi _ => n - (intOf vi).toNat)
    case atStart => exact ⟨0, .map [], by omega, rfl, by simp [total], hst.out⟩
    case round =>
      obtain ⟨k, D, hk, rfl, rfl, hR⟩ := hrel
      clear c2 hst
      have hR' := Lib.hid hR
      have hsum := hR.sum
      by_cases hlt : k < n
      · have hN := hNh.out.grown0 hR.grown
        obtain ⟨ad, rfl, _⟩ := hN.some_ hlt
        have hld := Lib.hid (hN.load hlt)
        have hok := Lib.hid (hNh.out.nd_ok hlt)
        have hll := hsm'.out k hlt
        have htt := Lib.hid (total_take L k (by have := hlen'.out; omega))
        have hone := Lib.hid (okAll_one hok.out)
        have hsz := Lib.hid (show (nd L k).toArray.size = 51 by rw [List.size_toArray]; exact hok.out.len)
        clear hN hR
        generalize total (L.take k) = tk at *
        go_upto_region 9 with (first
          | (refine wpList_value_w rfl (exec_load rfl rfl hld.out) ?_; simp only [Act.put, List.setIfInBounds_toArray, List.set_cons_zero, List.set_cons_succ])
          | (refine wpList_fresh bigN rfl rfl rfl rfl _ _ rfl (nd L k).toArray hsz.out (by have := hone.out; simpa using this) rfl rfl ?_; intro W2 hg2 hr2; simp only [Act.put, List.setIfInBounds_toArray, List.set_cons_zero, List.set_cons_succ]))
        have hlk : k < L.length := by have := hlen'.out; omega
        obtain ⟨key, hkey0⟩ : ∃ key, key = keyN (nd L k) := ⟨_, rfl⟩
        have hkw := n_key hok.out
        rw [← hkey0] at hkw
        have hwk := wf_of hkw.2.1 hkw.2.2
        have hkl := Lib.hid (keyOf_int_mk Try.underlying3 hwk)
        have hown2 := hR'.out.map.kept hg2 (by simp)
        obtain ⟨cn, hcn0⟩ : ∃ cn, cn = cntK L k key := ⟨_, rfl⟩
        have hcnk : cn ≤ k := by rw [hcn0]; exact cntK_le L k key
        obtain ⟨cc, hrun, hat, _⟩ := hown2.lookup_int lawI Try.underlying63 Try.underlying3 (zeroI _) hkl.out
        have hcc : cc = (cn : Int) := by
          have := hR'.out.met key
          rw [hat, ← hcn0] at this
          simpa using this
        subst hcc
        have hrun' := Lib.hid hrun
        have hown2' := Lib.hid hown2
        have hkm := Lib.hid (show k < maxLen by unfold maxLen; omega)
        have hwf := Lib.hid (plainElem_int (H := Unit) (P := Try.prog) Try.underlying3 (a := (cn : Int) + 1) (wf_of (by omega) (by omega)))
        have hkey0' := Lib.hid hkey0
        have hcn0' := Lib.hid hcn0
        have hlt7 := hR'.out.map.lt
        have hr2' := Lib.hid hr2
        have hg2' := Lib.hid hg2
        obtain ⟨q7, hq7⟩ : ∃ q, q = wr.heap.size := ⟨_, rfl⟩
        rw [← hq7] at hr2' hlt7 ⊢
        have z0 : W2.cell? ⟨q7, 0, none⟩ = some (.int .i64 key) := by rw [hkey0]; exact (row_node hr2'.out hok.out).1
        clear hkw hwk hown2 hrun hat hkey0 hcn0 hr2 hg2 hq7
        go_upto_region 10 with (first
          | (refine wpList_lookup_w rfl rfl rfl rfl hrun'.out ?_; simp only [Act.put, List.setIfInBounds_toArray, List.set_cons_zero, List.set_cons_succ])
          | (refine wpList_mapUpdate_own _ rfl _ _ _ 63 rfl 3 3 lawI Try.underlying63 (plainElem Try.prog 3) (w.heap.size + 1) k D rfl hown2'.out hkm.out _ _ _ rfl rfl hkl.out _ [] hwf.out ?_; intro w3 hown3 hg3; simp only [Act.put, List.setIfInBounds_toArray, List.set_cons_zero, List.set_cons_succ]))
        have r7 := hr2'.out.keptNe hg3 (by omega)
        have rD := (hR'.out.doc.kept0 hg2'.out).keptNe hg3 (by omega)
        have rL := (hR'.out.last.kept0 hg2'.out).keptNe hg3 (by omega)
        have hgw := grown_new (grown_trans hR'.out.grown hg2'.out) hg3 (fun b e => by cases e; omega)
        obtain ⟨y0, y1, y2, ts, y3, hts, _⟩ := row_node r7 hok.out
        rw [← hkey0'.out] at y0
        have hts' : ts.size ≤ 5000 := by omega
        have hts'' := Lib.hid hts
        have r7' := Lib.hid r7
        have rD' := Lib.hid rD
        have rL' := Lib.hid rL
        have hgw' := Lib.hid hgw
        have hown3' := Lib.hid hown3
        clear z0 hown3 hg3 r7 rD rL hgw hts hrun' hown2' hkm hwf y0 y1 y2
        go_upto_region 11 with fail
        have CF := Lib.hid (fits_any (nd L k) x w3 hok.out)
        have x1 : w3.cell? ⟨w.heap.size, 1, none⟩ = some (.int .i64 x) := rD'.out.at 1
        clear y3
        go_wp2_with (refine wpList_row bigN r7'.out hsz.out rfl rfl rfl ?_; simp only [Act.put, List.setIfInBounds_toArray, List.set_cons_zero, List.set_cons_succ])
        refine CF.out.mono ?_; rintro e w4 ⟨⟨bf, rfl, hbf⟩, hg4⟩
        have hbf' := Lib.hid hbf
        clear hbf x1 CF
        cases bf with
        | false =>
          go_wp2_with fail
          go_ret
          exact ⟨.no (not_goes hlk hR'.out.good (fun h => by have := hbf'.out.2 h.1; cases this)), grown_trans hgw'.out hg4⟩
        | true =>
          have hown4 := hown3'.out.kept hg4 (by simp)
          have hD' := Lib.hid (met_succ hR'.out.met hR'.out.map.isMap hlk)
          rw [← hkey0'.out, ← hcn0'.out] at hD'
          obtain ⟨c4, hrun4, hat4, _⟩ := hown4.lookup_int lawI Try.underlying63 Try.underlying3 (zeroI _) hkl.out
          have hc4 : c4 = (cn : Int) + 1 := by
            have := hD'.out key
            rw [hat4, cntK_succ L k key hlk, ← hkey0'.out, ← hcn0'.out, if_pos rfl] at this
            simpa using this
          subst hc4
          have hrun4 := Lib.hid hrun4
          have hown4 := Lib.hid hown4
          have r7 := Lib.hid (r7'.out.kept0 hg4)
          have rL := Lib.hid (rL'.out.kept0 hg4)
          have rD := Lib.hid (rD'.out.kept0 hg4)
          have hg4' := Lib.hid hg4
          have hokl := lastN_ok hNh.out.ok k (by omega)
          have hszl := Lib.hid (show (lastN L k).toArray.size = 51 by rw [List.size_toArray]; exact hokl.len)
          obtain ⟨y0, y1, _, _⟩ := row_node r7.out hok.out
          obtain ⟨_, l1, l2, _⟩ := row_node rL.out hokl
          rw [← hkey0'.out] at y0
          obtain ⟨bdl1, bdl2⟩ := lastN_dep hR'.out.good
          have hF := Lib.hid (hbf'.out.1 rfl)
          have bd1 := hF.out.2.2.1
          have bd2 := hF.out.2.2.2.1
          have hG := Lib.hid (show Goes L x k ↔ (cn = 0 ∧ depN (nd L k) ≤ depN (lastN L k) + 1 ∧ ¬ (depN (lastN L k) < depN (nd L k) ∧ kindN (lastN L k) = 1) ∧ (depN (nd L k) = 0 ↔ depN (lastN L k) < 0)) by
            unfold Goes
            rw [hcn0'.out, hkey0'.out]
            exact ⟨fun h => h.2, fun h => ⟨hF.out, h⟩⟩)
          have fin := Lib.hid (fun (hgo : Goes L x k) => show MaySt w (w4.setRow (w.heap.size + 2) (nd L k).toArray) L x #[.slice (some ad) n c, .int .i64 x] (w.heap.size + 1) (w.heap.size + 2) (k + 1) _ from by
            have hgs := grownBy_setRow w4 (w.heap.size + 2) (nd L k).toArray
            exact ⟨by rw [htt.out]; omega, fun i hi => by
              rcases Nat.lt_or_ge i k with h | h
              · exact hR'.out.good i h
              · obtain rfl : i = k := by omega
                exact (goes_iff hlk hR'.out.good).1 hgo, rD.out.keptNe hgs (by omega), rL.out.store _, hown4.out.kept hgs (by simp), hD'.out, grown_new (grown_trans hgw'.out hg4) hgs (fun b e => by cases e; omega)⟩)
          clear hat4 hg4 hokl
          generalize depN (nd L k) = dep at *
          generalize depN (lastN L k) = dl at *
          generalize kindN (lastN L k) = kl at *
          by_cases p1 : 1 ≤ cn
          · have d1 : decide ((1 : Int) < (cn : Int) + 1) = true := by simp; omega
            go_wp2_with (at_lookup; refine wpList_lookup_w (by kernel_rfl) rfl rfl rfl hrun4.out ?_; simp only [Act.put, List.setIfInBounds_toArray, List.set_cons_zero, List.set_cons_succ])
            go_ret
            exact ⟨.no (not_goes hlk hR'.out.good (fun h => by rw [hG.out] at h; have h9 := hF.out; omega)), grown_trans hgw'.out hg4'.out⟩
          · have d1 : decide ((1 : Int) < (cn : Int) + 1) = false := by simp; omega
            by_cases p2 : dl + 1 < dep
            · have d2 : decide (dl + 1 < dep) = true := decide_eq_true p2
              go_wp2_with (at_lookup; refine wpList_lookup_w (by kernel_rfl) rfl rfl rfl hrun4.out ?_; simp only [Act.put, List.setIfInBounds_toArray, List.set_cons_zero, List.set_cons_succ])
              go_ret
              exact ⟨.no (not_goes hlk hR'.out.good (fun h => by rw [hG.out] at h; have h9 := hF.out; omega)), grown_trans hgw'.out hg4'.out⟩
            · have d2 : decide (dl + 1 < dep) = false := decide_eq_false p2
              by_cases p3 : dl < dep
              · have d3 : decide (dl < dep) = true := decide_eq_true p3
                by_cases p4 : kl = 1
                · have d4 : (kl == 1) = true := by simp [p4]
                  have p4' := Lib.hid p4
                  clear p4
                  go_wp2_with (at_lookup; refine wpList_lookup_w (by kernel_rfl) rfl rfl rfl hrun4.out ?_; simp only [Act.put, List.setIfInBounds_toArray, List.set_cons_zero, List.set_cons_succ])
                  go_ret
                  exact ⟨.no (not_goes hlk hR'.out.good (fun h => by rw [hG.out] at h; have h9 := hF.out; have := p4'.out; omega)), grown_trans hgw'.out hg4'.out⟩
                · have d4 : (kl == 1) = false := by simp [p4]
                  have p4' := Lib.hid p4
                  clear p4
                  by_cases p5 : dep = 0
                  · subst p5
                    have d6 : decide (dl < 0) = true := by simp; omega
                    have hb : (true != true) = false := rfl
                    go_upto_region 13 with (at_lookup; refine wpList_lookup_w (by kernel_rfl) rfl rfl rfl hrun4.out ?_; simp only [Act.put, List.setIfInBounds_toArray, List.set_cons_zero, List.set_cons_succ])
                    go_wp2_with (first
              | (refine wpList_row bigN r7.out hsz.out rfl rfl rfl ?_; simp only [Act.put, List.setIfInBounds_toArray, List.set_cons_zero, List.set_cons_succ])
              | (refine wpList_put bigN rL.out hszl.out hsz.out (by have := hone.out; simpa using this) rfl rfl rfl rfl ?_; simp only [Act.put, List.setIfInBounds_toArray, List.set_cons_zero, List.set_cons_succ]))
                    go_roundw
                    case rel => exact ⟨k + 1, _, by omega, by go_num, by rw [htt.out, ← hts''.out]; go_num, fin.out (hG.out.2 (by have h9 := hF.out; have := p4'.out; refine ⟨by omega, by omega, by omega, ?_⟩; first | omega | exact ⟨fun _ => by omega, fun _ => trivial⟩))⟩
                    case measure => simp [intOf]; omega
                  · have d5 : (dep == 0) = false := by simp [p5]
                    have p5' := Lib.hid p5
                    clear p5
                    by_cases p6 : dl < 0
                    · have d6 : decide (dl < 0) = true := decide_eq_true p6
                      go_wp2_with (at_lookup; refine wpList_lookup_w (by kernel_rfl) rfl rfl rfl hrun4.out ?_; simp only [Act.put, List.setIfInBounds_toArray, List.set_cons_zero, List.set_cons_succ])
                      go_ret
                      exact ⟨.no (not_goes hlk hR'.out.good (fun h => by rw [hG.out] at h; have h9 := hF.out; have := p5'.out; omega)), grown_trans hgw'.out hg4'.out⟩
                    · have d6 : decide (dl < 0) = false := decide_eq_false p6
                      go_upto_region 13 with (at_lookup; refine wpList_lookup_w (by kernel_rfl) rfl rfl rfl hrun4.out ?_; simp only [Act.put, List.setIfInBounds_toArray, List.set_cons_zero, List.set_cons_succ])
                      go_wp2_with (first
              | (refine wpList_row bigN r7.out hsz.out rfl rfl rfl ?_; simp only [Act.put, List.setIfInBounds_toArray, List.set_cons_zero, List.set_cons_succ])
              | (refine wpList_put bigN rL.out hszl.out hsz.out (by have := hone.out; simpa using this) rfl rfl rfl rfl ?_; simp only [Act.put, List.setIfInBounds_toArray, List.set_cons_zero, List.set_cons_succ]))
                      go_roundw
                      case rel => exact ⟨k + 1, _, by omega, by go_num, by rw [htt.out, ← hts''.out]; go_num, fin.out (hG.out.2 (by have h9 := hF.out; have := p4'.out; have := p5'.out; refine ⟨by omega, by omega, by omega, ?_⟩; first | omega | exact ⟨fun _ => by omega, fun _ => trivial⟩))⟩
                      case measure => simp [intOf]; omega
              · have d3 : decide (dl < dep) = false := decide_eq_false p3
                by_cases p5 : dep = 0
                · subst p5
                  have d6 : decide (dl < 0) = false := by simp; omega
                  go_wp2_with (at_lookup; refine wpList_lookup_w (by kernel_rfl) rfl rfl rfl hrun4.out ?_; simp only [Act.put, List.setIfInBounds_toArray, List.set_cons_zero, List.set_cons_succ])
                  go_ret
                  exact ⟨.no (not_goes hlk hR'.out.good (fun h => by rw [hG.out] at h; have h9 := hF.out; have h8 := h.2.2.2.1 (by first | trivial | rfl); omega)), grown_trans hgw'.out hg4'.out⟩
                · have d5 : (dep == 0) = false := by simp [p5]
                  have d6 : decide (dl < 0) = false := by simp; omega
                  have p5' := Lib.hid p5
                  clear p5
                  go_upto_region 13 with (at_lookup; refine wpList_lookup_w (by kernel_rfl) rfl rfl rfl hrun4.out ?_; simp only [Act.put, List.setIfInBounds_toArray, List.set_cons_zero, List.set_cons_succ])
                  go_wp2_with (first
              | (refine wpList_row bigN r7.out hsz.out rfl rfl rfl ?_; simp only [Act.put, List.setIfInBounds_toArray, List.set_cons_zero, List.set_cons_succ])
              | (refine wpList_put bigN rL.out hszl.out hsz.out (by have := hone.out; simpa using this) rfl rfl rfl rfl ?_; simp only [Act.put, List.setIfInBounds_toArray, List.set_cons_zero, List.set_cons_succ]))
                  go_roundw
                  case rel => exact ⟨k + 1, _, by omega, by go_num, by rw [htt.out, ← hts''.out]; go_num, fin.out (hG.out.2 (by have h9 := hF.out; have := p5'.out; refine ⟨by omega, by omega, by omega, ?_⟩; first | omega | exact ⟨fun _ => by omega, fun _ => trivial⟩))⟩
                  case measure => simp [intOf]; omega
      · obtain rfl : k = n := by omega
        have hkk := Lib.hid (show L.take k = L by rw [List.take_of_length_le (by have := hlen'.out; omega)])
        rw [hkk.out] at hsum ⊢
        have hN := hNh.out.grown0 hR.grown
        obtain ⟨ad, rfl, _⟩ := hN.some_ (i := 0) (by omega)
        have z2 : wr.cell? ⟨ad.block, ad.off + 2, none⟩ = some (.int .u8 (kindN (nd L 0))) := by
          obtain ⟨ad', e, _, hc⟩ := hN.at_ (i := 0) (by omega)
          cases e
          have := (hc 2 (by omega)).trans (n_kind (hN.nd_ok (by omega))).1
          rwa [Nat.zero_mul, add_nil, add_pos _ _ (by omega)] at this
        have zd : wr.cell? ⟨w.heap.size, 0, none⟩ = some (.slice (some ad) k c) := hR.doc.at 0
        have hgood := hR.good
        have hgrow := hR.grown
        have hx' := Lib.hid h'.out
        have hS' := Lib.hid (show Shape L x ↔ (kindN (nd L 0) = 0 ∧ total L ≤ 1500) by
          rw [hS.out]
          exact ⟨fun h => h.2.2.2.2, fun h => ⟨h1, h2, h'.out, fun i hi => hgood i (by have := hlen'.out; omega), h⟩⟩)
        clear hN hR hR' hgood
        generalize kindN (nd L 0) = kd at *
        generalize total L = tt at *
        by_cases p1 : kd = 0
        · have d1 : (kd == 0) = true := by simp [p1]
          have p1' := Lib.hid p1
          clear p1
          by_cases p2 : tt ≤ 1500
          · have d2 : decide ((tt : Int) ≤ 1500) = true := by simp; omega
            go_wp2_with fail
            go_ret
            exact ⟨.yes (by rw [hS'.out]; exact ⟨p1'.out, p2⟩), hgrow⟩
          · have d2 : decide ((tt : Int) ≤ 1500) = false := by simp; omega
            go_wp2_with fail
            go_ret
            exact ⟨.no (by rw [hS'.out]; omega), hgrow⟩
        · have d1 : (kd == 0) = false := by simp [p1]
          have p1' := Lib.hid p1
          clear p1
          go_wp2_with fail
          go_ret
          exact ⟨.no (by rw [hS'.out]; exact fun h => p1'.out h.1), hgrow⟩
end Go.Proofs.Ytjnbfgogmhfbiaa
