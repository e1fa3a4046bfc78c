/- NetOnce. -/
import Derived.Test.YtdmhaigldckdbaaOj
import Derived.Test.YtdmhaigldckdbaaOf
import Derived.Deep.CutBlock
import Derived.Deep.RegionWith
namespace Go.Proofs.Ytdmhaigldckdbaa
open Go Go.RowKit
theorem IsActs.grown0 {w W : World} {A : Option Addr} {n c : Nat} {L : List ActV} (h : IsActs w A n c L) (hg : w.grownBy W none) : IsActs W A n c L :=
  ⟨h.1, h.2.1, h.2.2.1, fun a ha => by
    obtain ⟨a1, a2, a3, a4, a5, a6⟩ := h.2.2.2.1 a ha
    exact ⟨a1, a2, a3, a4, a5, (a6.grown0 hg).more hg.size⟩, (h.2.2.2.2.grown0 hg).more hg.size⟩
/-- Rows of flights of two bytes each, as they are read. -/
def RowR (W : World) (A : Option Addr) (out : List Flt) : Prop :=
  ∀ j x, out[j]? = some x → ∃ r, A = some ⟨r, 0, none⟩ ∧ W.cell? ⟨r, j * 2 + 1, none⟩ = some (.slice x.A 2 x.cap) ∧ Reads W W.heap.size x.A (x.bs.map byte) ∧ x.bs.length = 2 ∧ ∃ q, x.A = some ⟨q, 0, none⟩ ∧ W.cell? ⟨q, 1, none⟩ = some (.int .u8 ((nth x.bs 1 : Nat) : Int))
theorem RowR.mk {W : World} {A : Option Addr} {out : List Flt} {B N c : Nat} (hr : Own W B 33 2 A N c (rowF out)) (ho : ∀ x ∈ out, Own W B 5 1 x.A x.bs.length x.cap (x.bs.map byte)) (h2 : Two2 (out.map Flt.it)) : RowR W A out := fun j x hx => by
  have hm := List.mem_of_getElem? hx
  have hl : x.bs.length = 2 := h2 x.it (List.mem_map.2 ⟨x, hm, rfl⟩)
  have hj := (List.getElem?_eq_some_iff.1 hx).1
  obtain ⟨r, rfl, _, _, _, hcr⟩ := hr.cells_ (by rw [rowF_len]; omega)
  obtain ⟨_, x1⟩ := rowF_get out j x hx
  obtain ⟨q, hq, _, _, hq2, _⟩ := (ho x hm).byte_at (k := 1) (by omega)
  refine ⟨r, rfl, ?_, (ho x hm).reads, hl, q, hq, hq2⟩
  rw [hcr _ (by rw [rowF_len]; omega), x1, hl]
theorem RowR.grown0 {W W' : World} {A : Option Addr} {out : List Flt} (h : RowR W A out) (hg : W.grownBy W' none) : RowR W' A out := fun j x hx => by
  obtain ⟨r, h1, h2, h3, h4, q, h5, h6⟩ := h j x hx
  exact ⟨r, h1, hg.cell h2 (by simp), (h3.grown0 hg).more hg.size, h4, q, h5, hg.cell h6 (by simp)⟩
theorem drewN_reads {W : World} {B : Nat} {A : Option Addr} {xs : List Value} (h : Reads W B A xs) (q : Nat) : Reads (W.drewN q) B A xs := h.grown0 (grown_drewN (World.grownBy.refl _ none) q)
set_option maxRecDepth 100000 in
set_option maxHeartbeats 4000000 in
theorem NetOnce_walk (w : World) (A : Option Addr) (n c : Nat) (L : List ActV) (R : IsActs w A n c L) (id : Int) (wid : (Lit.int .u8 id).wf = true) :
    Calls Try.prog 3 #[.slice A n c, .int .u8 id] w fun e w' => e = .returned (.bool true) ∧ Below w.heap.size w w' := by
  have CA := Lib.hid (awake_any w)
  have CG := Lib.hid (fun W (hg : w.grownBy W none) => great_any W A n c L (R.grown0 hg))
  have hR := Lib.hid R
  have hln := R.1
  have hid2 := wf_u8 wid
  clear R wid
  go_enter Try.func3, Try.ntmps3
  go_wp2_with fail
  refine CA.out.mono ?_; rintro e wa ⟨rfl, hga⟩
  go_wp2_with fail
  refine (CG.out _ hga).mono ?_; rintro e w1 ⟨b, rfl, hb, hg1'⟩
  have hg1 := grown_trans hga hg1'
  clear hg1' hga
  cases b with
  | true =>
    go_wp2_with fail
    go_ret
    exact ⟨rfl, grown_below hg1⟩
  | false =>
    obtain ⟨hn, hall⟩ := hb rfl
    clear hb hall
    have CN := Lib.hid (at_new w w1 hg1)
    go_wp2_with fail
    refine CN.out.mono ?_; rintro e w2 ⟨g, rfl, hN⟩
    go_wp2_with fail
    have hN' := Lib.hid hN
    clear hN hg1
    go_loopw [6, 7, 8] (fun vi vo v wr => ∃ (i p q : Nat) (its : List (Int × List Nat)), i ≤ n ∧ v = .int .i64 i ∧ vi = .int .i64 p ∧ vo = .int .i64 q ∧ p ≤ i ∧ q ≤ i ∧ p = q + cnt id its ∧ Two2 its ∧ At w g its wr) (fun _ _ v _ => n - (intOf v).toNat)
    case atStart => exact ⟨0, 0, 0, [], by omega, rfl, rfl, rfl, by omega, by omega, rfl, by simp [Two2], hN'.out⟩
    case round =>
      obtain ⟨i, p, q, its, hi, rfl, rfl, rfl, hpi, hqi, hpq, h2, hA⟩ := hrel
      have hpq' := Lib.hid hpq
      have h2' := Lib.hid h2
      clear hpq h2
      by_cases hlt : i < n
      · obtain ⟨a, ha⟩ : ∃ a, L[i]? = some a := ⟨_, List.getElem?_eq_getElem (by omega)⟩
        obtain ⟨ad, rfl, e0, e1, e2, e3⟩ := hR.out.at hA.1 ha
        have ham := List.mem_of_getElem? ha
        obtain ⟨wk, wK, wt, hby, _, hrd⟩ := hR.out.2.2.2.1 a ham
        have hk := wf_u8 wk
        have hbg := World.grownBy_alloc wr (.cells #[.int .u8 a.kind, .int .i64 a.K, .int .i64 a.to, .slice a.A a.l.length a.c] 29) none
        have hB := Row.new wr 29 #[.int .u8 a.kind, .int .i64 a.K, .int .i64 a.to, .slice a.A a.l.length a.c]
        have CL := Lib.hid (at_all2 w _ g its (hA.grown0 hbg))
        have hA' := Lib.hid hA
        have hB' := Lib.hid hB
        have hbg' := Lib.hid hbg
        clear ha ham wk hN' hA hB hbg hrd hby wt
        obtain ⟨z, hz⟩ : ∃ z : Int, a.kind % 8 = z := ⟨_, rfl⟩
        have hz1 : a.kind.tmod 8 = z := by rw [Int.tmod_eq_emod_of_nonneg hk.1]; exact hz
        have hz2 : 0 ≤ z ∧ z < 8 := by omega
        go_wp2_with fail
        refine CL.out.mono ?_; rintro e w3 ⟨A5, c5, out5, rfl, hout, hO, _⟩
        have hH := Lib.hid (AtH.start hA'.out (grown_trans hbg'.out hO.1))
        have b0 : w3.cell? ⟨wr.heap.size, 0, none⟩ = some (.int .u8 a.kind) := hO.1.cell (hB'.out.at 0) (by simp)
        have b1 : w3.cell? ⟨wr.heap.size, 1, none⟩ = some (.int .i64 a.K) := hO.1.cell (hB'.out.at 1) (by simp)
        have hO' := Lib.hid hO
        have hout' := Lib.hid hout
        clear hO hout CL
        have hM : wr.heap.size ≤ wr.heap.size := Nat.le_refl _
        go_upto_block 2 with fail
        go_cut [6, 7, 11, 12, 13, 14, 15] from 45 to 130 (fun vp vq _ _ _ _ _ wx => ∃ (p' q' : Nat) (its' : List (Int × List Nat)), vp = .int .i64 p' ∧ vq = .int .i64 q' ∧ p' ≤ i + 1 ∧ q' ≤ i + 1 ∧ p' = q' + cnt id its' ∧ Two2 its' ∧ Stands its its' ∧ AtH w g its' wr.heap.size w3 wx)
        case first =>
          clear e0 e1 e2 e3
          rcases (by omega : z = 0 ∨ z = 1 ∨ 2 ≤ z) with rfl | rfl | hz3
          · by_cases hne : its = []
            · subst hne
              go_wp2_with fail
              refine (h_tnone hH.out a.K).mono ?_; rintro e w4 ⟨rfl, h4⟩
              have h4' := Lib.hid (h4.grown0 (World.grownBy_alloc w4 (.cells #[.int .i64 0, .slice none 0 0] 33) none))
              clear h4
              go_wp2_with fail
              go_meet
              exact ⟨p, q, [], rfl, rfl, by omega, by omega, hpq'.out, h2'.out, stands_same _, h4'.out⟩
            · have hp : 0 < its.length := List.length_pos_iff.2 hne
              obtain ⟨x, hx⟩ : ∃ x, its[place a.K its.length]? = some x := ⟨_, List.getElem?_eq_getElem (place_lt _ hp)⟩
              have CT := Lib.hid (h_take hH.out a.K hp x hx)
              have hxl := h2'.out x (List.mem_of_getElem? hx)
              have hce := Lib.hid (cnt_erase id x its _ hx)
              have hst := Lib.hid (stands_erase its (place a.K its.length))
              have htw := Lib.hid (two_erase h2'.out (place a.K its.length))
              generalize its.eraseIdx (place a.K its.length) = its' at *
              clear hx hne
              obtain ⟨xt, xl⟩ := x
              obtain ⟨u, v, rfl⟩ : ∃ u v, xl = [u, v] := by
                match xl, hxl with
                | [u, v], _ => exact ⟨u, v, rfl⟩
              clear hxl
              go_wp2_with fail
              refine CT.out.mono ?_; rintro e w4 ⟨A4, c4, rfl, h4, ho⟩
              have hga := World.grownBy_alloc w4 (.cells #[.int .i64 xt, .slice A4 2 c4] 33) none
              have h4' := Lib.hid (h4.grown0 hga)
              obtain ⟨r, rfl, _, _, r1, _⟩ := (ho.grown0 hga).byte_at (k := 1) (by simp)
              have e8 : isId id (xt, [u, v]) = ((v : Int) == id) := rfl
              have e8' := Lib.hid e8
              have r2 : (w4.alloc (.cells #[.int .i64 xt, .slice (some ⟨r, 0, none⟩) 2 c4] 33)).cell? ⟨r, 1, none⟩ = some (.int .u8 (v : Int)) := r1
              clear h4 ho hga e8 r1 CT
              cases hq : ((v : Int) == id) with
              | true =>
                have hq' := Lib.hid hq
                go_wp2_with fail
                go_meet
                exact ⟨p, q + 1, its', rfl, by go_num, by omega, by omega, by
                  have a1 := hce.out; have a2 := hpq'.out; rw [e8'.out, hq'.out] at a1; unfold one at a1; simp at a1; omega, htw.out, hst.out, h4'.out⟩
              | false =>
                have hq' := Lib.hid hq
                go_wp2_with fail
                go_meet
                exact ⟨p, q, its', rfl, rfl, by omega, by omega, by
                  have a1 := hce.out; have a2 := hpq'.out; rw [e8'.out, hq'.out] at a1; unfold one at a1; simp at a1; omega, htw.out, hst.out, h4'.out⟩
          · by_cases hne : its = []
            · subst hne
              rcases (by omega : 0 < a.K ∨ a.K ≤ 0) with hK | hK
              all_goals
                go_wp2_with fail
                refine (h_cnone hH.out a.K).mono ?_; rintro e w4 ⟨rfl, h4⟩
                have h4' := Lib.hid h4
                have b1' := h4.cell hM b1
                clear h4 b0 b1
                go_wp2_with fail
                go_meet
                exact ⟨p, q, [], rfl, rfl, by omega, by omega, hpq'.out, h2'.out, stands_same _, h4'.out⟩
            · have hp : 0 < its.length := List.length_pos_iff.2 hne
              have hlen := hH.out.len
              have hpl := place_lt a.K hp
              have hpe : 0 < a.K → a.K.tmod (its.length : Int) = ((place a.K its.length : Nat) : Int) := fun h => by
                unfold place
                rw [Int.tmod_eq_emod_of_nonneg (by omega), Int.natCast_emod, Int.toNat_of_nonneg (by omega)]
              have hpz : a.K ≤ 0 → place a.K its.length = 0 := fun h => by
                unfold place
                rw [Int.toNat_of_nonpos (by omega), Nat.zero_mod]
              have hpe' := Lib.hid hpe
              have hpz' := Lib.hid hpz
              clear hpe hpz
              by_cases hf : its.length = 64
              · have CC := Lib.hid (h_cfull hH.out a.K hf)
                have hfh := Lib.hid hf
                clear hf hne
                rcases (by omega : 0 < a.K ∨ a.K ≤ 0) with hK | hK
                · have hpe := hpe'.out hK
                  clear hpe' hpz'
                  generalize place a.K its.length = pl at *
                  go_wp2_with fail
                  refine CC.out.mono ?_; rintro e w4 ⟨rfl, h4⟩
                  have h4' := Lib.hid h4
                  have b1' := h4.cell hM b1
                  clear h4 b0 b1
                  go_wp2_with fail
                  go_meet
                  exact ⟨p, q, its, rfl, rfl, by omega, by omega, hpq'.out, h2'.out, stands_same _, h4'.out⟩
                · clear hpe' hpz'
                  go_wp2_with fail
                  refine CC.out.mono ?_; rintro e w4 ⟨rfl, h4⟩
                  have h4' := Lib.hid h4
                  have b1' := h4.cell hM b1
                  clear h4 b0 b1
                  go_wp2_with fail
                  go_meet
                  exact ⟨p, q, its, rfl, rfl, by omega, by omega, hpq'.out, h2'.out, stands_same _, h4'.out⟩
              · obtain ⟨x, hx⟩ : ∃ x, its[place a.K its.length]? = some x := ⟨_, List.getElem?_eq_getElem hpl⟩
                have CC := Lib.hid (h_copy hH.out a.K (by omega) hp x hx)
                have hxl := h2'.out x (List.mem_of_getElem? hx)
                have hcs := Lib.hid (cnt_snoc id its x)
                have hst := Lib.hid (stands_snoc its x)
                have htw := Lib.hid (two_snoc h2'.out hxl)
                obtain ⟨y, hy⟩ : ∃ y, out5[place a.K its.length]? = some y := ⟨_, List.getElem?_eq_getElem (by have := congrArg List.length hout'.out; rw [List.length_map] at this; omega)⟩
                have hyx : y.it = x := by
                  have e2 : (out5.map Flt.it)[place a.K its.length]? = its[place a.K its.length]? := by rw [hout'.out]
                  rw [List.getElem?_map, hy, hx] at e2
                  exact Option.some.inj e2
                subst hyx
                obtain ⟨yt, yA, yc, yl⟩ := y
                obtain ⟨u, v, rfl⟩ : ∃ u v, yl = [u, v] := by
                  match yl, hxl with
                  | [u, v], _ => exact ⟨u, v, rfl⟩
                have hbB : wr.heap.size ≤ (wr.alloc (.cells #[.int .u8 a.kind, .int .i64 a.K, .int .i64 a.to, .slice a.A a.l.length a.c] 29)).heap.size := by simp
                have HR := Lib.hid (fun W (h : AtH w g (its ++ [(yt, [u, v])]) wr.heap.size w3 W) => h.own hO'.out.2.2.2 hbB)
                have HY := Lib.hid (fun W (h : AtH w g (its ++ [(yt, [u, v])]) wr.heap.size w3 W) => h.own (hO'.out.2.2.1.1 _ (List.mem_of_getElem? hy)).2 hbB)
                have hrl := rowF_len out5
                have hol : out5.length = its.length := by have := congrArg List.length hout'.out; rw [List.length_map] at this; omega
                have hrl' := Lib.hid hrl
                have hol' := Lib.hid hol
                obtain ⟨_, x1⟩ := rowF_get out5 _ _ hy
                have x1' := Lib.hid x1
                have e8' := Lib.hid (show isId id (yt, [u, v]) = ((v : Int) == id) from rfl)
                have hfh := Lib.hid hf
                clear hx hxl hy hne hbB hrl hol x1 hf
                rcases (by omega : 0 < a.K ∨ a.K ≤ 0) with hK | hK
                · have hpe := hpe'.out hK
                  clear hpe' hpz'
                  generalize place a.K its.length = pl at *
                  go_wp2_with fail
                  refine CC.out.mono ?_; rintro e w4 ⟨rfl, h4⟩
                  have b1' := h4.cell hM b1
                  have hRR := HR.out _ h4
                  obtain ⟨r, rfl, _, _, _, hcr⟩ := hRR.cells_ (by rw [hrl'.out, hol'.out]; omega)
                  have y1 := (hcr (pl * 2 + 1) (by rw [hrl'.out, hol'.out]; omega)).trans x1'.out
                  obtain ⟨r2, rfl, _, _, r3, _⟩ := (HY.out _ h4).byte_at (k := 1) (by simp)
                  have r4 : w4.cell? ⟨r2, 1, none⟩ = some (.int .u8 (v : Int)) := r3
                  replace y1 : w4.cell? ⟨r, pl * 2 + 1, none⟩ = some (.slice (some ⟨r2, 0, none⟩) 2 yc) := y1
                  have h4' := Lib.hid h4
                  clear h4 b0 b1 hRR hcr r3 HR HY CC hrl' hol' x1'
                  cases hq : ((v : Int) == id) with
                  | true =>
                    have hq' := Lib.hid hq
                    go_wp2_with fail
                    go_meet
                    exact ⟨p + 1, q, _, by go_num, rfl, by omega, by omega, by
                      have a1 := hcs.out; have a2 := hpq'.out; have a3 := e8'.out; rw [hq'.out] at a3; unfold one at a1; simp [Flt.it, a3] at a1; simp [Flt.it]; omega, htw.out, hst.out, h4'.out⟩
                  | false =>
                    have hq' := Lib.hid hq
                    go_wp2_with fail
                    go_meet
                    exact ⟨p, q, _, rfl, rfl, by omega, by omega, by
                      have a1 := hcs.out; have a2 := hpq'.out; have a3 := e8'.out; rw [hq'.out] at a3; unfold one at a1; simp [Flt.it, a3] at a1; simp [Flt.it]; omega, htw.out, hst.out, h4'.out⟩
                · have hpz := hpz'.out hK
                  rw [hpz] at x1'
                  clear hpe' hpz' hpz
                  go_wp2_with fail
                  refine CC.out.mono ?_; rintro e w4 ⟨rfl, h4⟩
                  have b1' := h4.cell hM b1
                  have hRR := HR.out _ h4
                  obtain ⟨r, rfl, _, _, _, hcr⟩ := hRR.cells_ (by rw [hrl'.out, hol'.out]; omega)
                  have y1 := (hcr (0 * 2 + 1) (by rw [hrl'.out, hol'.out]; omega)).trans x1'.out
                  obtain ⟨r2, rfl, _, _, r3, _⟩ := (HY.out _ h4).byte_at (k := 1) (by simp)
                  have r4 : w4.cell? ⟨r2, 1, none⟩ = some (.int .u8 (v : Int)) := r3
                  replace y1 : w4.cell? ⟨r, 1, none⟩ = some (.slice (some ⟨r2, 0, none⟩) 2 yc) := y1
                  have h4' := Lib.hid h4
                  clear h4 b0 b1 hRR hcr r3 HR HY CC hrl' hol' x1'
                  cases hq : ((v : Int) == id) with
                  | true =>
                    have hq' := Lib.hid hq
                    go_wp2_with fail
                    go_meet
                    exact ⟨p + 1, q, _, by go_num, rfl, by omega, by omega, by
                      have a1 := hcs.out; have a2 := hpq'.out; have a3 := e8'.out; rw [hq'.out] at a3; unfold one at a1; simp [Flt.it, a3] at a1; simp [Flt.it]; omega, htw.out, hst.out, h4'.out⟩
                  | false =>
                    have hq' := Lib.hid hq
                    go_wp2_with fail
                    go_meet
                    exact ⟨p, q, _, rfl, rfl, by omega, by omega, by
                      have a1 := hcs.out; have a2 := hpq'.out; have a3 := e8'.out; rw [hq'.out] at a3; unfold one at a1; simp [Flt.it, a3] at a1; simp [Flt.it]; omega, htw.out, hst.out, h4'.out⟩
          · have q0 : (z == 0) = false := by simp; omega
            have q1 : (z == 1) = false := by simp; omega
            have hlen := hH.out.len
            have hrd := Reads.new_ w3 5 [i / 256, i % 256] (by simp)
            have e7 : (List.map byte [i / 256, i % 256]).toArray = #[.int .u8 ((i : Int) / 256), .int .u8 ((i : Int) % 256)] := by simp [byte]
            rw [e7] at hrd
            have hga := World.grownBy_alloc w3 (.cells #[.int .u8 ((i : Int) / 256), .int .u8 ((i : Int) % 256)] 5) none
            have e8' := Lib.hid (show isId id (0, [i / 256, i % 256]) = ((i : Int) % 256 == id) by unfold isId; simp [nth])
            have hcs := Lib.hid (cnt_snoc id its (0, [i / 256, i % 256]))
            have hst := Lib.hid (stands_snoc its (0, [i / 256, i % 256]))
            have htw := Lib.hid (two_snoc h2'.out (x := (0, [i / 256, i % 256])) rfl)
            by_cases hf : its.length = 64
            · have CS := Lib.hid (h_sfull (hH.out.grown0 hga) 0 (some ⟨w3.heap.size, 0, none⟩) 2 2 (by omega) (by omega) hf)
              clear hf hrd e7 hga
              go_wp2_with fail
              refine CS.out.mono ?_; rintro e w4 ⟨rfl, h4⟩
              have h4' := Lib.hid h4
              clear h4 CS
              go_wp2_with fail
              go_meet
              exact ⟨p, q, its, rfl, rfl, by omega, by omega, hpq'.out, h2'.out, stands_same _, h4'.out⟩
            · have CS := Lib.hid (h_send (hH.out.grown0 hga) 0 (some ⟨w3.heap.size, 0, none⟩) 2 2 [i / 256, i % 256] _ (by omega) (by omega) rfl (by omega) (by intro z hz; simp at hz; omega) hrd)
              clear hf hrd e7 hga
              go_wp2_with fail
              refine CS.out.mono ?_; rintro e w4 ⟨rfl, h4⟩
              have h4' := Lib.hid h4
              clear h4 CS
              cases hq : ((i : Int) % 256 == id) with
              | true =>
                have hq' := Lib.hid hq
                go_wp2_with fail
                go_meet
                exact ⟨p + 1, q, _, by go_num, rfl, by omega, by omega, by
                  have a1 := hcs.out; have a2 := hpq'.out; have a3 := e8'.out; rw [hq'.out] at a3; unfold one at a1; simp [a3] at a1; omega, htw.out, hst.out, h4'.out⟩
              | false =>
                have hq' := Lib.hid hq
                go_wp2_with fail
                go_meet
                exact ⟨p, q, _, rfl, rfl, by omega, by omega, by
                  have a1 := hcs.out; have a2 := hpq'.out; have a3 := e8'.out; rw [hq'.out] at a3; unfold one at a1; simp [a3] at a1; omega, htw.out, hst.out, h4'.out⟩
        case rest =>
          obtain ⟨p', q', its', rfl, rfl, hp1, hq1, hpq2, htw, hst, h4⟩ := hcut
          have CL := Lib.hid (at_all2 w _ g its' h4.toAt)
          have hpq3 := Lib.hid hpq2
          have htw' := Lib.hid htw
          have hst' := Lib.hid hst
          have h4' := Lib.hid h4
          have h2o := Lib.hid h2'.out
          clear hpq2 htw hst h4 hpq' h2' b0 b1 e0 e1 e2 e3
          go_wp2_with fail
          refine CL.out.mono ?_; rintro e w6 ⟨A6, c6, out6, rfl, hout6, hO6, hA6⟩
          have hbB : wr.heap.size ≤ (wr.alloc (.cells #[.int .u8 a.kind, .int .i64 a.K, .int .i64 a.to, .slice a.A a.l.length a.c] 29)).heap.size := by simp
          have hH6 := h4'.out.grown0 hO6.1
          have D1 := Lib.hid (RowR.mk (hH6.own hO'.out.2.2.2 hbB) (fun x hx => hH6.own (hO'.out.2.2.1.1 x hx).2 hbB) (by rw [hout'.out]; exact h2o.out))
          have D2 := Lib.hid (RowR.mk hO6.2.2.2 (fun x hx => (hO6.2.2.1.1 x hx).2) (by rw [hout6]; exact htw'.out))
          obtain ⟨F, hF1, hF2⟩ := hst'.out
          have hF1' := Lib.hid hF1
          have hF : ∀ k y, k < its.length → out6[k]? = some y → ∃ x, out5[F k]? = some x ∧ x.bs = y.bs ∧ F k < its.length := fun k y hk hy => by
            obtain ⟨x, hx, hxy⟩ := hF2 k y.it (by rw [← hout6, List.getElem?_map, hy]; rfl) hk
            have e2 : (out5.map Flt.it)[F k]? = its[F k]? := by rw [hout'.out]
            rw [List.getElem?_map, hx] at e2
            obtain ⟨x', hx', rfl⟩ := Option.map_eq_some_iff.1 e2
            exact ⟨x', hx', hxy, (List.getElem?_eq_some_iff.1 hx).1⟩
          have hF' := Lib.hid hF
          have hl5 : out5.length = its.length := by have := congrArg List.length hout'.out; rwa [List.length_map] at this
          have hl6 : out6.length = its'.length := by have := congrArg List.length hout6; rwa [List.length_map] at this
          have hl5' := Lib.hid hl5
          have hl6' := Lib.hid hl6
          have hA6' := Lib.hid hA6
          have hL1 := hH.out.len
          have hL2 := h4'.out.len
          have hlen1 := Lib.hid hL1
          obtain ⟨N1, hN1⟩ : ∃ N, its.length = N := ⟨_, rfl⟩
          obtain ⟨N2, hN2⟩ : ∃ N, its'.length = N := ⟨_, rfl⟩
          rw [hN1] at hL1
          rw [hN2] at hL2
          have hN1' := Lib.hid hN1
          have hN2' := Lib.hid hN2
          simp only [hN1, hN2]
          clear hF1 hF2 hF hH6 hO6 hout6 hA6 hbB hl5 hl6 hN1 hN2 h2o
          go_upto_region 32 with fail
          go_loopw [18, 19] (fun va vk wr => ∃ k m : Nat, k ≤ N2 ∧ m ≤ F k ∧ vk = .int .i64 k ∧ va = .int .i64 m ∧ Drew w6 wr) (fun _ vk _ => N2 - (intOf vk).toNat)
          case atStart => exact ⟨0, 0, by omega, by omega, rfl, rfl, Drew.refl_ _⟩
          case round =>
            obtain ⟨k, m, hk, hmF, rfl, rfl, hD⟩ := hrel
            have hD' := Lib.hid hD
            clear hD
            by_cases hk2 : k < N2
            · by_cases hk1 : k < N1
              · obtain ⟨y, hy⟩ : ∃ y, out6[k]? = some y := ⟨_, List.getElem?_eq_getElem (by have := hl6'.out; have := hN2'.out; omega)⟩
                obtain ⟨x, hx, hxy, hFk⟩ := hF'.out k y (by have := hN1'.out; omega) hy
                have hFk1 : F k < N1 := by have := hN1'.out; omega
                have hFs := Lib.hid (hF1'.out k)
                obtain ⟨r6, rfl, y1, yr, yl, _⟩ := D2.out k y hy
                have hx' := Lib.hid hx
                have hxy' := Lib.hid hxy
                have hy' := Lib.hid hy
                have y1' := Lib.hid y1
                have yr' := Lib.hid yr
                have yl' := Lib.hid yl
                clear hx hxy hy y1 yr yl hFk
                generalize hFk0 : F k = fk at *
                have hFk' := Lib.hid hFk0
                clear hFk0
                go_upto_region 34 with fail
                go_loopw [18] (fun va wr => ∃ m : Nat, m ≤ fk ∧ va = .int .i64 m ∧ Drew w6 wr) (fun va _ => fk - (intOf va).toNat)
                case atStart => exact ⟨m, hmF, rfl, hD'.out⟩
                case round =>
                  obtain ⟨j, hj, rfl, hE⟩ := hrel
                  have hjN : j < N1 := by omega
                  obtain ⟨x2, hx2⟩ : ∃ x2, out5[j]? = some x2 := ⟨_, List.getElem?_eq_getElem (by have := hl5'.out; have := hN1'.out; omega)⟩
                  obtain ⟨r5, rfl, x1, xr, xl, _⟩ := D1.out j x2 hx2
                  have hg6 := hE.grown_ (row := none)
                  have z1 := hg6.cell x1 (by simp)
                  have z2 := hg6.cell y1'.out (by simp)
                  have CQ := Lib.hid (fun q => same_q x2.A y.A 2 x2.cap 2 y.cap x2.bs y.bs (wr.drewN q) _ _ xl yl'.out (drewN_reads (xr.grown0 hg6) q) (drewN_reads (yr'.out.grown0 hg6) q) (by omega) (by omega))
                  have hE' := Lib.hid hE
                  have hx2' := Lib.hid hx2
                  clear x1 xr xl hg6 hE hx2
                  cases hb : (x2.bs == y.bs) with
                  | true =>
                    rw [hb] at CQ
                    clear hb
                    go_wp2_with fail
                    go_quiet ((go_at_call 15; exact quiet_drew (CQ.out _)))
                    have eqf : ((j : Int) == (N1 : Int)) = false := by simp; omega
                    go_wp2_with fail
                    go_roundw
                    case rel => exact ⟨k + 1, j + 1, by omega, by have := hFs.out; omega, by go_num, by go_num, hE'.out.more_ _⟩
                    case measure => simp [intOf]; omega
                  | false =>
                    have hne : j ≠ fk := by
                      rintro rfl
                      have e1 := hx'.out
                      rw [hx2'.out] at e1
                      cases e1
                      rw [hxy'.out] at hb
                      simp at hb
                    rw [hb] at CQ
                    clear hb
                    go_wp2_with fail
                    go_quiet ((go_at_call 15; exact quiet_drew (CQ.out _)))
                    go_wp2_with fail
                    go_roundw
                    case rel => exact ⟨j + 1, by omega, by go_num, hE'.out.more_ _⟩
                    case measure => simp [intOf]; omega
              · go_wp2_with fail
                go_roundw
                case rel => exact ⟨i + 1, p', q', its', by omega, by go_num, rfl, rfl, hp1, hq1, hpq3.out, htw'.out, hA6'.out.grown0 hD'.out.grown_⟩
                case measure => simp [intOf]; omega
            · go_wp2_with fail
              go_roundw
              case rel => exact ⟨i + 1, p', q', its', by omega, by go_num, rfl, rfl, hp1, hq1, hpq3.out, htw'.out, hA6'.out.grown0 hD'.out.grown_⟩
              case measure => simp [intOf]; omega
      · have CL := Lib.hid (at_all2 w _ g its hA)
        have hpq3 := hpq'.out
        have hL1 := (AtH.start hA (World.grownBy.refl _ none)).len
        clear hA
        obtain rfl : i = n := by omega
        go_wp2_with fail
        refine CL.out.mono ?_; rintro e w6 ⟨A6, c6, out6, rfl, hout6, hO6, hA6⟩
        have D2 := Lib.hid (RowR.mk hO6.2.2.2 (fun x hx => (hO6.2.2.1.1 x hx).2) (by rw [hout6]; exact h2'.out))
        have hl6 : out6.length = its.length := by have := congrArg List.length hout6; rwa [List.length_map] at this
        have hg6 := hA6.1
        have ho6' := Lib.hid hout6
        obtain ⟨N1, hN1⟩ : ∃ N, its.length = N := ⟨_, rfl⟩
        rw [hN1] at hL1
        have hN1' := Lib.hid hN1
        have hl6' := Lib.hid hl6
        simp only [hN1]
        clear hO6 hA6 hout6 hN1 hl6 hpq3
        go_wp2_with fail
        go_loopw [20, 22] (fun vl v wr => ∃ k m : Nat, k ≤ N1 ∧ m = cnt id (its.take k) ∧ v = .int .i64 k ∧ vl = .int .i64 m ∧ wr = w6) (fun _ v _ => N1 - (intOf v).toNat)
        case atStart => exact ⟨0, 0, by omega, by simp [cnt], rfl, rfl, rfl⟩
        case round =>
          obtain ⟨k, m, hk, hm, rfl, rfl, rfl⟩ := hrel
          have hm' := Lib.hid hm
          clear hm
          by_cases hlt : k < N1
          · obtain ⟨y, hy⟩ : ∃ y, out6[k]? = some y := ⟨_, List.getElem?_eq_getElem (by have := hl6'.out; have := hN1'.out; omega)⟩
            obtain ⟨r6, rfl, y1, yr, yl, q2, yq, r3⟩ := D2.out k y hy
            have hix : its[k]? = some y.it := by rw [← ho6'.out, List.getElem?_map, hy]; rfl
            have hct := Lib.hid (cnt_take id its k _ hix)
            obtain ⟨yt, yA, yc, ys⟩ := y
            obtain ⟨u, v, rfl⟩ : ∃ u v, ys = [u, v] := by
              match ys, yl with
              | [u, v], _ => exact ⟨u, v, rfl⟩
            dsimp only at yq
            subst yq
            have r4 : wr.cell? ⟨q2, 1, none⟩ = some (.int .u8 (v : Int)) := r3
            have e8' := Lib.hid (show isId id (yt, [u, v]) = ((v : Int) == id) from rfl)
            have hmb : m ≤ k := by rw [hm'.out]; unfold cnt; exact Nat.le_trans (List.length_filter_le _ _) (List.length_take_le _ _)
            clear hix hy yr yl r3
            cases hq : ((v : Int) == id) with
            | true =>
              have hq' := Lib.hid hq
              go_wp2_with fail
              go_roundw
              case rel => exact ⟨k + 1, m + 1, by omega, by
                have a1 := hct.out; have a3 := e8'.out; rw [hq'.out] at a3; rw [a1, ← hm'.out]; unfold one; simp [Flt.it, a3], by go_num, by go_num, trivial⟩
              case measure => simp [intOf]; omega
            | false =>
              have hq' := Lib.hid hq
              go_wp2_with fail
              go_roundw
              case rel => exact ⟨k + 1, m, by omega, by
                have a1 := hct.out; have a3 := e8'.out; rw [hq'.out] at a3; rw [a1, ← hm'.out]; unfold one; simp [Flt.it, a3], by go_num, rfl, trivial⟩
              case measure => simp [intOf]; omega
          · obtain rfl : k = N1 := by omega
            have e9 : p = q + m := by
              have a1 := hm'.out; rw [List.take_of_length_le (by rw [hN1'.out]; exact Nat.le_refl _)] at a1
              have := hpq'.out; omega
            subst e9
            go_wp2_with fail
            go_ret
            exact ⟨by simp, grown_below hg6⟩
end Go.Proofs.Ytdmhaigldckdbaa
