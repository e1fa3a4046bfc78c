/- NetPlays. -/
import Derived.Test.YtdmhaigldckdbaaOg
import Derived.Test.YtdmhaigldckdbaaTrk
import Derived.Deep.CutBlock
import Derived.Deep.RegionWith
import Derived.StillTailTactics
namespace Go.Proofs.Ytdmhaigldckdbaa
open Go Go.RowKit
theorem Row.four {w : World} {g : Nat} {T : TypeId} {a b c d : Value} (h : Row w g T #[a, b, c, d]) : w.cell? ⟨g, 0, none⟩ = some a ∧ w.cell? ⟨g, 1, none⟩ = some b ∧ w.cell? ⟨g, 2, none⟩ = some c ∧ w.cell? ⟨g, 3, none⟩ = some d := ⟨h.at 0, h.at 1, h.at 2, h.at 3⟩
/-- The document's flights, as they lie. -/
theorem Joint.doc {w0 w : World} {g g2 : Nat} {i1 i2 : List (Int × List Nat)} {K : List (Option Addr × Nat × List Nat)} {B : List (Nat × TypeId × Array Value)} (h : Joint w0 g g2 i1 i2 K B w) :
    ∃ A c, w.cell? ⟨g2, 0, none⟩ = some (.slice A i2.length c) ∧ ∀ k x, i2[k]? = some x → ∃ r Ab cb, A = some ⟨r, 0, none⟩ ∧ w.cell? ⟨r, k * 2, none⟩ = some (.int .i64 x.1) ∧ w.cell? ⟨r, k * 2 + 1, none⟩ = some (.slice Ab x.2.length cb) ∧ Own w w0.heap.size 5 1 Ab x.2.length cb (x.2.map byte) ∧ x.2.length ≤ 128 := by
  obtain ⟨fl, dl, rfl, rfl, h⟩ := h
  obtain ⟨k1, k2, k3, A, c, h4, h5⟩ := h.2.2.1
  refine ⟨A, c, by rw [cell_of_row w g2 0 _ _ _ h4, List.length_map]; rfl, fun k x hx => ?_⟩
  rw [List.getElem?_map] at hx
  obtain ⟨f, hf, rfl⟩ := Option.map_eq_some_iff.1 hx
  have hk := (List.getElem?_eq_some_iff.1 hf).1
  obtain ⟨r, rfl, _, _, _, hcr⟩ := h5.cells_ (by rw [rowF_len]; omega)
  obtain ⟨x0, x1⟩ := rowF_get dl _ f hf
  exact ⟨r, f.A, f.cap, rfl, (hcr _ (by rw [rowF_len]; omega)).trans x0, (hcr _ (by rw [rowF_len]; omega)).trans x1, (k3 f (List.mem_of_getElem? hf)).2, (k3 f (List.mem_of_getElem? hf)).1.1⟩
/-- Two nets, made. -/
theorem j_new (w w1 w2 w3 : World) (g g2 : Nat) (hg1 : w.grownBy w1 none) (hN : NetIs w2 w1.heap.size g []) (hg2 : w1.grownBy w2 none) (hD : DocIs w3 w2.heap.size g2 []) (hg3 : w2.grownBy w3 none) : Joint w g g2 [] [] [] [] w3 := by
  have b1 := hg1.size
  have b2 := hg2.size
  refine ⟨[], [], rfl, rfl, grown_trans hg1 (grown_trans hg2 hg3), ?_, ?_, by simp, by simp, by simp⟩
  · obtain ⟨k1, k2, k3, A, c, h4, h5⟩ := hN.grown0 hg3
    exact ⟨by omega, k2, ⟨by simp, List.Pairwise.nil⟩, A, c, h4, h5.base_ b1⟩
  · obtain ⟨k1, k2, k3, A, c, h4, h5⟩ := hD
    exact ⟨by omega, k2, by simp, A, c, h4, h5.base_ (by omega)⟩
/-- What is left of what All told. -/
def Rest (wx : World) (out : List Flt) (A : Option Addr) (n c k : Nat) (w : World) : Prop :=
  wx.grownBy w none ∧ Own w wx.heap.size 33 2 A n c (rowF out) ∧ ∀ j x, k ≤ j → out[j]? = some x → Own w wx.heap.size 5 1 x.A x.bs.length x.cap (x.bs.map byte)
theorem Rest.grown0 {wx w w' : World} {out : List Flt} {A : Option Addr} {n c k : Nat} (h : Rest wx out A n c k w) (hg : w.grownBy w' none) : Rest wx out A n c k w' :=
  ⟨grown_trans h.1 hg, h.2.1.grown0 hg, fun j x hj hx => (h.2.2 j x hj hx).grown0 hg⟩
theorem Rest.next {wx w w' : World} {out : List Flt} {A : Option Addr} {n c k : Nat} (h : Rest wx out A n c k w) (hp : out.Pairwise (fun f h => f.row = none ∨ f.row ≠ h.row)) {x : Flt} (hx : out[k]? = some x) (hg : w.grownBy w' (rowOf x.A x.cap)) : Rest wx out A n c (k + 1) w' := by
  obtain ⟨h1, h2, h3⟩ := h
  have ho := h3 k x (Nat.le_refl k) hx
  refine ⟨grown_new h1 hg (fun b hb => (ho.row_ge b hb).1), h2.kept_row ho (by decide) hg, fun j y hj hy => ?_⟩
  refine (h3 j y (by omega) hy).grownBy_ hg ?_
  obtain ⟨hk1, hk2⟩ := List.getElem?_eq_some_iff.1 hx
  obtain ⟨hj1, hj2⟩ := List.getElem?_eq_some_iff.1 hy
  have := List.pairwise_iff_getElem.1 hp k j hk1 hj1 (by omega)
  rw [hk2, hj2] at this
  rcases this with e | e
  · by_cases hc : rowOf y.A y.cap = none
    · exact .inl hc
    · exact .inr (by show y.row ≠ x.row; rw [e]; exact hc)
  · exact .inr (fun e2 => e e2.symm)
/-- Both nets, while one call after the other comes up. -/
def JI (w0 : World) (g g2 : Nat) (its its' : List (Int × List Nat)) (K : List (Option Addr × Nat × List Nat)) (B : List (Nat × TypeId × Array Value)) (p q : Nat) (L : List Nat) (W : World) : Prop := Joint w0 g g2 (if p ∈ L then its' else its) (if q ∈ L then its' else its) K B W
section
variable {w0 W : World} {g g2 p q i : Nat} {its its' : List (Int × List Nat)} {K : List (Option Addr × Nat × List Nat)} {B : List (Nat × TypeId × Array Value)} {L : List Nat}
theorem JI.mem : ∀ L L' W, (∀ i, i ∈ L ↔ i ∈ L') → JI w0 g g2 its its' K B p q L W → JI w0 g g2 its its' K B p q L' W := fun L L' W hm h => by
  unfold JI at h ⊢
  simp only [← hm]
  exact h
theorem JI.start (h : Joint w0 g g2 its its K B W) : JI w0 g g2 its its' K B p q [] W := by simpa [JI] using h
theorem JI.skip (h : JI w0 g g2 its its' K B p q L W) (h1 : p ≠ i) (h2 : q ≠ i) : JI w0 g g2 its its' K B p q (i :: L) W := by simpa [JI, h1, h2] using h
theorem JI.first (h : JI w0 g g2 its its' K B p q L W) (h1 : p ∉ L) : Joint w0 g g2 its (if q ∈ L then its' else its) K B W := by unfold JI at h; rwa [if_neg h1] at h
theorem JI.first_ (h1 : q ≠ p) (h : Joint w0 g g2 its' (if q ∈ L then its' else its) K B W) : JI w0 g g2 its its' K B p q (p :: L) W := by simpa [JI, h1] using h
theorem JI.second (h : JI w0 g g2 its its' K B p q L W) (h1 : q ∉ L) : Joint w0 g g2 (if p ∈ L then its' else its) its K B W := by unfold JI at h; rwa [if_neg h1] at h
theorem JI.second_ (h1 : p ≠ q) (h : Joint w0 g g2 (if p ∈ L then its' else its) its' K B W) : JI w0 g g2 its its' K B p q (q :: L) W := by simpa [JI, h1] using h
theorem JI.done (h : JI w0 g g2 its its' K B p q L W) (h1 : p ∈ L) (h2 : q ∈ L) : Joint w0 g g2 its' its' K B W := by unfold JI at h; rwa [if_pos h1, if_pos h2] at h
theorem JI.row (h : JI w0 g g2 its its' K B p q L W) {b : Nat} {T : TypeId} {cs : Array Value} (hk : (⟨b, T, cs⟩ : Nat × TypeId × Array Value) ∈ B) : Row W b T cs := Joint.row h hk
end
/-- What each of a region's operations yields. -/
def TV (vals : List Value) (i : Nat) (v : Value) : Prop := v = vals.getD i undef
theorem exec_load1 {P : Program} {ρ : Operand → Value} {o : Oper} {x : Operand} {T : TypeId} {a : Addr} {v : Value} {d : TypeDesc} (ho : o.op = .load T x) (hx : ρ x = .pointer (some a)) (hu : P.underlying T = some d) (hd : d.isRow = false) (w : World) (hc : w.cell? a = some v) : (execOp ρ o).run P w = .ok (.value v) w := by
  unfold execOp
  simp only [ho, hx, Sem.run_bind]
  cases d <;> simp_all [Instr.loadAt, Instr.sureAddr, loadVar, isAgg, run_underlying hu, Sem.run_bind, TypeDesc.isRow] <;> simp [Sem.run, hc]
set_option maxRecDepth 100000 in
set_option maxHeartbeats 4000000 in
theorem NetPlays_walk (w : World) (A : Option Addr) (n c : Nat) (L : List ActV) (R : IsActs w A n c L) :
    Calls Try.prog 6 #[.slice A n c] w fun e w' => e = .returned (.bool true) ∧ Below w.heap.size w w' := by
  have CG := Lib.hid (great_any w A n c L R)
  have hR := Lib.hid R
  have hln := R.1
  clear R
  go_enter Try.func6, Try.ntmps6
  go_wp2_with fail
  refine CG.out.mono ?_; rintro e w1 ⟨b, rfl, hb, hg1⟩
  cases b with
  | true =>
    go_wp2_with fail
    go_ret
    exact ⟨rfl, grown_below hg1⟩
  | false =>
    obtain ⟨hn, hall⟩ := hb rfl
    have hall' := Lib.hid hall
    clear hb hall
    go_wp2_with fail
    refine (new_any w1).mono ?_; rintro e w2 ⟨g, rfl, hN, hg2⟩
    go_wp2_with fail
    refine (rnew_any w2).mono ?_; rintro e w3 ⟨g2, rfl, hD, hg3⟩
    have hJ0 := Lib.hid (j_new w w1 w2 w3 g g2 hg1 hN hg2 hD hg3)
    clear hN hD hg1 hg2 hg3
    go_wp2_with fail
    go_loopw [5] (fun v wr => ∃ (i : Nat) (its : List (Int × List Nat)), i ≤ n ∧ v = .int .i64 i ∧ Joint w g g2 its its [] [] wr) (fun v _ => n - (intOf v).toNat)
    case atStart => exact ⟨0, [], by omega, rfl, hJ0.out⟩
    case round =>
      obtain ⟨i, its, hi, rfl, hJ⟩ := hrel
      by_cases hlt : i < n
      · obtain ⟨a, ha⟩ : ∃ a, L[i]? = some a := ⟨_, List.getElem?_eq_getElem (by omega)⟩
        obtain ⟨ad, rfl, e0, e1, e2, e3⟩ := hR.out.at hJ.grown ha
        have ham := List.mem_of_getElem? ha
        obtain ⟨wk, wK, wt, hby, _, hrd⟩ := hR.out.2.2.2.1 a ham
        have hal := hall'.out a ham
        have hk := wf_u8 wk
        have hB := Lib.hid (hJ.box 29 #[.int .u8 a.kind, .int .i64 a.K, .int .i64 a.to, .slice a.A a.l.length a.c] (by unfold Else; decide))
        clear ha ham wk hJ0
        obtain ⟨z, hz⟩ : ∃ z : Int, a.kind % 8 = z := ⟨_, rfl⟩
        have hz1 : a.kind.tmod 8 = z := by rw [Int.tmod_eq_emod_of_nonneg hk.1]; exact hz
        have hz2 : 0 ≤ z ∧ z < 8 := by omega
        go_upto_block 2 with fail
        go_cut [7, 8, 9, 10, 11, 12] from 21 to 150 (fun v _ _ _ _ _ wx => v = .bool true ∧ ∃ its', Joint w g g2 its' its' [] [] wx)
        case first =>
          rcases (by omega : z = 0 ∨ z = 1 ∨ z = 2 ∨ 3 ≤ z) with rfl | rfl | rfl | hz3
          · by_cases hne : its = []
            · subst hne
              go_wp2_with fail
              refine (j_tnone hB.out a.K).mono ?_; rintro e w4 ⟨rfl, h4⟩
              obtain ⟨q0, q1, q2, q3⟩ := (h4.row List.mem_cons_self).four
              have h5 := Lib.hid (h4.box 33 #[.int .i64 0, .slice none 0 0] (by unfold Else; decide))
              have p1 := (World.grownBy_alloc w4 (.cells #[.int .i64 0, .slice none 0 0] 33) none).cell q1 (by simp)
              go_wp2_with fail
              refine (j_rtnone h5.out a.K).mono ?_; rintro e w6 ⟨rfl, h6⟩
              obtain ⟨p2, p3⟩ := (h6.row List.mem_cons_self).two
              have hga := World.grownBy_alloc w6 (.cells #[.int .i64 0, .slice none 0 0] 51) none
              have h7 := Lib.hid (h6.grown0 hga)
              have p4 := hga.cell p2 (by simp)
              have p5 := hga.cell p3 (by simp)
              clear q0 q1 q2 q3 p1 hga
              go_wp2_with fail
              refine (lawsame_yes 0 none none 0 0 0 [] _ 0 0 rfl Reads.nil_ Reads.nil_ (by omega)).mono ?_; rintro e w8 ⟨rfl, hg8⟩
              have h8 := Lib.hid (h7.out.grown0 hg8)
              have p6 := hg8.cell p5 (by simp)
              clear p2 p3 p4 p5
              go_wp2_with fail
              refine (lawspoil_any w8 0 none 0 0 [] (Own.nil_ _ _ _ _ _) (by omega) (by simp [Byt])).mono ?_; rintro e w9 ⟨rfl, hg9⟩
              go_wp2_with fail
              go_meet
              case rel => exact ⟨rfl, [], (h8.out.grown0 (by simpa [rowOf] using hg9)).less⟩
            · have hp : 0 < its.length := List.length_pos_iff.2 hne
              obtain ⟨x, hx⟩ : ∃ x, its[place a.K its.length]? = some x := ⟨_, List.getElem?_eq_getElem (place_lt _ hp)⟩
              have CT := Lib.hid (j_take hB.out a.K hp x hx)
              have CD := Lib.hid (fun W K B h => j_rtake (w := W) (g := g) (g2 := g2) (w0 := w) (i1 := its.eraseIdx (place a.K its.length)) (K := K) (B := B) h a.K hp x hx)
              generalize its.eraseIdx (place a.K its.length) = its' at *
              clear hx
              go_wp2_with fail
              refine CT.out.mono ?_; rintro e w4 ⟨A4, c4, rfl, hx1, hx2, h4⟩
              obtain ⟨q0, q1, q2, q3⟩ := (h4.row List.mem_cons_self).four
              have h5 := Lib.hid (h4.box 33 #[.int .i64 x.1, .slice A4 x.2.length c4] (by unfold Else; decide))
              have p1 := (World.grownBy_alloc w4 (.cells #[.int .i64 x.1, .slice A4 x.2.length c4] 33) none).cell q1 (by simp)
              have hx2' := Lib.hid hx2
              clear hx2
              go_wp2_with fail
              refine (CD.out _ _ _ h5.out).mono ?_; rintro e w6 ⟨A6, c6, rfl, o6, h6⟩
              obtain ⟨p2, p3⟩ := (h6.row List.mem_cons_self).two
              have o4 := h6.told List.mem_cons_self
              have hga := World.grownBy_alloc w6 (.cells #[.int .i64 x.1, .slice A6 x.2.length c6] 51) none
              have h7 := Lib.hid (h6.grown0 hga)
              have o4a := Lib.hid (o4.grown0 hga).reads
              have o6a := Lib.hid (o6.grown0 hga).reads
              have p4 := hga.cell p2 (by simp)
              have p5 := hga.cell p3 (by simp)
              clear q0 q1 q2 q3 p1 hga o4 o6
              go_wp2_with fail
              refine (lawsame_yes x.1 A4 A6 x.2.length c4 c6 x.2 _ _ _ rfl o4a.out o6a.out (by omega)).mono ?_; rintro e w8 ⟨rfl, hg8⟩
              have h8 := Lib.hid (h7.out.grown0 hg8)
              have p6 := hg8.cell p5 (by simp)
              clear p2 p3 p4 p5
              go_wp2_with fail
              refine (lawspoil_any w8 _ A4 x.2.length c4 x.2 (h8.out.told List.mem_cons_self) (by omega) hx2'.out).mono ?_; rintro e w9 ⟨rfl, hg9⟩
              go_wp2_with fail
              go_meet
              case rel => exact ⟨rfl, its', (h8.out.write hg9).less⟩
          · have hJc := hB.out.grown0 (grown_drew (World.grownBy.refl _ none))
            -- copy begin
            go_wp2_with fail
            refine wp_region_held (S := fun _ => True) (by kernel_rfl) ?_
            refine Grow.wpAnyH_trackFrom [] [0, 1, 2, 3, 4, 5, 6, 7, 8] #[true, true, true, true, true, true, true, true, true, false] [(some 88, 0), (some 89, 1), (some 90, 2), (some 91, 3), (some 92, 4), (some 93, 5), (some 94, 6), (some 95, 7), (some 96, 8)] 1 (TV [.pointer (some ⟨g, 0, none⟩), .pointer (some ⟨wr.heap.size, 1, none⟩), .int .i64 a.K, .int .i64 (copyC its), .pointer (some ⟨g2, 0, none⟩), .pointer (some ⟨wr.heap.size, 1, none⟩), .int .i64 a.K, .int .i64 (copyC its), .bool true]) (JI w g g2 its (copyI its a.K) _ _ 3 7) (by kernel_rfl) (by kernel_rfl) (by kernel_rfl) (by decide) (by kernel_rfl) (by kernel_rfl) (by kernel_rfl) (fun _ _ _ => trivial) JI.mem (JI.start hJc) ?_ ?_
            · refine Grow.StepsT.cons [] [] rfl (by kernel_rfl) (by kernel_rfl) (fun vs LL W hI hi hLG hT K hK => ?_) ?_
              · simp only [Grow.putL] at hK ⊢
                go_simp
                exact hK _ _ ⟨hI.skip (by decide) (by decide), rfl⟩
              refine Grow.StepsT.cons [] [] rfl (by kernel_rfl) (by kernel_rfl) (fun vs LL W hI hi hLG hT K hK => ?_) ?_
              · simp only [Grow.putL] at hK ⊢
                go_simp
                exact hK _ _ ⟨hI.skip (by decide) (by decide), rfl⟩
              refine Grow.StepsT.cons [1] [(some 89, 1)] rfl (by kernel_rfl) (by kernel_rfl) (fun vs LL W hI hi hLG hT K hK => ?_) ?_
              · have t1 : vs 1 = .pointer (some ⟨wr.heap.size, 1, none⟩) := hT
                simp only [Grow.putL, t1] at hK ⊢
                have e1 := (hI.row List.mem_cons_self).four.2.1
                go_simp
                exact hK _ _ ⟨hI.skip (by decide) (by decide), rfl⟩
              refine Grow.StepsT.cons [0, 2] [(some 88, 0), (some 90, 2)] rfl (by kernel_rfl) (by kernel_rfl) (fun vs LL W hI hi hLG hT K hK => ?_) ?_
              · obtain ⟨t0, t2⟩ : vs 0 = .pointer (some ⟨g, 0, none⟩) ∧ vs 2 = .int .i64 a.K := hT
                simp only [Grow.putL, t0, t2] at hK ⊢
                go_simp
                refine (j_copy (hI.first (by simpa using hi)) a.K).mono ?_; rintro e V ⟨rfl, hV⟩
                exact hK _ _ ⟨JI.first_ (by decide) hV, rfl⟩
              refine Grow.StepsT.cons [] [] rfl (by kernel_rfl) (by kernel_rfl) (fun vs LL W hI hi hLG hT K hK => ?_) ?_
              · simp only [Grow.putL] at hK ⊢
                go_simp
                exact hK _ _ ⟨hI.skip (by decide) (by decide), rfl⟩
              refine Grow.StepsT.cons [] [] rfl (by kernel_rfl) (by kernel_rfl) (fun vs LL W hI hi hLG hT K hK => ?_) ?_
              · simp only [Grow.putL] at hK ⊢
                go_simp
                exact hK _ _ ⟨hI.skip (by decide) (by decide), rfl⟩
              refine Grow.StepsT.cons [5] [(some 93, 5)] rfl (by kernel_rfl) (by kernel_rfl) (fun vs LL W hI hi hLG hT K hK => ?_) ?_
              · have t5 : vs 5 = .pointer (some ⟨wr.heap.size, 1, none⟩) := hT
                simp only [Grow.putL, t5] at hK ⊢
                have e1 := (hI.row List.mem_cons_self).four.2.1
                go_simp
                exact hK _ _ ⟨hI.skip (by decide) (by decide), rfl⟩
              refine Grow.StepsT.cons [4, 6, 3] [(some 91, 3), (some 92, 4), (some 94, 6)] rfl (by kernel_rfl) (by kernel_rfl) (fun vs LL W hI hi hLG hT K hK => ?_) ?_
              · obtain ⟨t4, t6, t3⟩ : vs 4 = .pointer (some ⟨g2, 0, none⟩) ∧ vs 6 = .int .i64 a.K ∧ vs 3 = .int .i64 (copyC its) := hT
                simp only [Grow.putL, t4, t6, t3] at hK ⊢
                go_simp
                refine (j_rcopy (hI.second (by simpa using hi)) a.K).mono ?_; rintro e V ⟨rfl, hV⟩
                exact hK _ _ ⟨JI.second_ (by decide) hV, rfl⟩
              refine Grow.StepsT.cons [3, 7] [(some 91, 3), (some 95, 7)] rfl (by kernel_rfl) (by kernel_rfl) (fun vs LL W hI hi hLG hT K hK => ?_) Grow.StepsT.nil
              · obtain ⟨t3, t7⟩ : vs 3 = .int .i64 (copyC its) ∧ vs 7 = .int .i64 (copyC its) := hT
                simp only [Grow.putL, t3, t7] at hK ⊢
                go_simp
                exact hK _ _ ⟨hI.skip (by decide) (by decide), rfl⟩
            intro vs W6 hI hT
            have hJn := hI.done (by decide) (by decide)
            clear hI
            obtain ⟨t0, t1, t2, t3, t4, t5, t6, t7, t8⟩ : vs 0 = .pointer (some ⟨g, 0, none⟩) ∧ vs 1 = .pointer (some ⟨wr.heap.size, 1, none⟩) ∧ vs 2 = .int .i64 a.K ∧ vs 3 = .int .i64 (copyC its) ∧ vs 4 = .pointer (some ⟨g2, 0, none⟩) ∧ vs 5 = .pointer (some ⟨wr.heap.size, 1, none⟩) ∧ vs 6 = .int .i64 a.K ∧ vs 7 = .int .i64 (copyC its) ∧ vs 8 = .bool true := hT
            simp only [Grow.putL, t0, t1, t2, t3, t4, t5, t6, t7, t8, Act.put, List.getElem_toArray, List.getElem_cons_succ, List.getElem_cons_zero, List.setIfInBounds_toArray, List.set_cons_zero, List.set_cons_succ]
            clear t0 t1 t2 t3 t4 t5 t6 t7 t8
            refine wpAnyH_ready (rs := [9]) (by kernel_rfl) (by simp) ?_
            refine AllReadyH.cons rfl (fun K hK => ?_) AllReadyH.nil
            go_simp
            refine hK.out _ _ trivial (fun _ => ?_)
            clear hK K
            refine wpAnyH_done (by kernel_rfl) ?_ _
            go_wp2_with fail
            go_meet
            exact ⟨rfl, copyI its a.K, hJn.less⟩
            -- copy end
          · have hJc := hB.out.grown0 (grown_drew (World.grownBy.refl _ none))
            -- spoil begin
            go_wp2_with fail
            refine wp_region_held (S := fun _ => True) (by kernel_rfl) ?_
            refine Grow.wpAnyH_trackFrom [] [0, 1, 2, 3, 4, 5, 6, 7, 8, 9, 10, 11, 12] #[true, true, true, true, true, true, true, true, true, true, true, true, true, false] [(some 99, 0), (some 100, 1), (some 101, 2), (some 102, 3), (some 103, 4), (some 104, 5), (some 105, 6), (some 106, 7), (some 107, 8), (some 108, 9), (some 109, 10), (some 110, 11), (some 111, 12)] 1 (TV [.pointer (some ⟨g, 0, none⟩), .pointer (some ⟨wr.heap.size, 1, none⟩), .int .i64 a.K, .pointer (some ⟨wr.heap.size, 2, none⟩), .int .i64 a.to, .int .i64 (spoilC its), .pointer (some ⟨g2, 0, none⟩), .pointer (some ⟨wr.heap.size, 1, none⟩), .int .i64 a.K, .pointer (some ⟨wr.heap.size, 2, none⟩), .int .i64 a.to, .int .i64 (spoilC its), .bool true]) (JI w g g2 its (spoilI its a.K a.to) _ _ 5 11) (by kernel_rfl) (by kernel_rfl) (by kernel_rfl) (by decide) (by kernel_rfl) (by kernel_rfl) (by kernel_rfl) (fun _ _ _ => trivial) JI.mem (JI.start hJc) ?_ ?_
            · refine Grow.StepsT.cons [] [] rfl (by kernel_rfl) (by kernel_rfl) (fun vs LL W hI hi hLG hT K hK => ?_) ?_
              · simp only [Grow.putL] at hK ⊢
                go_simp
                exact hK _ _ ⟨hI.skip (by decide) (by decide), rfl⟩
              refine Grow.StepsT.cons [] [] rfl (by kernel_rfl) (by kernel_rfl) (fun vs LL W hI hi hLG hT K hK => ?_) ?_
              · simp only [Grow.putL] at hK ⊢
                go_simp
                exact hK _ _ ⟨hI.skip (by decide) (by decide), rfl⟩
              refine Grow.StepsT.cons [1] [(some 100, 1)] rfl (by kernel_rfl) (by kernel_rfl) (fun vs LL W hI hi hLG hT K hK => ?_) ?_
              · have t1 : vs 1 = .pointer (some ⟨wr.heap.size, 1, none⟩) := hT
                simp only [Grow.putL, t1] at hK ⊢
                have e1 := (hI.row List.mem_cons_self).four.2.1
                go_simp
                exact hK _ _ ⟨hI.skip (by decide) (by decide), rfl⟩
              refine Grow.StepsT.cons [] [] rfl (by kernel_rfl) (by kernel_rfl) (fun vs LL W hI hi hLG hT K hK => ?_) ?_
              · simp only [Grow.putL] at hK ⊢
                go_simp
                exact hK _ _ ⟨hI.skip (by decide) (by decide), rfl⟩
              refine Grow.StepsT.cons [3] [(some 102, 3)] rfl (by kernel_rfl) (by kernel_rfl) (fun vs LL W hI hi hLG hT K hK => ?_) ?_
              · have t3 : vs 3 = .pointer (some ⟨wr.heap.size, 2, none⟩) := hT
                simp only [Grow.putL, t3] at hK ⊢
                have e2 := (hI.row List.mem_cons_self).four.2.2.1
                go_simp
                exact hK _ _ ⟨hI.skip (by decide) (by decide), rfl⟩
              refine Grow.StepsT.cons [0, 2, 4] [(some 99, 0), (some 101, 2), (some 103, 4)] rfl (by kernel_rfl) (by kernel_rfl) (fun vs LL W hI hi hLG hT K hK => ?_) ?_
              · obtain ⟨t0, t2, t4⟩ : vs 0 = .pointer (some ⟨g, 0, none⟩) ∧ vs 2 = .int .i64 a.K ∧ vs 4 = .int .i64 a.to := hT
                simp only [Grow.putL, t0, t2, t4] at hK ⊢
                go_simp
                refine (j_spoil (hI.first (by simpa using hi)) a.K a.to).mono ?_; rintro e V ⟨rfl, hV⟩
                exact hK _ _ ⟨JI.first_ (by decide) hV, rfl⟩
              refine Grow.StepsT.cons [] [] rfl (by kernel_rfl) (by kernel_rfl) (fun vs LL W hI hi hLG hT K hK => ?_) ?_
              · simp only [Grow.putL] at hK ⊢
                go_simp
                exact hK _ _ ⟨hI.skip (by decide) (by decide), rfl⟩
              refine Grow.StepsT.cons [] [] rfl (by kernel_rfl) (by kernel_rfl) (fun vs LL W hI hi hLG hT K hK => ?_) ?_
              · simp only [Grow.putL] at hK ⊢
                go_simp
                exact hK _ _ ⟨hI.skip (by decide) (by decide), rfl⟩
              refine Grow.StepsT.cons [7] [(some 106, 7)] rfl (by kernel_rfl) (by kernel_rfl) (fun vs LL W hI hi hLG hT K hK => ?_) ?_
              · have t7 : vs 7 = .pointer (some ⟨wr.heap.size, 1, none⟩) := hT
                simp only [Grow.putL, t7] at hK ⊢
                have e1 := (hI.row List.mem_cons_self).four.2.1
                go_simp
                exact hK _ _ ⟨hI.skip (by decide) (by decide), rfl⟩
              refine Grow.StepsT.cons [] [] rfl (by kernel_rfl) (by kernel_rfl) (fun vs LL W hI hi hLG hT K hK => ?_) ?_
              · simp only [Grow.putL] at hK ⊢
                go_simp
                exact hK _ _ ⟨hI.skip (by decide) (by decide), rfl⟩
              refine Grow.StepsT.cons [9] [(some 108, 9)] rfl (by kernel_rfl) (by kernel_rfl) (fun vs LL W hI hi hLG hT K hK => ?_) ?_
              · have t9 : vs 9 = .pointer (some ⟨wr.heap.size, 2, none⟩) := hT
                simp only [Grow.putL, t9] at hK ⊢
                have e2 := (hI.row List.mem_cons_self).four.2.2.1
                go_simp
                exact hK _ _ ⟨hI.skip (by decide) (by decide), rfl⟩
              refine Grow.StepsT.cons [6, 8, 10, 5] [(some 104, 5), (some 105, 6), (some 107, 8), (some 109, 10)] rfl (by kernel_rfl) (by kernel_rfl) (fun vs LL W hI hi hLG hT K hK => ?_) ?_
              · obtain ⟨t6, t8, t10, t5⟩ : vs 6 = .pointer (some ⟨g2, 0, none⟩) ∧ vs 8 = .int .i64 a.K ∧ vs 10 = .int .i64 a.to ∧ vs 5 = .int .i64 (spoilC its) := hT
                simp only [Grow.putL, t6, t8, t10, t5] at hK ⊢
                go_simp
                refine (j_rspoil (hI.second (by simpa using hi)) a.K a.to wt).mono ?_; rintro e V ⟨rfl, hV⟩
                exact hK _ _ ⟨JI.second_ (by decide) hV, rfl⟩
              refine Grow.StepsT.cons [5, 11] [(some 104, 5), (some 110, 11)] rfl (by kernel_rfl) (by kernel_rfl) (fun vs LL W hI hi hLG hT K hK => ?_) Grow.StepsT.nil
              · obtain ⟨t5, t11⟩ : vs 5 = .int .i64 (spoilC its) ∧ vs 11 = .int .i64 (spoilC its) := hT
                simp only [Grow.putL, t5, t11] at hK ⊢
                go_simp
                exact hK _ _ ⟨hI.skip (by decide) (by decide), rfl⟩
            intro vs W6 hI hT
            have hJn := hI.done (by decide) (by decide)
            clear hI
            obtain ⟨t0, t1, t2, t3, t4, t5, t6, t7, t8, t9, t10, t11, t12⟩ : vs 0 = .pointer (some ⟨g, 0, none⟩) ∧ vs 1 = .pointer (some ⟨wr.heap.size, 1, none⟩) ∧ vs 2 = .int .i64 a.K ∧ vs 3 = .pointer (some ⟨wr.heap.size, 2, none⟩) ∧ vs 4 = .int .i64 a.to ∧ vs 5 = .int .i64 (spoilC its) ∧ vs 6 = .pointer (some ⟨g2, 0, none⟩) ∧ vs 7 = .pointer (some ⟨wr.heap.size, 1, none⟩) ∧ vs 8 = .int .i64 a.K ∧ vs 9 = .pointer (some ⟨wr.heap.size, 2, none⟩) ∧ vs 10 = .int .i64 a.to ∧ vs 11 = .int .i64 (spoilC its) ∧ vs 12 = .bool true := hT
            simp only [Grow.putL, t0, t1, t2, t3, t4, t5, t6, t7, t8, t9, t10, t11, t12, Act.put, List.getElem_toArray, List.getElem_cons_succ, List.getElem_cons_zero, List.setIfInBounds_toArray, List.set_cons_zero, List.set_cons_succ]
            clear t0 t1 t2 t3 t4 t5 t6 t7 t8 t9 t10 t11 t12
            refine wpAnyH_ready (rs := [13]) (by kernel_rfl) (by simp) ?_
            refine AllReadyH.cons rfl (fun K hK => ?_) AllReadyH.nil
            go_simp
            refine hK.out _ _ trivial (fun _ => ?_)
            clear hK K
            refine wpAnyH_done (by kernel_rfl) ?_ _
            go_wp2_with fail
            go_meet
            exact ⟨rfl, spoilI its a.K a.to, hJn.less⟩
            -- spoil end
          · have d0 : (z == 0) = false := by simp; omega
            have d1 : (z == 1) = false := by simp; omega
            have d2 : (z == 2) = false := by simp; omega
            have hal' := Lib.hid hal
            have hRd := Lib.hid hrd
            have hBy := Lib.hid hby
            obtain ⟨q0, q1, q2, q3⟩ := (hB.out.row List.mem_cons_self).four
            have CC := Lib.hid (fun W (hg : w.grownBy W none) => copy_any a.A a.l.length a.c a.l W _ rfl (hRd.out.grown0 hg) (by have := hal'.out; omega))
            have hgB := Lib.hid hB.out.grown
            clear hz3 hal hrd hby
            go_wp2_with fail
            refine (CC.out _ hgB.out).mono ?_; rintro e w4 ⟨A4, c4, rfl, o4, hg4⟩
            have h4 := Lib.hid (hB.out.keep hg4 A4 c4 a.l (Nat.le_refl _) o4)
            have hJc := h4.out.grown0 (grown_drew (World.grownBy.refl _ none))
            have CS := Lib.hid (fun i1 i2 B W (h : Joint w g g2 i1 i2 [⟨A4, c4, a.l⟩] B W) => j_send (w := W) h a.to A4 a.l.length c4 a.l _ rfl (by have := hal'.out; omega) hBy.out (h.told (A := A4) (c := c4) (l := a.l) List.mem_cons_self).reads)
            have CR := Lib.hid (fun i1 i2 B W (h : Joint w g g2 i1 i2 [⟨A4, c4, a.l⟩] B W) => j_rsend (w := W) h a.to a.A a.l.length a.c a.l _ rfl (by have := hal'.out; omega) hBy.out (hRd.out.grown0 h.grown))
            have CE := Lib.hid (fun i1 i2 B W (h : Joint w g g2 i1 i2 [⟨A4, c4, a.l⟩] B W) => same_true A4 a.A a.l.length c4 a.l.length a.c a.l W _ _ rfl rfl (h.told (A := A4) (c := c4) (l := a.l) List.mem_cons_self).reads (hRd.out.grown0 h.grown) (by have := hal'.out; omega))
            clear q0 q1 q2 q3 o4 hg4
            -- send begin
            go_wp2_with fail
            refine wp_region_held (S := fun V => V.cell? ⟨wr.heap.size, 3, none⟩ = some (.slice a.A a.l.length a.c)) (by kernel_rfl) ?_
            refine Grow.wpAnyH_trackFrom [] [0, 1, 2, 3, 4, 5, 6, 7, 8, 9, 10, 11, 12, 13, 14] #[true, true, true, true, true, true, true, true, true, true, true, true, true, true, true, false, false, false, false, false, false] [(some 37, 0), (some 38, 1), (some 39, 2), (some 40, 3), (some 41, 4), (some 42, 5), (some 43, 6), (some 44, 7), (some 45, 8), (some 46, 9), (some 47, 10), (some 48, 11), (some 49, 12), (some 50, 13), (some 51, 14)] 6 (TV [.pointer (some ⟨g, 0, none⟩), .pointer (some ⟨wr.heap.size, 2, none⟩), .int .i64 a.to, .slice A4 a.l.length c4, .agg #[.int .i64 a.to, .slice A4 a.l.length c4], .int .i64 (sendC its a.to a.l), .pointer (some ⟨g2, 0, none⟩), .pointer (some ⟨wr.heap.size, 2, none⟩), .int .i64 a.to, .pointer (some ⟨wr.heap.size, 3, none⟩), .slice a.A a.l.length a.c, .agg #[.int .i64 a.to, .slice a.A a.l.length a.c], .int .i64 (sendC its a.to a.l), .bool true, .bool true]) (JI w g g2 its (sendI its a.to a.l) _ _ 5 12) (by kernel_rfl) (by kernel_rfl) (by kernel_rfl) (by decide) (by kernel_rfl) (by kernel_rfl) (by kernel_rfl) (fun _ _ h => (h.row List.mem_cons_self).four.2.2.2) JI.mem (JI.start hJc) ?_ ?_
            · refine Grow.StepsT.cons [] [] rfl (by kernel_rfl) (by kernel_rfl) (fun vs LL W hI hi hLG hT K hK => ?_) ?_
              · simp only [Grow.putL] at hK ⊢
                go_simp
                exact hK _ _ ⟨hI.skip (by decide) (by decide), rfl⟩
              refine Grow.StepsT.cons [] [] rfl (by kernel_rfl) (by kernel_rfl) (fun vs LL W hI hi hLG hT K hK => ?_) ?_
              · simp only [Grow.putL] at hK ⊢
                go_simp
                exact hK _ _ ⟨hI.skip (by decide) (by decide), rfl⟩
              refine Grow.StepsT.cons [1] [(some 38, 1)] rfl (by kernel_rfl) (by kernel_rfl) (fun vs LL W hI hi hLG hT K hK => ?_) ?_
              · have t1 : vs 1 = .pointer (some ⟨wr.heap.size, 2, none⟩) := hT
                simp only [Grow.putL, t1] at hK ⊢
                have e2 := (hI.row List.mem_cons_self).four.2.2.1
                go_simp
                exact hK _ _ ⟨hI.skip (by decide) (by decide), rfl⟩
              refine Grow.StepsT.cons [] [] rfl (by kernel_rfl) (by kernel_rfl) (fun vs LL W hI hi hLG hT K hK => ?_) ?_
              · simp only [Grow.putL] at hK ⊢
                go_simp
                exact hK _ _ ⟨hI.skip (by decide) (by decide), rfl⟩
              refine Grow.StepsT.cons [2, 3] [(some 39, 2), (some 40, 3)] rfl (by kernel_rfl) (by kernel_rfl) (fun vs LL W hI hi hLG hT K hK => ?_) ?_
              · obtain ⟨t2, t3⟩ : vs 2 = .int .i64 a.to ∧ vs 3 = .slice A4 a.l.length c4 := hT
                simp only [Grow.putL, t2, t3] at hK ⊢
                go_simp
                exact hK _ _ ⟨hI.skip (by decide) (by decide), rfl⟩
              refine Grow.StepsT.cons [0, 4] [(some 37, 0), (some 41, 4)] rfl (by kernel_rfl) (by kernel_rfl) (fun vs LL W hI hi hLG hT K hK => ?_) ?_
              · obtain ⟨t0, t4⟩ : vs 0 = .pointer (some ⟨g, 0, none⟩) ∧ vs 4 = .agg #[.int .i64 a.to, .slice A4 a.l.length c4] := hT
                simp only [Grow.putL, t0, t4] at hK ⊢
                go_simp
                refine (CS.out _ _ _ _ (hI.first (by simpa using hi))).mono ?_; rintro e V ⟨rfl, hV⟩
                exact hK _ _ ⟨JI.first_ (by decide) hV, rfl⟩
              refine Grow.StepsT.cons [] [] rfl (by kernel_rfl) (by kernel_rfl) (fun vs LL W hI hi hLG hT K hK => ?_) ?_
              · simp only [Grow.putL] at hK ⊢
                go_simp
                exact hK _ _ ⟨hI.skip (by decide) (by decide), rfl⟩
              refine Grow.StepsT.cons [] [] rfl (by kernel_rfl) (by kernel_rfl) (fun vs LL W hI hi hLG hT K hK => ?_) ?_
              · simp only [Grow.putL] at hK ⊢
                go_simp
                exact hK _ _ ⟨hI.skip (by decide) (by decide), rfl⟩
              refine Grow.StepsT.cons [7] [(some 44, 7)] rfl (by kernel_rfl) (by kernel_rfl) (fun vs LL W hI hi hLG hT K hK => ?_) ?_
              · have t7 : vs 7 = .pointer (some ⟨wr.heap.size, 2, none⟩) := hT
                simp only [Grow.putL, t7] at hK ⊢
                have e2 := (hI.row List.mem_cons_self).four.2.2.1
                go_simp
                exact hK _ _ ⟨hI.skip (by decide) (by decide), rfl⟩
              refine Grow.StepsT.cons [] [] rfl (by kernel_rfl) (by kernel_rfl) (fun vs LL W hI hi hLG hT K hK => ?_) ?_
              · simp only [Grow.putL] at hK ⊢
                go_simp
                exact hK _ _ ⟨hI.skip (by decide) (by decide), rfl⟩
              refine Grow.StepsT.cons [9] [(some 46, 9)] rfl (by kernel_rfl) (by kernel_rfl) (fun vs LL W hI hi hLG hT K hK => ?_) ?_
              · have t9 : vs 9 = .pointer (some ⟨wr.heap.size, 3, none⟩) := hT
                simp only [Grow.putL, t9] at hK ⊢
                have e3 := (hI.row List.mem_cons_self).four.2.2.2
                go_simp
                exact hK _ _ ⟨hI.skip (by decide) (by decide), rfl⟩
              refine Grow.StepsT.cons [8, 10] [(some 45, 8), (some 47, 10)] rfl (by kernel_rfl) (by kernel_rfl) (fun vs LL W hI hi hLG hT K hK => ?_) ?_
              · obtain ⟨t8, t10⟩ : vs 8 = .int .i64 a.to ∧ vs 10 = .slice a.A a.l.length a.c := hT
                simp only [Grow.putL, t8, t10] at hK ⊢
                go_simp
                exact hK _ _ ⟨hI.skip (by decide) (by decide), rfl⟩
              refine Grow.StepsT.cons [6, 11, 5] [(some 42, 5), (some 43, 6), (some 48, 11)] rfl (by kernel_rfl) (by kernel_rfl) (fun vs LL W hI hi hLG hT K hK => ?_) ?_
              · obtain ⟨t6, t11, t5⟩ : vs 6 = .pointer (some ⟨g2, 0, none⟩) ∧ vs 11 = .agg #[.int .i64 a.to, .slice a.A a.l.length a.c] ∧ vs 5 = .int .i64 (sendC its a.to a.l) := hT
                simp only [Grow.putL, t6, t11, t5] at hK ⊢
                go_simp
                refine (CR.out _ _ _ _ (hI.second (by simpa using hi))).mono ?_; rintro e V ⟨rfl, hV⟩
                exact hK _ _ ⟨JI.second_ (by decide) hV, rfl⟩
              refine Grow.StepsT.cons [5, 12] [(some 42, 5), (some 49, 12)] rfl (by kernel_rfl) (by kernel_rfl) (fun vs LL W hI hi hLG hT K hK => ?_) ?_
              · obtain ⟨t5, t12⟩ : vs 5 = .int .i64 (sendC its a.to a.l) ∧ vs 12 = .int .i64 (sendC its a.to a.l) := hT
                simp only [Grow.putL, t5, t12] at hK ⊢
                go_simp
                exact hK _ _ ⟨hI.skip (by decide) (by decide), rfl⟩
              refine Grow.StepsT.cons [13, 12] [(some 49, 12), (some 50, 13)] rfl (by kernel_rfl) (by kernel_rfl) (fun vs LL W hI hi hLG hT K hK => ?_) Grow.StepsT.nil
              · obtain ⟨t13, t12⟩ : vs 13 = .bool true ∧ vs 12 = .int .i64 (sendC its a.to a.l) := hT
                simp only [Grow.putL, t13, t12] at hK ⊢
                go_simp
                exact hK _ _ ⟨hI.skip (by decide) (by decide), rfl⟩
            intro vs W6 hI hT
            have hJn := hI.done (by decide) (by decide)
            clear hI
            obtain ⟨t0, t1, t2, t3, t4, t5, t6, t7, t8, t9, t10, t11, t12, t13, t14⟩ : vs 0 = .pointer (some ⟨g, 0, none⟩) ∧ vs 1 = .pointer (some ⟨wr.heap.size, 2, none⟩) ∧ vs 2 = .int .i64 a.to ∧ vs 3 = .slice A4 a.l.length c4 ∧ vs 4 = .agg #[.int .i64 a.to, .slice A4 a.l.length c4] ∧ vs 5 = .int .i64 (sendC its a.to a.l) ∧ vs 6 = .pointer (some ⟨g2, 0, none⟩) ∧ vs 7 = .pointer (some ⟨wr.heap.size, 2, none⟩) ∧ vs 8 = .int .i64 a.to ∧ vs 9 = .pointer (some ⟨wr.heap.size, 3, none⟩) ∧ vs 10 = .slice a.A a.l.length a.c ∧ vs 11 = .agg #[.int .i64 a.to, .slice a.A a.l.length a.c] ∧ vs 12 = .int .i64 (sendC its a.to a.l) ∧ vs 13 = .bool true ∧ vs 14 = .bool true := hT
            simp only [Grow.putL, t0, t1, t2, t3, t4, t5, t6, t7, t8, t9, t10, t11, t12, t13, t14, Act.put, List.getElem_toArray, List.getElem_cons_succ, List.getElem_cons_zero, List.setIfInBounds_toArray, List.set_cons_zero, List.set_cons_succ]
            clear t0 t1 t2 t3 t4 t5 t6 t7 t8 t9 t10 t11 t12 t13 t14
            have eS := (hJn.row List.mem_cons_self).four.2.2.2
            have CE2 := Lib.hid (CE.out _ _ _ _ hJn)
            have hJn2 := Lib.hid hJn
            clear hJn
            refine wpAnyH_take (i := 15) (v := .slice A4 a.l.length c4) rfl (by kernel_rfl) (by kernel_rfl) (by kernel_rfl) (fun _ _ _ h => h) (Or.inl ⟨by kernel_rfl, fun V _ => by kernel_rfl⟩) eS ?_
            simp only [Act.put, List.getElem_toArray, List.getElem_cons_succ, List.getElem_cons_zero, List.setIfInBounds_toArray, List.set_cons_zero, List.set_cons_succ]
            refine wpAnyH_take (i := 16) (v := .pointer (some ⟨wr.heap.size, 3, none⟩)) rfl (by kernel_rfl) (by kernel_rfl) (by kernel_rfl) (fun _ _ _ h => h) (Or.inl ⟨by kernel_rfl, fun V _ => by kernel_rfl⟩) eS ?_
            simp only [Act.put, List.getElem_toArray, List.getElem_cons_succ, List.getElem_cons_zero, List.setIfInBounds_toArray, List.set_cons_zero, List.set_cons_succ]
            refine wpAnyH_take (i := 17) (v := .slice a.A a.l.length a.c) rfl (by kernel_rfl) (by kernel_rfl) (by kernel_rfl) (fun _ _ _ h => h) (Or.inl ⟨by kernel_rfl, fun V hV => exec_load1 rfl rfl Try.underlying27 rfl V hV⟩) eS ?_
            simp only [Act.put, List.getElem_toArray, List.getElem_cons_succ, List.getElem_cons_zero, List.setIfInBounds_toArray, List.set_cons_zero, List.set_cons_succ]
            refine wpAnyH_ready (rs := [18]) (by kernel_rfl) (by simp) ?_
            refine AllReadyH.cons rfl (fun K hK => ?_) AllReadyH.nil
            go_simp
            refine CE2.out.mono ?_; rintro e W7 ⟨rfl, hg7⟩
            have hJm := Lib.hid (hJn2.out.grown0 hg7)
            have eS7 := hg7.cell eS (by simp)
            clear eS hJn2
            refine hK.out _ _ eS7 (fun _ => ?_)
            clear hK K
            refine wpAnyH_ready (rs := [19]) (by kernel_rfl) (by simp) ?_
            refine AllReadyH.cons rfl (fun K hK => ?_) AllReadyH.nil
            go_simp
            refine hK.out _ _ eS7 (fun _ => ?_)
            clear hK K
            refine wpAnyH_ready (rs := [20]) (by kernel_rfl) (by simp) ?_
            refine AllReadyH.cons rfl (fun K hK => ?_) AllReadyH.nil
            go_simp
            refine hK.out _ _ eS7 (fun _ => ?_)
            clear hK K
            refine wpAnyH_done (by kernel_rfl) ?_ _
            clear eS7
            go_wp2_with fail
            refine (lawspoil_any _ _ A4 a.l.length c4 a.l (hJm.out.told List.mem_cons_self) (by have := hal'.out; omega) hBy.out).mono ?_
            rintro e w9 ⟨rfl, hg9⟩
            go_wp2_with fail
            go_meet
            exact ⟨rfl, sendI its a.to a.l, (hJm.out.write hg9).less⟩
            -- send end
        case rest =>
          obtain ⟨rfl, its', hJ'⟩ := hcut
          have hJx := Lib.hid hJ'
          have CA := Lib.hid (j_all hJ')
          clear hB
          go_wp2_with fail
          refine CA.out.mono ?_; rintro e wa ⟨A5, c5, out, rfl, hout, hO, hJa⟩
          obtain ⟨Ad, cd, d0, _⟩ := hJa.doc
          have hout' := Lib.hid hout
          have hO' := Lib.hid hO
          have hll := Lib.hid hJa.lens.1
          obtain ⟨N, hN⟩ : ∃ N, its'.length = N := ⟨_, rfl⟩
          rw [hN] at d0 hO
          have hN' := Lib.hid hN
          have hN64 : N ≤ 64 := by have := hll.out; omega
          simp only [hN]
          clear hN hout hJa hJ'
          go_upto_region 28 with fail
          obtain ⟨wo, hwo⟩ : ∃ wo : World, wo = wr := ⟨_, rfl⟩
          clear hwo
          go_loopw [14] (fun v wr => ∃ k : Nat, k ≤ N ∧ v = .int .i64 k ∧ Rest wc out A5 N c5 k wr) (fun v _ => N - (intOf v).toNat)
          case atStart => exact ⟨0, by omega, rfl, hO.1, hO.2.2.2, fun j x _ hx => (hO.2.2.1.1 x (List.mem_of_getElem? hx)).2⟩
          case round =>
            obtain ⟨k, hk, rfl, hR⟩ := hrel
            by_cases hlt : k < N
            · obtain ⟨y, hy⟩ : ∃ y, out[k]? = some y := ⟨_, List.getElem?_eq_getElem (by have := congrArg List.length hout'.out; rw [List.length_map] at this; have := hN'.out; omega)⟩
              have hx : its'[k]? = some y.it := by rw [← hout'.out, List.getElem?_map, hy]; rfl
              obtain ⟨r, rfl, _, _, _, hcr⟩ := hR.2.1.cells_ (by rw [hR.2.1.1]; omega)
              obtain ⟨x0, x1⟩ := rowF_get out k y hy
              have hrl := hR.2.1.1
              have y0 := (hcr (k * 2) (by omega)).trans x0
              have y1 := (hcr (k * 2 + 1) (by omega)).trans x1
              obtain ⟨Ad2, cd2, e0, dk⟩ := (hJx.out.grown0 hR.1).doc
              obtain ⟨r2, Ab, cb, rfl, z0, z1, zo, zl⟩ := dk k _ hx
              rw [hN'.out] at e0
              replace z0 : wr.cell? ⟨r2, k * 2, none⟩ = some (.int .i64 y.to) := z0
              replace z1 : wr.cell? ⟨r2, k * 2 + 1, none⟩ = some (.slice Ab y.bs.length cb) := z1
              replace zl : y.bs.length ≤ 128 := zl
              have hoy := hR.2.2 k y (Nat.le_refl _) hy
              have CS := Lib.hid (fun W (hg : wr.grownBy W none) => lawsame_yes y.to y.A Ab y.bs.length y.cap cb y.bs W _ _ rfl (hoy.grown0 hg).reads (zo.grown0 hg).reads (by omega))
              have CP := Lib.hid (fun W (hg : wr.grownBy W none) => lawspoil_any W _ y.A y.bs.length y.cap y.bs (hoy.grown0 hg) (by omega) ((hO'.out.2.2.1.1 y (List.mem_of_getElem? hy)).1.2.1))
              have hNx := Lib.hid (fun W W' (hg : wr.grownBy W none) (hg2 : W.grownBy W' (rowOf y.A y.cap)) => (hR.grown0 hg).next hO'.out.2.2.1.2 hy hg2)
              clear hR hcr x0 x1 dk hx hy zo hoy hrl zl d0
              go_wp2_with fail
              go_still_tail 11, (by kernel_rfl)
              go_wp2_with fail
              refine (CS.out _ (grown_drew (World.grownBy.refl _ none))).mono ?_; rintro e w8 ⟨rfl, hg8⟩
              have hgA := grown_trans (grown_drew (World.grownBy.refl wr none)) hg8
              have y1' := hgA.cell y1 (by simp)
              clear y0 y1 z0 z1 e0
              go_wp2_with fail
              refine (CP.out _ hgA).mono ?_; rintro e w9 ⟨rfl, hg9⟩
              go_wp2_with fail
              go_roundw
              case rel => exact ⟨k + 1, by omega, by go_num, hNx.out _ _ hgA hg9⟩
              case measure => simp [intOf]; omega
            · go_wp2_with fail
              go_roundw
              case rel => exact ⟨i + 1, its', by omega, by go_num, hJx.out.grown0 hR.1⟩
              case measure => simp [intOf]; omega
      · go_wp2_with fail
        go_ret
        exact ⟨rfl, grown_below hJ.grown⟩
end Go.Proofs.Ytdmhaigldckdbaa
