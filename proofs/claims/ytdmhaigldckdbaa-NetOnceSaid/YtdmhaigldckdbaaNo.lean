/- Spoil. -/
import Derived.Test.YtdmhaigldckdbaaNl
import Derived.Test.YtdmhaigldckdbaaFl
import Derived.Test.YtdmhaigldckdbaaBy
import Derived.StillTailTactics
namespace Go.Proofs.Ytdmhaigldckdbaa
open Go Go.RowKit
def Flt.flip (f : Flt) (k : Nat) : Flt := { f with bs := flipL f.bs k }
theorem flip_row (f : Flt) (k : Nat) : (f.flip k).row = f.row := rfl
theorem flip_cells (f : Flt) (k : Nat) : (f.flip k).cells = f.cells := by simp [Flt.flip, Flt.cells, flipL_len]
theorem set_map {β : Type} (F : Flt → β) : ∀ (fl : List Flt) (p : Nat) (x y : Flt), fl[p]? = some x → F y = F x → (fl.set p y).map F = fl.map F
  | [], p, x, y, hx, _ => by simp at hx
  | f :: r, 0, x, y, hx, h => by
    simp only [List.getElem?_cons_zero, Option.some.injEq] at hx
    subst hx
    simp [h]
  | f :: r, p + 1, x, y, hx, h => by
    rw [List.getElem?_cons_succ] at hx
    simp [set_map F r p x y hx h]
theorem set_mem : ∀ (fl : List Flt) (p : Nat) (f y : Flt), y ∈ fl.set p f → y = f ∨ y ∈ fl.eraseIdx p
  | [], p, f, y, h => by simp at h
  | a :: r, 0, f, y, h => by simpa using h
  | a :: r, p + 1, f, y, h => by
    rw [List.set_cons_succ, List.mem_cons] at h
    rw [List.eraseIdx_cons_succ, List.mem_cons]
    rcases h with h | h
    · exact .inr (.inl h)
    · rcases set_mem r p f y h with h | h
      · exact .inl h
      · exact .inr (.inr h)
theorem NetIs.spoil {w w1 w' : World} {base g : Nat} {fl : List Flt} (h : NetIs w base g fl) (p : Nat) (x : Flt) (hx : fl[p]? = some x) (k : Nat) (gb : Nat) (hr : x.row = some gb)
    (hw : w.grownBy w1 none) (hg : w1.grownBy w' (some gb)) (ho : Own w' base 5 1 x.A x.bs.length x.cap ((flipL x.bs k).map byte)) : Step w w' base g fl (fl.set p (x.flip k)) := by
  have h1 := h.grown0 hw
  obtain ⟨k1, k2, ⟨k3, k4⟩, A0, c0, h0, hR⟩ := h1
  have hxm := List.mem_of_getElem? hx
  obtain ⟨hxo, hxr⟩ := k3 x hxm
  obtain ⟨cur, hcur⟩ := hxr.row_of hr
  have hgne : g ≠ gb := fun e => hxr.row_ne h0 (by decide) (e ▸ hr)
  have h0' := (hg.block g (Array.getElem?_eq_some_iff.1 h0).1 (fun e => hgne (Option.some.inj e))).trans h0
  have hrow : rowF (fl.set p (x.flip k)) = rowF fl := by
    show ((fl.set p (x.flip k)).map Flt.cells).flatten = (fl.map Flt.cells).flatten
    rw [set_map Flt.cells fl p x _ hx (flip_cells x k)]
  have hrows : (fl.set p (x.flip k)).map Flt.row = fl.map Flt.row := set_map Flt.row fl p x _ hx rfl
  have hlen : (fl.set p (x.flip k)).length = fl.length := List.length_set
  have hfoot : ∀ b, Foot w' g (fl.set p (x.flip k)) b → Foot w g fl b := by
    have h0w := h.2.2.2
    obtain ⟨A', c', h2, _⟩ := h0w
    have h3 := (hw.block g (Array.getElem?_eq_some_iff.1 h2).1 (by simp)).symm.trans h0 ▸ h2
    rintro b (rfl | ⟨A', c', q1, q2⟩ | ⟨y, hy, q⟩)
    · exact .inl rfl
    · rw [hlen, h0'] at q1
      simp only [Option.some.injEq, Obj.cells.injEq, Array.mk.injEq, List.cons.injEq, Value.slice.injEq, and_true, true_and] at q1
      obtain ⟨rfl, rfl⟩ := q1
      refine .inr (.inl ⟨_, _, ?_, q2⟩)
      rw [← hw.block g (Array.getElem?_eq_some_iff.1 h2).1 (by simp)]
      exact h0
    · rcases set_mem fl p _ y hy with rfl | hy'
      · exact .inr (.inr ⟨x, hxm, q⟩)
      · exact .inr (.inr ⟨y, List.mem_of_mem_eraseIdx hy', q⟩)
  refine ⟨⟨k1, by omega, ⟨fun y hy => ?_, ?_⟩, A0, c0, by rw [hlen]; exact h0', by rw [hlen, hrow]; exact hR.kept_ hg hcur (by decide)⟩, ?_, fun b hb => .inl (hfoot b hb)⟩
  · rcases set_mem fl p _ y hy with rfl | hy'
    · refine ⟨⟨by show (flipL x.bs k).length ≤ 128; rw [flipL_len]; exact hxo.1, flipL_byt hxo.2.1 k, hxo.2.2⟩, ?_⟩
      show Own w' base 5 1 x.A (flipL x.bs k).length x.cap ((flipL x.bs k).map byte)
      rw [flipL_len]
      exact ho
    · have hym := List.mem_of_mem_eraseIdx hy'
      refine ⟨(k3 y hym).1, (k3 y hym).2.grownBy_ hg ?_⟩
      rcases apart_erase fl p x hx k4 y hy' with h2 | h2
      · rw [hr] at h2; cases h2
      · exact .inr (fun e => h2 (hr.trans e.symm))
  · have this : (fl.map Flt.row).Pairwise (fun a b => a = none ∨ a ≠ b) := List.pairwise_map.2 k4
    rw [← hrows] at this
    exact List.pairwise_map.1 this
  · refine (But.of_grown (F := Foot w g fl) hw (fun b e => by cases e)).trans (G := Foot w g fl) (But.of_grown hg (fun b e => by cases e; exact .inr (.inr ⟨x, hxm, hr⟩))) (fun i hi => .inl hi)
theorem spoil_empty (w : World) (base g : Nat) (k bit : Int) (h : NetIs w base g []) :
    Calls Try.prog 16 #[.pointer (some ⟨g, 0, none⟩), .int .i64 k, .int .i64 bit] w fun e w' => e = .returned (.int .i64 300) ∧ w = w' := by
  have CP := Lib.hid (pick_empty w base g k h)
  clear h
  go_enter Try.func16, Try.ntmps16
  go_wp2_with fail
  refine CP.out.mono ?_; rintro e w1 ⟨rfl, rfl⟩
  go_wp2
  go_ret
  exact ⟨rfl, rfl⟩
set_option maxRecDepth 100000 in
set_option maxHeartbeats 2000000 in
theorem spoil_ok (w : World) (base g : Nat) (fl : List Flt) (k bit : Int) (h : NetIs w base g fl) (hp : 0 < fl.length) (x : Flt) (hx : fl[place k fl.length]? = some x) (hb : x.bs ≠ []) :
    Calls Try.prog 16 #[.pointer (some ⟨g, 0, none⟩), .int .i64 k, .int .i64 bit] w fun e w' => e = .returned (.int .i64 0) ∧ Step w w' base g fl (fl.set (place k fl.length) (x.flip (place bit (8 * x.bs.length)))) := by
  have hle := h.2.1
  have CP := Lib.hid (pick_net w base g fl k h hp)
  obtain ⟨A0, c0, h0, hR⟩ := h.2.2.2
  have hpl : place k fl.length < fl.length := place_lt k hp
  obtain ⟨r, rfl, hrr, _, hrl, hcr⟩ := hR.cells_ (by rw [rowF_len]; omega)
  have CA := Lib.hid (fun W => at_any W (some ⟨r, 0, none⟩) fl.length c0 (place k fl.length) r rfl hpl (by omega))
  obtain ⟨x0, x1⟩ := rowF_get fl _ x hx
  have y1 := (hcr (place k fl.length * 2 + 1) (by rw [rowF_len]; omega)).trans x1
  have e1 : w.cell? ⟨g, 1, none⟩ = some (.slice (some ⟨r, 0, none⟩) fl.length c0) := by rw [cell_of_row w g 1 _ _ _ h0]; rfl
  obtain ⟨hxo, hxr⟩ := h.2.2.1.1 x (List.mem_of_getElem? hx)
  have hn1 : 0 < x.bs.length := List.length_pos_iff.2 hb
  have hn2 := hxo.1
  have hps : place bit (8 * x.bs.length) < 8 * x.bs.length := place_lt bit (by omega)
  have hpe : (if 0 ≤ bit then bit else 0).tmod (8 * (x.bs.length : Int)) = ((place bit (8 * x.bs.length) : Nat) : Int) := by
    unfold place
    split
    · rw [Int.tmod_eq_emod_of_nonneg (by omega), Int.natCast_emod, Int.toNat_of_nonneg (by omega)]
      simp
    · rw [Int.toNat_of_nonpos (by omega)]
      simp
  have hSp := Lib.hid (fun w1 w' gb hr hw hg ho => h.spoil (w1 := w1) (w' := w') (place k fl.length) x hx (place bit (8 * x.bs.length)) gb hr hw hg ho)
  generalize place bit (8 * x.bs.length) = q at *
  obtain ⟨gb, hA, hg0, hg1, hc, hf⟩ := hxr.byte_at (k := q / 8) (by omega)
  have hbb := hxo.2.1.nth (q / 8)
  have hpw : 2 ^ (q % 8) < 2 ^ 8 := Nat.pow_lt_pow_right (by omega) (by omega)
  have e2 : ((2 : Int) ^ (q % 8) % 256) = ((2 ^ (q % 8) : Nat) : Int) := by
    rw [show (2 : Int) ^ (q % 8) = ((2 ^ (q % 8) : Nat) : Int) from (Int.natCast_pow 2 _).symm]
    generalize 2 ^ (q % 8) = z at *
    omega
  have hro : x.row = some gb := by
    have := hxr.2.1
    simp [Flt.row, hA, rowOf]; omega
  have hxA := Lib.hid hxr
  have hSp' := Lib.hid (fun w1 w' hw hg ho => hSp.out w1 w' gb hro hw hg ho)
  have hfl := Lib.hid (show flipL x.bs q = x.bs.set (q / 8) (nth x.bs (q / 8) ^^^ 2 ^ (q % 8)) from rfl)
  have ex : bits .xor .u8 (nth x.bs (q / 8) : Int) ((2 : Int) ^ (q % 8) % 256) = ((nth x.bs (q / 8) ^^^ 2 ^ (q % 8) : Nat) : Int) := by
    rw [e2]
    exact u8_xor_nat _ _ hbb hpw
  have hA' := Lib.hid hA
  rw [hA] at y1
  have hqq := Lib.hid hpe
  obtain ⟨j8, hj8⟩ : ∃ j8, q / 8 = j8 := ⟨_, rfl⟩
  obtain ⟨r8, hr8⟩ : ∃ r8, q % 8 = r8 := ⟨_, rfl⟩
  have wq : IntKind.i64.wrap ((q : Int) / 8) = (j8 : Int) := by rw [IntKind.wrap_i64]; omega
  have tq : (q : Int).tmod 8 = (r8 : Int) := by rw [Int.tmod_eq_emod_of_nonneg (by omega)]; omega
  have tq2 : (q : Int) % 8 = (r8 : Int) := by omega
  have jl : j8 < x.bs.length := by omega
  have rl : r8 < 8 := by omega
  rw [hj8, hr8] at ex hfl
  rw [hj8] at hc hf hbb
  have exw : bits .xor .u8 (nth x.bs j8 : Int) (IntKind.u8.wrap ((2 : Int) ^ r8)) = ((nth x.bs j8 ^^^ 2 ^ r8 : Nat) : Int) := by rw [IntKind.wrap_u8]; exact ex
  have hj8' := Lib.hid hj8
  have hr8' := Lib.hid hr8
  clear hj8 hr8 ex
  clear e2 hSp hxr hA hro h0 hR hcr x0 x1 hx h hpw hxo hpe
  generalize place k fl.length = p at *
  rcases Int.lt_or_le bit 0 with hneg | hneg
  · have hq0 : q = 0 := by have := hqq.out; rw [if_neg (by omega)] at this; simp at this; omega
    obtain rfl : j8 = 0 := by have := hj8'.out; omega
    obtain rfl : r8 = 0 := by have := hr8'.out; omega
    subst hq0
    have exw1 : bits .xor .u8 (nth x.bs 0 : Int) 1 = ((nth x.bs 0 ^^^ 2 ^ 0 : Nat) : Int) := by rw [show IntKind.u8.wrap ((2 : Int) ^ 0) = 1 by decide] at exw; exact exw
    have hw00 : IntKind.i64.wrap 0 = 0 := by decide
    have hw01 : IntKind.u8.wrap 1 = 1 := by decide
    have jl' : (0 : Int) < (x.bs.length : Int) := by omega
    clear exw wq tq tq2
    go_enter Try.func16, Try.ntmps16
    go_wp2_with fail
    refine CP.out.mono ?_; rintro e w1 ⟨rfl, rfl⟩
    go_wp2_with fail
    refine (CA.out _).mono ?_; rintro e w1 ⟨rfl, rfl⟩
    go_wp2_with fail
    go_still_tail 10, (by kernel_rfl)
    go_wp2_with fail
    go_ret
    refine ⟨rfl, hSp'.out w.drew _ (grown_drew (World.grownBy.refl w _)) (grownBy_setCell _ _ _ _) ?_⟩
    rw [hfl.out, hA'.out]
    have h9 := hxA.out.grown0 (grown_drew (World.grownBy.refl w none))
    rw [hA'.out] at h9
    exact h9.put_ _ _
  · have hpe : bit.tmod (8 * (x.bs.length : Int)) = (q : Int) := by have := hqq.out; rwa [if_pos hneg] at this
    go_enter Try.func16, Try.ntmps16
    go_wp2_with fail
    refine CP.out.mono ?_; rintro e w1 ⟨rfl, rfl⟩
    go_wp2_with fail
    refine (CA.out _).mono ?_; rintro e w1 ⟨rfl, rfl⟩
    go_wp2_with fail
    go_still_tail 10, (by kernel_rfl)
    go_wp2_with fail
    go_ret
    refine ⟨rfl, hSp'.out w.drew _ (grown_drew (World.grownBy.refl w _)) (grownBy_setCell _ _ _ _) ?_⟩
    rw [hfl.out, hA'.out]
    have h9 := hxA.out.grown0 (grown_drew (World.grownBy.refl w none))
    rw [hA'.out] at h9
    exact h9.put_ _ _
end Go.Proofs.Ytdmhaigldckdbaa
