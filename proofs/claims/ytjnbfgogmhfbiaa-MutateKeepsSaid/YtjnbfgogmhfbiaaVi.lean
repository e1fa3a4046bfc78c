/- The mutations: stores of many cells, loads of many cells in regions that draw; remove; a style, a text. -/
import Derived.Test.YtjnbfgogmhfbiaaPm
import Derived.Test.YtjnbfgogmhfbiaaRowg
import Derived.Deep.RegionHeld3
namespace Go.Proofs.Ytjnbfgogmhfbiaa
open Go Go.RowKit
section
variable {P : Program} {ops : Array Oper} {rest : List Oper} {o : Oper} {a : Act} {w w1 : World} {Q : Exit → Act → World → Prop}
/-- A head operation whose run is known. -/
theorem wpStill_value {Q : Act → Prop} {v : Value} (hw : Region.wanted o (yielded ops a.tmps) = true) (hr : (execOp a.eval o).run P w = .ok (.value v) w) (h : wpStill P ops w Q rest (a.put o.dst v)) : wpStill P ops w Q (o :: rest) a := by
  refine wpStill_step fun K hK => ?_
  rw [if_pos hw]
  unfold Oper.still
  rw [hr, Oper.stillUpon_value]
  exact hK _ h
theorem storeAt_many {T : TypeId} {g off : Nat} {ds : List Value} (hz : (P.info? T).map (·.size) = some ds.length) (h1 : ∀ v ∈ ds, v.oneCell' = true) (hc : ∀ j, j < ds.length → (w.cell? ⟨g, off + j, none⟩).isSome = true) (hf : ∀ j, j < ds.length → w.frozen? ⟨g, off + j, none⟩ = false) :
    (Instr.storeAt T (.pointer (some ⟨g, off, none⟩)) (.agg ds.toArray)).run P w = .ok () (w.setCells g off ds) := by
  have hs := run_storeCells_cells (P := P) g off ds 0 w (by simpa using hc) (by simpa using hf) h1
  simp only [Nat.add_zero] at hs
  obtain ⟨i, hi, hz⟩ := Option.map_eq_some_iff.1 hz
  simp [Instr.storeAt, Instr.sureAddr, Sem.run_bind, storeVar, sizeOf, typeInfo, hi, hz, Value.cells, hs]
theorem exec_store_many {ρ : Operand → Value} {T : TypeId} {x y : Operand} {g off : Nat} {ds : List Value} (ho : o.op = .store T x y) (hx : ρ x = .pointer (some ⟨g, off, none⟩)) (hy : ρ y = .agg ds.toArray) (hz : (P.info? T).map (·.size) = some ds.length) (h1 : ∀ v ∈ ds, v.oneCell' = true)
    (hc : ∀ j, j < ds.length → (w.cell? ⟨g, off + j, none⟩).isSome = true) (hf : ∀ j, j < ds.length → w.frozen? ⟨g, off + j, none⟩ = false) :
    (execOp ρ o).run P w = .ok .skip (w.setCells g off ds) := by
  unfold execOp
  simp only [ho, hx, hy, Sem.run_bind, storeAt_many hz h1 hc hf, Result.andThen_ok, Sem.run_pure]
end
/-- A value that is known, or a new block. -/
def TG (val : Nat → Nat → Value) (row : Nat → Option (TypeId × Array Value)) : Nat → Value → Nat → Nat → World → Prop := fun j v lo hi V =>
  v = val j lo ∧ ∀ T cs, row j = some (T, cs) → Row V lo T cs ∧ hi = lo + 1
theorem TG.mono (val : Nat → Nat → Value) (row : Nat → Option (TypeId × Array Value)) (i : Nat) (v : Value) (lo hi : Nat) (w w' : World) (h : TG val row i v lo hi w) (hg : w.grownBy w' none) : TG val row i v lo hi w' :=
  ⟨h.1, fun T cs e => ⟨(h.2 T cs e).1.kept0 hg, (h.2 T cs e).2⟩⟩
theorem TG.plain {val : Nat → Nat → Value} {row : Nat → Option (TypeId × Array Value)} {j : Nat} {v : Value} {lo hi : Nat} {V : World} (h : v = val j lo) (hr : row j = none) : TG val row j v lo hi V := ⟨h, fun T cs e => by rw [hr] at e; cases e⟩
theorem Row.setCells {T : TypeId} {g : Nat} : ∀ (vs : List Value) (o : Nat) (w : World) (cs : List Value), Row w g T cs.toArray → Row (w.setCells g o vs) g T (layL cs o vs).toArray
  | [], _, _, _, h => h
  | v :: r, o, w, cs, h => Row.setCells r (o + 1) _ _ (by have := h.set o v; rwa [List.setIfInBounds_toArray] at this)
theorem layL_mid (a b c vs : List Value) (h : b.length = vs.length) : layL (a ++ b ++ c) a.length vs = a ++ vs ++ c := by
  apply List.ext_getElem?
  intro t
  rw [layL_get _ _ _ _ (by simp; omega)]
  by_cases h1 : t < a.length
  · rw [if_neg (by omega), List.append_assoc, List.append_assoc, List.getElem?_append_left h1, List.getElem?_append_left h1]
  · by_cases h2 : t < a.length + vs.length
    · rw [if_pos (by omega), List.append_assoc, List.getElem?_append_right (by omega), List.getElem?_append_left (by omega)]
    · rw [if_neg (by omega), List.append_assoc, List.append_assoc, List.getElem?_append_right (by omega), List.getElem?_append_right (by omega), List.getElem?_append_right (by omega), List.getElem?_append_right (by omega), h]
theorem layL_sty (z y : List Value) (hz : z.length = 51) (hy : (styN y).length = 47) : layL z 3 (styN y) = withSty z y := by
  have h0 : z = z.take 3 ++ (z.drop 3).take 47 ++ z.drop 50 := by
    rw [List.append_assoc, show z.drop 50 = (z.drop 3).drop 47 by rw [List.drop_drop], List.take_append_drop, List.take_append_drop]
  have h1 : (z.take 3).length = 3 := by simp; omega
  unfold withSty
  conv => lhs; rw [h0]
  have := layL_mid (z.take 3) ((z.drop 3).take 47) (z.drop 50) (styN y) (by rw [hy]; simp; omega)
  rw [h1] at this
  exact this
theorem infoSty : (Try.prog.info? 30).map (·.size) = some 47 := by kernel_rfl
theorem stymay_node {y : List Value} (hy : OkAll nodeLs y) (w : World) : Calls Try.prog 27 #[.agg (styN y).toArray] w fun e w' => e = .returned (.bool (styB y)) ∧ w.grownBy w' none := by
  obtain ⟨s, h1, h2⟩ := sty_of hy
  rw [styB_of h2, ← h2]
  exact stymay_tells s w h1
theorem sty_one {y : List Value} (hy : OkAll nodeLs y) : ∀ v ∈ styN y, v.oneCell' = true := okAll_one (styN_ok hy)
theorem Chg.one {c : Chg} (h : c.ok) : ∀ v ∈ c.cells.toList, v.oneCell' = true := fun v hv => by
  unfold Chg.cells at hv
  simp only [List.mem_cons] at hv
  rcases hv with rfl | rfl | rfl | rfl | hv
  · rfl
  · rfl
  · rfl
  · rfl
  · exact okAll_one h.y v hv
/-- What is known of a change's box: its cells, as long as memory only grows. -/
theorem chg_box (w : World) (c : Chg) : Hid (∀ W, (w.alloc (.cells c.cells 34)).grownBy W none → Row W w.heap.size 34 c.cells) :=
  Lib.hid fun W hg => (Row.new w 34 c.cells).kept0 hg
theorem OpPost.widen {w w0 w' : World} {B p : Nat} {q : Option Nat} {res : Except Int (List (List Value) × Int)} {r : Ending} (h : OpPost w0 B p q res r w') (hg : w.grownBy w0 none) : OpPost w B p q res r w' := by
  have hm := fun (hh : Mut w0 w' p q) => (Mut.ofGrown (p := p) (q := q) hg (.inl rfl)).trans hh (.inl rfl)
  cases res with
  | ok v => exact ⟨h.1, h.2.1, hm h.2.2⟩
  | error e => exact ⟨h.1, h.2.1, hm h.2.2⟩
theorem remove_any (B p : Nat) (A : Option Addr) (n k : Nat) (L : List (List Value)) (x : Int) (c : Chg) (w : World) (hD : DocAt w B p A n k L x) (hB : B ≤ w.heap.size) :
    Calls Try.prog 31 #[.pointer (some ⟨p, 0, none⟩), .agg c.cells] w (OpPost w B p (rowOf A k) (removeL L x c.key)) := by
  have hg0 := World.grownBy_alloc w (.cells c.cells 34) none
  have CC := Lib.hid (cut_any B p A n k L x c.key _ (hD.grown hg0) (Nat.le_trans hB hg0.size))
  have hl := Lib.hid hD.len
  have e1 := ((chg_box w c).out _ (World.grownBy.refl _ _)).at 1
  rw [Chg.c1] at e1
  clear hD hB
  generalize hcs : c.cells = cs at *
  have hg0' := Lib.hid hg0
  clear hg0 hcs
  go_enter Try.func31, Try.ntmps31
  go_wp2_with fail
  refine CC.out.mono ?_; rintro r w1 hres
  rcases hres with ⟨u, e, hu, h0, _, he, ⟨A1, c1, rfl, _⟩, hD1, hM⟩ | ⟨hu, rfl, hD1, hM⟩
  · have hfin : OpPost w B p (rowOf A k) (removeL L x c.key) (.returned (.tuple #[])) w1 := by
      have he2 : e = endN (dp L) L.length u := by rw [hl.out]; exact he
      unfold removeL
      rw [cutL_yes hu h0 he2]
      exact (OpPost.fine rfl hD1 hM).widen hg0'.out
    have hfin' := Lib.hid hfin
    clear hfin hD1 hM he hu
    go_wp2_with fail
    go_end0
    exact hfin'.out
  · have hfin : OpPost w B p (rowOf A k) (removeL L x c.key) (.panicked [{ v := wrongV 70, recovered := false }]) w1 := by
      unfold removeL
      rw [cutL_no hu]
      exact (OpPost.err rfl hD1 hM).widen hg0'.out
    have hfin' := Lib.hid hfin
    clear hfin hD1 hM hu
    go_wp2_with fail
    exact ⟨rfl, hfin'.out⟩
end Go.Proofs.Ytjnbfgogmhfbiaa
