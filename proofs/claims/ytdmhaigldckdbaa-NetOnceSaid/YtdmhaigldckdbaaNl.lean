/- All. -/
import Derived.Test.YtdmhaigldckdbaaNj
namespace Go.Proofs.Ytdmhaigldckdbaa
open Go Go.RowKit
/-- Flights of the caller's own, in a row of its own. -/
def Outs (w0 : World) (fl : List Flt) (A : Option Addr) (n c : Nat) (w : World) : Prop := w0.grownBy w none ∧ n = fl.length ∧ Owned w w0.heap.size fl ∧ Own w w0.heap.size 33 2 A n c (rowF fl)
theorem Outs.add {w0 wr V w6 : World} {fl : List Flt} {A A1 : Option Addr} {n c c1 b1 : Nat} (h : Outs w0 fl A n c wr) (hg : wr.grownBy V none) (f : Flt) (hf : f.ok) (hb1 : wr.heap.size ≤ b1) (ho : Own V b1 5 1 f.A f.bs.length f.cap (f.bs.map byte))
    (h6 : Own w6 w0.heap.size 33 2 A1 (n + 1) c1 (rowF fl ++ f.cells)) (hg6 : V.grownBy w6 (rowOf A c)) : Outs w0 (fl ++ [f]) A1 (n + 1) c1 w6 := by
  obtain ⟨k1, k2, ⟨k3, k4⟩, k5⟩ := h
  have k5V := k5.grown0 hg
  refine ⟨grown_new (grown_trans k1 hg) hg6 (fun b hb => (k5V.row_ge b hb).1), by simp [k2], ⟨fun x hx => ?_, ?_⟩, by rw [rowF_snoc]; exact h6⟩
  · rcases List.mem_append.1 hx with hx | hx
    · exact ⟨(k3 x hx).1, ((k3 x hx).2.grown0 hg).kept_row k5V (by decide) hg6⟩
    · rw [List.mem_singleton.1 hx]
      exact ⟨hf, (ho.kept_row k5V (by decide) hg6).base_ (Nat.le_trans k1.size hb1)⟩
  · rw [List.pairwise_append]
    refine ⟨k4, List.pairwise_singleton _ _, fun x hx y hy => ?_⟩
    rw [List.mem_singleton.1 hy]
    cases hxr : x.row with
    | none => exact .inl rfl
    | some b =>
      refine .inr fun e => ?_
      have a1 := ((k3 x hx).2.row_ge b hxr).2
      have a2 := (ho.row_ge b e.symm).1
      omega
set_option maxRecDepth 100000 in
set_option maxHeartbeats 2000000 in
theorem all_any (w : World) (base g : Nat) (fl : List Flt) (h : NetIs w base g fl) :
    Calls Try.prog 11 #[.pointer (some ⟨g, 0, none⟩)] w fun e w' => ∃ A c out, e = .returned (.slice A fl.length c) ∧ out.map Flt.it = fl.map Flt.it ∧ Outs w out A fl.length c w' := by
  have CN := Lib.hid (none_net w base g fl h)
  have hle := h.2.1
  obtain ⟨A0, c0, h0, hR⟩ := h.2.2.2
  have hcap := hR.2.1
  have hown := h.2.2.1
  have e1 : w.cell? ⟨g, 1, none⟩ = some (.slice A0 fl.length c0) := by rw [cell_of_row w g 1 _ _ _ h0]; rfl
  obtain ⟨i0, hi0, hz0, hz1, hz2⟩ := info_parts infoF
  obtain ⟨M, hMs, hmk⟩ : ∃ M : Array Value, M.size = fl.length * 2 ∧ ∀ W : World, (Instr.makeSlice 30 (.int .i64 0) (.int .i64 (fl.length : Int))).run Try.prog W = .ok (.slice (some ⟨W.heap.size, 0, none⟩) 0 fl.length) (W.alloc (.cells M 33)) := by
    refine ⟨madeCells #[.int .i64 0, .slice none 0 0] (fl.length * 2), by rw [size_madeCells], fun W => ?_⟩
    have := run_make (P := Try.prog) W 30 33 i0 _ Try.underlying30 hi0 hz0 .i64 .i64 0 fl.length (by omega) (by omega) (by rw [hz2]; omega) (by omega)
    rw [this, hz1]
    rfl
  have hO : Outs w [] (some ⟨w.heap.size, 0, none⟩) 0 fl.length (w.alloc (.cells M 33)) := by
    refine ⟨World.grownBy_alloc _ _ _, rfl, ⟨by simp, List.Pairwise.nil⟩, by simp [rowF], by omega, by unfold maxLen; omega, .inr ⟨_, M, rfl, Nat.le_refl _, heap_alloc_new w _, by omega, by simp [rowF]⟩⟩
  have hOO := Lib.hid hO
  have hh := Lib.hid h
  have hhR := Lib.hid hR
  have hhown := Lib.hid hown
  have e2 := (World.grownBy_alloc w (.cells M 33) none).cell e1 (by simp)
  have hwm := Lib.hid (World.grownBy_alloc w (.cells M 33) none)
  clear h h0 hR hown hO hMs
  go_enter Try.func11, Try.ntmps11
  go_wp2_with fail
  refine CN.out.mono ?_; rintro e w1 ⟨rfl, rfl⟩
  go_wp2_with fail
  go_loopw [3, 19] (fun o v wr => ∃ (k : Nat) (out : List Flt) (A : Option Addr) (c : Nat), k ≤ fl.length ∧ o = .slice A k c ∧ v = .int .i64 k ∧ out.map Flt.it = (fl.take k).map Flt.it ∧ Outs w out A k c wr) (fun _ v _ => fl.length - (intOf v).toNat)
  case atStart => exact ⟨0, [], _, _, by omega, rfl, rfl, rfl, hOO.out⟩
  case round =>
    obtain ⟨k, out, A, c, hk, rfl, rfl, hit, hO⟩ := hrel
    by_cases hlt : k < fl.length
    · obtain ⟨x, hx⟩ : ∃ x, fl[k]? = some x := ⟨_, List.getElem?_eq_getElem hlt⟩
      obtain ⟨r, rfl, _, _, _, hcr⟩ := hhR.out.cells_ (by rw [rowF_len]; omega)
      obtain ⟨x0, x1⟩ := rowF_get fl _ x hx
      have y0 := hO.1.cell ((hcr (k * 2) (by rw [rowF_len]; omega)).trans x0) (by simp)
      have y1 := hO.1.cell ((hcr (k * 2 + 1) (by rw [rowF_len]; omega)).trans x1) (by simp)
      obtain ⟨hxo, hxr⟩ := hhown.out.1 x (List.mem_of_getElem? hx)
      have hxl := hxo.1
      have CO := Lib.hid (fun W (hg : w.grownBy W none) => own_flight x.to x.A x.bs.length x.cap x.bs W w.heap.size rfl (hxr.reads.grown0 hg) (by omega))
      have hxx := Lib.hid hx
      have hxo' := Lib.hid hxo
      have hit' := Lib.hid hit
      have hO' := Lib.hid hO
      have hgw := hO.1
      clear hx hxo hxr hit hO hcr x0 x1
      go_wp2_with fail
      have hgb := World.grownBy_alloc wr (.cells #[.int .i64 x.to, .slice x.A x.bs.length x.cap] 33) none
      refine (CO.out _ (grown_trans hgw hgb)).mono ?_; rintro e w5 ⟨A', c', rfl, hown1, hgx⟩
      have hgc := World.grownBy_alloc w5 (.cells #[.int .i64 x.to, .slice A' x.bs.length c'] 33) none
      have hg5 := Lib.hid (grown_trans (grown_trans hgb hgx) hgc)
      have hr2 := Lib.hid (Row.new w5 33 #[.int .i64 x.to, .slice A' x.bs.length c']).reads2
      have hRo := Lib.hid (hO'.out.2.2.2.grown0 hg5.out)
      have hbs := Lib.hid (Nat.le_trans hgw.size hg5.out.size)
      have hown1' := Lib.hid (hown1.grown0 hgc)
      have hsz5 := Lib.hid hgb.size
      go_wp2_with (at_builtin; refine wpList_append_Own rfl (.tmp 23) (.tmp 26) 30 rfl w.heap.size 33 i0 _ 2 32 Try.underlying30 hi0 hz0 hz1 hz2 rfl (by omega) A k c (rowF out) rfl hRo.out (some ⟨w5.heap.size, 0, none⟩) 1 1 _ [.int .i64 x.to, .slice A' x.bs.length c'] rfl rfl hr2.out (by simp [Value.oneCell']) (by simp only [maxLen]; omega) (by omega) hbs.out ?_; intro A1 c1 w6 h6 hg6 _)
      go_roundw
      case rel =>
        refine ⟨k + 1, out ++ [⟨x.to, A', c', x.bs⟩], A1, c1, by omega, rfl, by go_num, ?_, ?_⟩
        · rw [List.map_append, hit'.out, List.take_add_one, hxx.out, List.map_append]
          rfl
        · exact hO'.out.add hg5.out ⟨x.to, A', c', x.bs⟩ hxo'.out hsz5.out hown1'.out h6 hg6
      case measure => simp [intOf]; omega
    · obtain rfl : k = fl.length := by omega
      go_wp2_with fail
      go_ret
      exact ⟨_, _, out, rfl, by rw [hit, List.take_length], hO⟩
end Go.Proofs.Ytdmhaigldckdbaa
