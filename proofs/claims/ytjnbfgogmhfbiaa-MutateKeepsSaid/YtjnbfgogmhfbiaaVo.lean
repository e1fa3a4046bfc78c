/- The mutations: what comes of a change, besides: texts stay small; the functions by kind. -/
import Derived.Test.YtjnbfgogmhfbiaaVn
namespace Go.Proofs.Ytjnbfgogmhfbiaa
open Go Go.RowKit
theorem MayL.facts {L : List (List Value)} {x : Int} (h : MayL L x) : 1 ≤ L.length ∧ L.length ≤ 300 ∧ (0 ≤ x ∧ x ≤ 1073741825) ∧ ∀ i, i < L.length → 0 ≤ dp L i ∧ dp L i ≤ 15 := by
  obtain ⟨h1, h2, h3, h4, _, _⟩ := h.1
  refine ⟨h1, h2, ⟨?_, h3⟩, fun i hi => ?_⟩
  · have := (h4 0 (by omega)).1
    have h5 := this.1
    have h6 := this.2.1
    omega
  · have := (h4 i hi).1.2.2
    unfold dp
    omega
theorem sty_at {y : List Value} (hy : OkAll nodeLs y) (v : Value) (a b c : Value) : (a :: b :: c :: (styN y ++ [v]))[50]? = some v := by
  have h := styN_len hy
  rw [List.getElem?_cons_succ, List.getElem?_cons_succ, List.getElem?_cons_succ, List.getElem?_append_right (by omega), h]
  rfl
theorem box_text {x d : Int} {y : List Value} (hy : OkAll nodeLs y) : lenN (boxOf x d y) = 0 := by
  unfold lenN strAt boxOf
  rw [sty_at hy]
  rfl
theorem text_text {x d : Int} {y : List Value} (hy : OkAll nodeLs y) : lenN (textOf x d y) = lenN y := by
  obtain ⟨s, h1, h2, _⟩ := okAll_text hy
  unfold textOf
  rw [h1]
  exact h2
theorem deepen_text (d : Int) (y : List Value) : lenN (deepen d y) = lenN y := by
  unfold lenN strAt deepen
  rw [List.getElem?_set_ne (by omega)]
theorem withSty_text {z y : List Value} (hz : OkAll nodeLs z) (hy : OkAll nodeLs y) : lenN (withSty z y) = lenN z := by
  unfold lenN strAt withSty
  have h1 := hz.len
  have h2 := styN_len hy
  rw [nodeLs_len] at h1
  rw [List.getElem?_append_right (by simp; omega), List.getElem?_drop]
  simp only [List.length_append, List.length_take, h1, h2]
  rfl
theorem withText_text {z y : List Value} (hz : OkAll nodeLs z) (hy : OkAll nodeLs y) : lenN (withText z y) = lenN y := by
  obtain ⟨s, h1, h2, _⟩ := okAll_text hy
  have h3 := hz.len
  rw [nodeLs_len] at h3
  unfold withText
  rw [h1]
  unfold lenN strAt
  rw [List.getElem?_set_self (by omega)]
  exact h2
theorem mem_put {L T : List (List Value)} {g : Nat} {y : List Value} (h : y ∈ putAt L g T) : y ∈ L ∨ y ∈ T := by
  unfold putAt at h
  rcases List.mem_append.1 h with h | h
  · rcases List.mem_append.1 h with h | h
    · exact .inl (List.mem_of_mem_take h)
    · exact .inr h
  · exact .inl (List.mem_of_mem_drop h)
theorem cutL_mem {L T R : List (List Value)} {key : Int} (h : cutL L key = .ok (T, R)) : (∀ y ∈ T, y ∈ L) ∧ ∀ y ∈ R, y ∈ L := by
  unfold cutL at h
  split at h
  · injection h with h
    injection h with h1 h2
    subst h1 h2
    refine ⟨fun y hy => List.mem_of_mem_drop (List.mem_of_mem_take hy), fun y hy => ?_⟩
    rcases List.mem_append.1 hy with hy | hy
    · exact List.mem_of_mem_take hy
    · exact List.mem_of_mem_drop hy
  · cases h
theorem opL_len {L L' : List (List Value)} {x x' : Int} {c : Chg} (hL : ∀ y ∈ L, OkAll nodeLs y) (hc : c.ok) (h : opL L x c = .ok (L', x')) (hs : ∀ y ∈ L, lenN y ≤ 5000) (hy : lenN c.y ≤ 5000) : ∀ y ∈ L', lenN y ≤ 5000 := by
  unfold opL at h
  split at h
  · unfold insertL at h
    split at h
    · cases h
    · split at h
      · split at h
        · injection h with h
          injection h with h1 h2
          subst h1
          intro y hm
          rcases mem_put hm with hm | hm
          · exact hs y hm
          · rw [List.mem_singleton.1 hm, box_text hc.y]; omega
        · cases h
      · split at h
        · injection h with h
          injection h with h1 h2
          subst h1
          intro y hm
          rcases mem_put hm with hm | hm
          · exact hs y hm
          · rw [List.mem_singleton.1 hm, text_text hc.y]; exact hy
        · cases h
  · split at h
    · unfold removeL at h
      split at h
      · cases h
      · rename_i hcut
        injection h with h
        injection h with h1 h2
        subst h1
        exact fun y hm => hs y ((cutL_mem hcut).2 y hm)
    · split at h
      · unfold moveL at h
        split at h
        · cases h
        · rename_i hcut
          split at h
          · cases h
          · injection h with h
            injection h with h1 h2
            subst h1
            intro y hm
            rcases mem_put hm with hm | hm
            · exact hs y ((cutL_mem hcut).2 y hm)
            · obtain ⟨z, hz, rfl⟩ := List.mem_map.1 hm
              rw [deepen_text]
              exact hs z ((cutL_mem hcut).1 z hz)
      · split at h
        · unfold styleL at h
          split at h
          · rename_i hf
            obtain ⟨u, hu, hul, _⟩ := findI_spec hf
            dsimp only at h
            rw [hu] at h
            split at h
            · split at h
              · injection h with h
                injection h with h1 h2
                subst h1
                intro y hm
                rcases List.mem_or_eq_of_mem_set hm with hm | hm
                · exact hs y hm
                · rw [hm, Int.toNat_natCast, withSty_text (nd_ok_ hL hul) hc.y]
                  exact hs _ (List.mem_of_getElem? (nd_get hul))
              · cases h
            · cases h
          · cases h
        · unfold textL at h
          split at h
          · rename_i hf
            obtain ⟨u, hu, hul, _⟩ := findI_spec hf
            dsimp only at h
            rw [hu] at h
            split at h
            · injection h with h
              injection h with h1 h2
              subst h1
              intro y hm
              rcases List.mem_or_eq_of_mem_set hm with hm | hm
              · exact hs y hm
              · rw [hm, Int.toNat_natCast, withText_text (nd_ok_ hL hul) hc.y]; exact hy
            · cases h
          · cases h
/-- The function of a kind. -/
def doer (kd : Int) : Nat := if kd = 1 then 30 else if kd = 2 then 31 else if kd = 3 then 32 else if kd = 4 then 33 else 35
theorem doers_get {kd : Int} (h : 1 ≤ kd ∧ kd ≤ 5) : doers[kd.toNat]? = some (.func (.func (doer kd)) #[] #[]) := by
  rcases (by omega : kd = 1 ∨ kd = 2 ∨ kd = 3 ∨ kd = 4 ∨ kd = 5) with rfl | rfl | rfl | rfl | rfl <;> rfl
theorem run_doer {kd : Int} (h : 1 ≤ kd ∧ kd ≤ 5) (w : World) : (Instr.index 56 (.agg doers) (.int .u8 kd)).run Try.prog w = .ok (.func (.func (doer kd)) #[] #[]) w := by
  rcases (by omega : kd = 1 ∨ kd = 2 ∨ kd = 3 ∨ kd = 4 ∨ kd = 5) with rfl | rfl | rfl | rfl | rfl <;> kernel_rfl
theorem call_doer {kd : Int} (h : 1 ≤ kd ∧ kd ≤ 5) (args : Array Value) (w : World) : (callFunc (doer kd) args).run Try.prog w = .ok (.enter (doer kd) args) w := by
  rcases (by omega : kd = 1 ∨ kd = 2 ∨ kd = 3 ∨ kd = 4 ∨ kd = 5) with rfl | rfl | rfl | rfl | rfl <;> kernel_rfl
theorem op_any (B p : Nat) (A : Option Addr) (n k : Nat) (L : List (List Value)) (x : Int) (c : Chg) (w : World) (hD : DocAt w B p A n k L x) (hB : B ≤ w.heap.size) (hc : c.ok) (hn : n ≤ 600) (hx : 0 ≤ x ∧ x ≤ 1073741825) (hdp : ∀ i, i < n → -1 ≤ dp L i ∧ dp L i ≤ 1000) (hk : 1 ≤ c.kd ∧ c.kd ≤ 5) :
    Calls Try.prog (doer c.kd) #[.pointer (some ⟨p, 0, none⟩), .agg c.cells] w (OpPost w B p (rowOf A k) (opL L x c)) := by
  unfold doer opL
  split
  · exact insert_any B p A n k L x c w hD hB hc hn hx hdp
  split
  · exact remove_any B p A n k L x c w hD hB
  split
  · exact move_any B p A n k L x c w hD hB hc hdp
  split
  · exact style_any B p A n k L x c w hD hc
  · exact text_any B p A n k L x c w hD hc
theorem zeroChg_ok : (⟨0, 0, 0, 0, zeroNode⟩ : Chg).cells = (⟨0, 0, 0, 0, zeroNode⟩ : Chg).cells := rfl
theorem bigC : Big Try.prog 34 55 (⟨0, 0, 0, 0, zeroNode⟩ : Chg).cells := ⟨⟨_, Try.underlying34, rfl⟩, by kernel_rfl, by kernel_rfl⟩
/-- Apply's four boxes. -/
theorem boxes4 (w : World) (v : Value) (x : Int) (c : Chg) : ∃ W, (((w.alloc (.cells #[v, .int .i64 x] 24)).alloc (.cells c.cells 34)).alloc (.cells #[.slice none 0 0, .int .i64 0] 24)).alloc (.cells #[.int .i64 0] 37) = W ∧
    Two W w.heap.size 24 v (.int .i64 x) ∧ Row W (w.heap.size + 1) 34 c.cells ∧ Two W (w.heap.size + 1 + 1) 24 (.slice none 0 0) (.int .i64 0) ∧ Row W (w.heap.size + 1 + 1 + 1) 37 #[.int .i64 0] ∧ w.grownBy W none := by
  refine ⟨_, rfl, ?_, ?_, ?_, ?_, ?_⟩
  · exact (((Two.new w _ _ _).kept (World.grownBy_alloc _ _ none) (by simp)).kept (World.grownBy_alloc _ _ none) (by simp)).kept (World.grownBy_alloc _ _ none) (by simp)
  · have := ((Row.new (w.alloc (.cells #[v, .int .i64 x] 24)) 34 c.cells).kept0 (World.grownBy_alloc _ (.cells #[.slice none 0 0, .int .i64 0] 24) none)).kept0 (World.grownBy_alloc _ (.cells #[.int .i64 0] 37) none)
    rwa [World.size_alloc] at this
  · have := (Two.new ((w.alloc (.cells #[v, .int .i64 x] 24)).alloc (.cells c.cells 34)) 24 (.slice none 0 0) (.int .i64 0)).kept (World.grownBy_alloc _ (.cells #[.int .i64 0] 37) none) (by simp)
    rwa [World.size_alloc, World.size_alloc] at this
  · have := Row.new (((w.alloc (.cells #[v, .int .i64 x] 24)).alloc (.cells c.cells 34)).alloc (.cells #[.slice none 0 0, .int .i64 0] 24)) 37 #[.int .i64 0]
    rwa [World.size_alloc, World.size_alloc, World.size_alloc] at this
  · exact grown_trans (World.grownBy_alloc _ _ _) (grown_trans (World.grownBy_alloc _ _ _) (grown_trans (World.grownBy_alloc _ _ _) (World.grownBy_alloc _ _ _)))
end Go.Proofs.Ytjnbfgogmhfbiaa
