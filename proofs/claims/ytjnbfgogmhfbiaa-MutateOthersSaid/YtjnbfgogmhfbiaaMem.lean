/- Words for memory, over any program: a slice that reads as a list of cells; a row of the call's own; append onto it. -/
import Derived.WalkKit
import Derived.Test.YtjnbfgogmhfbiaaBy
import Derived.Below
import Derived.Deep.Draws
import Derived.Lib.Hide
import Derived.Laws.CopyOwn
namespace Go.Proofs.Ytjnbfgogmhfbiaa
open Go Go.RowKit

theorem add_block (a : Addr) (n : Nat) : (a.add n).block = a.block := by unfold Addr.add; split <;> rfl
theorem add_add' (a : Addr) (i j : Nat) : (a.add i).add j = a.add (i + j) := by
  unfold Addr.add
  by_cases hi : i = 0 <;> by_cases hj : j = 0 <;> simp [hi, hj, Nat.add_assoc]

/-- A slice at 'A' whose first cells are 'xs', in a block below 'B'. -/
def Reads (w : World) (B : Nat) (A : Option Addr) (xs : List Value) : Prop :=
  0 < xs.length → ∃ ad, A = some ad ∧ ad.block < B ∧ ∀ j u, xs[j]? = some u → w.cell? (ad.add j) = some u

section
variable {w w' : World} {B B' : Nat} {A : Option Addr} {xs ys : List Value}
theorem Reads.nil_ : Reads w B A [] := fun h => absurd h (by simp)
theorem Reads.at_ {k : Nat} (h : Reads w B A xs) (hk : k < xs.length) : ∃ ad, A = some ad ∧ ad.block < B ∧ w.cell? (ad.add k) = some xs[k] := by
  obtain ⟨ad, e, hb, hc⟩ := h (by omega)
  exact ⟨ad, e, hb, hc k _ (List.getElem?_eq_getElem hk)⟩
theorem Reads.keep (h : Reads w B A xs) (hk : ∀ p : Addr, p.block < B → ∀ v, w.cell? p = some v → w'.cell? p = some v) : Reads w' B A xs := fun hn => by
  obtain ⟨ad, e, hb, hc⟩ := h hn
  exact ⟨ad, e, hb, fun j u hu => hk _ (by rw [add_block]; exact hb) _ (hc j u hu)⟩
theorem Reads.more (h : Reads w B A xs) (hB : B ≤ B') : Reads w B' A xs := fun hn => by
  obtain ⟨ad, e, hb, hc⟩ := h hn
  exact ⟨ad, e, by omega, hc⟩
theorem Reads.below (h : Reads w B A xs) (hb : Below B w w') : Reads w' B A xs := h.keep fun _ hp v hv => by rw [hb.cell hp]; exact hv
theorem Reads.grown (h : Reads w B A xs) {row : Option Nat} (hg : w.grownBy w' row) (hr : ∀ g, row = some g → B ≤ g) : Reads w' B A xs :=
  h.keep fun p hp v hv => hg.cell hv (fun e => by have := hr _ e.symm; omega)
theorem Reads.grown0 (h : Reads w B A xs) (hg : w.grownBy w' none) : Reads w' B A xs := h.grown hg (fun g e => by cases e)
theorem Reads.alloc (h : Reads w B A xs) (o : Obj) : Reads (w.alloc o) B A xs := h.grown0 (World.grownBy_alloc w o none)
theorem Reads.take (h : Reads w B A xs) (k : Nat) : Reads w B A (xs.take k) := fun hn => by
  obtain ⟨ad, e, hb, hc⟩ := h (by simp at hn; omega)
  refine ⟨ad, e, hb, fun j u hu => hc j u ?_⟩
  rw [List.getElem?_take] at hu
  split at hu
  · exact hu
  · cases hu
theorem Reads.drop (h : Reads w B A xs) {k : Nat} {ad : Addr} (hA : A = some ad) : Reads w B (some (ad.add k)) (xs.drop k) := fun hn => by
  obtain ⟨ad', e, hb, hc⟩ := h (by simp at hn; omega)
  rw [hA] at e
  obtain rfl := Option.some.inj e
  refine ⟨_, rfl, by rw [add_block]; exact hb, fun j u hu => ?_⟩
  rw [add_add']
  exact hc _ u (by rw [← hu, List.getElem?_drop])
end

/-- What may be written of a slice that the call owns: its block, where it has any room. -/
def rowOf (A : Option Addr) (cap : Nat) : Option Nat := if cap = 0 then none else A.map (·.block)

/-- A slice '.slice A n cap' of the call's own, whose cells are 'xs' ('size' cells an element): it has no room, or it begins a block from 'base' on. -/
def Own (w : World) (base : Nat) (e : TypeId) (size : Nat) (A : Option Addr) (n cap : Nat) (xs : List Value) : Prop :=
  xs.length = n * size ∧ n ≤ cap ∧ cap ≤ maxLen ∧
    (cap = 0 ∨ ∃ g cur, A = some ⟨g, 0, none⟩ ∧ base ≤ g ∧ w.heap[g]? = some (.cells cur e (0, 0)) ∧ cap * size ≤ cur.size ∧ cur.toList.take (n * size) = xs)

section
variable {w w' : World} {base base' e size n cap : Nat} {A : Option Addr} {xs : List Value}
theorem Own.nil_ (w : World) (base e size : Nat) (A : Option Addr) : Own w base e size A 0 0 [] := ⟨by simp, by simp, by simp, .inl rfl⟩
theorem Own.len (h : Own w base e size A n cap xs) : xs.length = n * size := h.1
theorem Own.grownBy_ (h : Own w base e size A n cap xs) {row : Option Nat} (hg : w.grownBy w' row) (hne : rowOf A cap = none ∨ rowOf A cap ≠ row) : Own w' base e size A n cap xs := by
  obtain ⟨h1, h2, h3, h4⟩ := h
  refine ⟨h1, h2, h3, ?_⟩
  rcases h4 with h4 | ⟨g, cur, rfl, hb, hgg, r⟩
  · exact .inl h4
  · by_cases hc : cap = 0
    · exact .inl hc
    · refine .inr ⟨g, cur, rfl, hb, ?_, r⟩
      have : rowOf (some (⟨g, 0, none⟩ : Addr)) cap = some g := by simp [rowOf, hc]
      rw [this] at hne
      rw [hg.block g (Array.getElem?_eq_some_iff.1 hgg).1 (by rcases hne with hne | hne; · cases hne
                                                              · exact hne)]
      exact hgg
theorem Own.grown0 (h : Own w base e size A n cap xs) (hg : w.grownBy w' none) : Own w' base e size A n cap xs :=
  h.grownBy_ hg (by cases hr : rowOf A cap <;> simp)
theorem Own.alloc (h : Own w base e size A n cap xs) (o : Obj) : Own (w.alloc o) base e size A n cap xs := h.grown0 (World.grownBy_alloc w o none)
theorem Own.base_ (h : Own w base e size A n cap xs) (hb : base' ≤ base) : Own w base' e size A n cap xs := by
  obtain ⟨h1, h2, h3, h4⟩ := h
  refine ⟨h1, h2, h3, ?_⟩
  rcases h4 with h4 | ⟨g, cur, rfl, hbb, r⟩
  · exact .inl h4
  · exact .inr ⟨g, cur, rfl, by omega, r⟩
theorem Own.row_ge (h : Own w base e size A n cap xs) : ∀ g, rowOf A cap = some g → base ≤ g ∧ g < w.heap.size := by
  intro k hk
  rcases h.2.2.2 with h4 | ⟨g, cur, rfl, hb, hgg, r⟩
  · simp [rowOf, h4] at hk
  · by_cases hc : cap = 0
    · simp [rowOf, hc] at hk
    · simp [rowOf, hc] at hk
      subst hk
      exact ⟨hb, (Array.getElem?_eq_some_iff.1 hgg).1⟩
theorem Own.cells_ (h : Own w base e size A n cap xs) (hn : 0 < xs.length) : ∃ g, A = some ⟨g, 0, none⟩ ∧ rowOf A cap = some g ∧ base ≤ g ∧ g < w.heap.size ∧ ∀ j, j < xs.length → w.cell? ⟨g, j, none⟩ = xs[j]? := by
  obtain ⟨h1, h2, h3, h4⟩ := h
  have hn0 : n ≠ 0 := by rintro rfl; simp at h1; subst h1; simp at hn
  rcases h4 with h4 | ⟨g, cur, rfl, hb, hgg, hcs, htake⟩
  · omega
  · refine ⟨g, rfl, by simp [rowOf]; omega, hb, (Array.getElem?_eq_some_iff.1 hgg).1, fun j hj => ?_⟩
    rw [cell_of_row w g j cur e (0, 0) hgg, ← htake, List.getElem?_take, if_pos (by omega)]
    simp
theorem Own.reads (h : Own w base e size A n cap xs) : Reads w w.heap.size A xs := fun hn => by
  obtain ⟨g, rfl, _, _, hlt, hc⟩ := h.cells_ hn
  refine ⟨_, rfl, hlt, fun j u hu => ?_⟩
  have hj : j < xs.length := (List.getElem?_eq_some_iff.1 hu).1
  have : (⟨g, 0, none⟩ : Addr).add j = ⟨g, j, none⟩ := by unfold Addr.add; split <;> simp_all
  rw [this, hc j hj, hu]
theorem Own.frozen_ (h : Own w base e size A n cap xs) (hn : 0 < xs.length) {g : Nat} (hA : A = some ⟨g, 0, none⟩) (j : Nat) : w.frozen? ⟨g, j, none⟩ = false := by
  obtain ⟨h1, h2, h3, h4⟩ := h
  have hn0 : n ≠ 0 := by rintro rfl; simp at h1; subst h1; simp at hn
  rcases h4 with h4 | ⟨g', cur, hA', hb, hgg, hcs, htake⟩
  · omega
  · rw [hA] at hA'
    simp only [Option.some.injEq, Addr.mk.injEq, and_true] at hA'
    subst hA'
    exact frozen_of_row w g j cur e hgg
/-- A store into a row of the call's own. -/
theorem Own.set_ {g : Nat} (h : Own w base e size (some ⟨g, 0, none⟩) n cap xs) (j : Nat) (u : Value) :
    Own (w.setCell ⟨g, j, none⟩ u) base e size (some ⟨g, 0, none⟩) n cap (xs.set j u) := by
  obtain ⟨h1, h2, h3, h4⟩ := h
  refine ⟨by simpa using h1, h2, h3, ?_⟩
  rcases h4 with h4 | ⟨g', cur, hA', hb, hgg, hcs, htake⟩
  · exact .inl h4
  · simp only [Option.some.injEq, Addr.mk.injEq, and_true] at hA'
    subst hA'
    refine .inr ⟨g, cur.setIfInBounds j u, rfl, hb, heap_setCell_same w g j cur e u hgg, by simpa using hcs, ?_⟩
    rw [Array.toList_setIfInBounds, ← htake, List.take_set]
theorem grownBy_setCell (w : World) (g j : Nat) (u : Value) : w.grownBy (w.setCell ⟨g, j, none⟩ u) (some g) :=
  ⟨rfl, rfl, rfl, by simp, fun k _ hk => heap_setCell_other w ⟨g, j, none⟩ k u (fun e => hk (by simp [e]))⟩
theorem grown_trans {a b c : World} {row : Option Nat} (h : a.grownBy b row) (k : b.grownBy c row) : a.grownBy c row :=
  ⟨k.os.trans h.os, k.tape.trans h.tape, k.output.trans h.output, Nat.le_trans h.size k.size, fun i hi hne => (k.block i (Nat.lt_of_lt_of_le hi h.size) hne).trans (h.block i hi hne)⟩
theorem grown_drewN {a w : World} {row : Option Nat} (h : a.grownBy w row) (n : Nat) : a.grownBy (w.drewN n) row := ⟨h.os, h.tape, h.output, h.size, h.block⟩
theorem grown_drew {a w : World} {row : Option Nat} (h : a.grownBy w row) : a.grownBy w.drew row := ⟨h.os, h.tape, h.output, h.size, h.block⟩
theorem grown_drop {a b : World} {row : Option Nat} (h : a.grownBy b none) : a.grownBy b row := ⟨h.os, h.tape, h.output, h.size, fun i hi _ => h.block i hi (by simp)⟩
/-- What is written of a row that did not lie there before. -/
theorem grown_new {a b c : World} {row : Option Nat} (h : a.grownBy b none) (k : b.grownBy c row) (hr : ∀ g, row = some g → a.heap.size ≤ g) : a.grownBy c none :=
  ⟨k.os.trans h.os, k.tape.trans h.tape, k.output.trans h.output, Nat.le_trans h.size k.size, fun i hi _ =>
    (k.block i (Nat.lt_of_lt_of_le hi h.size) (fun e => by have := hr i e.symm; omega)).trans (h.block i hi (by simp))⟩
theorem grown_below {a b : World} (h : a.grownBy b none) : Below a.heap.size a b := ⟨h.os, h.tape, h.output, h.size, fun i hi => h.block i hi (by simp)⟩
theorem below_grown {a b : World} (h : Below a.heap.size a b) : a.grownBy b none := ⟨h.os, h.tape, h.output, h.size, fun i hi _ => h.block i hi⟩
end

/-- Nothing has happened but draws. -/
def Drew (w w' : World) : Prop := ∃ n, w' = w.drewN n
theorem Drew.refl_ (w : World) : Drew w w := ⟨0, rfl⟩
theorem Drew.more_ {w w' : World} (h : Drew w w') (n : Nat) : Drew w (w'.drewN n) := by
  obtain ⟨m, rfl⟩ := h
  exact ⟨m + n, by rw [World.drewN_drewN]⟩
theorem Drew.trans_ {w w' w'' : World} (h : Drew w w') (k : Drew w' w'') : Drew w w'' := by
  obtain ⟨m, rfl⟩ := k
  exact h.more_ m
theorem Drew.grown_ {w w' : World} (h : Drew w w') {row : Option Nat} : w.grownBy w' row := by
  obtain ⟨m, rfl⟩ := h
  exact grown_drewN (World.grownBy.refl _ _) m
/-- For 'go_quiet'. -/
theorem quiet_drew {P : Program} {f : FuncId} {args : Array Value} {w : World} {n : Nat} {v : Value} (h : Calls P f args (w.drewN n) fun e w' => e = .returned v ∧ Drew (w.drewN n) w') :
    Calls P f args (w.drewN n) fun e w'' => e = .returned v ∧ ∃ m, w'' = w.drewN m :=
  h.mono fun _ _ ⟨he, m, hm⟩ => ⟨he, n + m, by rw [hm, World.drewN_drewN]⟩
section
variable {P : Program} (w : World)
theorem run_firstCells_opt (size m : Nat) (S : Option Addr) (c B : Nat) (news : List Value) (hl : news.length = m * size) (hr : Reads w B S news) (hsz : 0 < size) :
    (Builtin.firstCells size m (.slice S m c)).run P w = .ok news.toArray w := by
  by_cases hn : 0 < news.length
  · obtain ⟨ad, rfl, _, hc⟩ := hr hn
    exact run_firstCells_some w size m ad m c news hl hc
  · have hnil : news = [] := List.eq_nil_of_length_eq_zero (by omega)
    subst hnil
    have hm : m = 0 := by
      rcases Nat.mul_eq_zero.1 hl.symm with h | h
      · exact h
      · omega
    subst hm
    cases S with
    | none => simp [run_firstCells_none]
    | some ad => exact run_firstCells_some w size 0 ad 0 c [] (by simp) (by simp)

/-- append onto a row of the call's own, of whatever source. -/
theorem run_append_Own (base : Nat) (t ty e : TypeId) (i : TypeInfo) (z : Value) (size bytes : Nat) (ht : P.underlying t = some (.slice e)) (hi : P.info? e = some i) (hz : i.zero = some z)
    (hsize : i.size = size) (hby : i.bytes = bytes) (hzs : z.cells.size = size) (hsz : 0 < size)
    (A : Option Addr) (n cap : Nat) (xs : List Value) (hown : Own w base e size A n cap xs)
    (S : Option Addr) (m c B : Nat) (news : List Value) (hl : news.length = m * size) (hr : Reads w B S news) (h1 : ∀ u ∈ news, u.oneCell' = true)
    (h63 : n + m ≤ maxLen) (hbytes : (n + m) * bytes ≤ 140737488355328) (hbase : base ≤ w.heap.size) :
    ∃ A' cap' w', (Builtin.append_ #[t, t] ty #[.slice A n cap, .slice S m c]).run P w = .ok (.slice A' (n + m) cap') w' ∧ Own w' base e size A' (n + m) cap' (xs ++ news) ∧
      w.grownBy w' (rowOf A cap) ∧ (A' = A ∧ cap' = cap ∨ A' = some ⟨w.heap.size, 0, none⟩) := by
  subst hsize
  subst hby
  have hsmall : n + m ≤ 9223372036854775807 := by simp only [maxLen] at h63; omega
  have hlen : (xs ++ news).length = (n + m) * i.size := by rw [List.length_append, hown.1, hl, Nat.add_mul]
  by_cases hroom : n + m ≤ cap
  · have hf := run_firstCells_opt (P := P) w i.size m S c B news hl hr hsz
    rcases hown.2.2.2 with hc0 | ⟨g, cur, rfl, hbg, hgg, hcs, htake⟩
    · have hm : m = 0 := by omega
      have hn : n = 0 := by omega
      subst hm; subst hn; subst hc0
      have hnews : news = [] := List.eq_nil_of_length_eq_zero (by simpa using hl)
      have hxs : xs = [] := List.eq_nil_of_length_eq_zero (by simpa using hown.1)
      subst hnews; subst hxs
      refine ⟨A, 0, w, ?_, Own.nil_ _ _ _ _ _, World.grownBy.refl w _, .inl ⟨rfl, rfl⟩⟩
      cases A <;> simp [Builtin.append_, run_underlying ht, sizeOf, typeInfo, hi, Builtin.lenOf, hf, storeCells]
    · have hfit : n * i.size + news.length ≤ cur.size := by rw [hl, ← Nat.add_mul]; exact Nat.le_trans (Nat.mul_le_mul_right _ hroom) hcs
      have hst := run_storeCells_at P g (n * i.size) e news 0 cur w hgg (by simpa using hfit) h1
      simp only [Nat.add_zero] at hst
      refine ⟨some ⟨g, 0, none⟩, cap, w.setRow g (cur.toList.take (n * i.size) ++ news ++ cur.toList.drop (n * i.size + news.length)).toArray, by simp [Builtin.append_, run_underlying ht, sizeOf, typeInfo, hi, Builtin.lenOf, hroom, hf, Addr.add_lit, hst],
        ⟨hlen, hroom, hown.2.2.1, .inr ⟨g, _, rfl, hbg, setRow_heap w g cur _ e _ hgg, ?_, ?_⟩⟩, ?_, .inl ⟨rfl, rfl⟩⟩
      · simp only [List.size_toArray, List.length_append, List.length_take, List.length_drop, Array.length_toList]
        omega
      · rw [htake, ← hlen]
        exact List.take_left
      · by_cases hc : cap = 0
        · have hm : m = 0 := by omega
          have hn : n = 0 := by omega
          subst hm; subst hn
          have hnews : news = [] := List.eq_nil_of_length_eq_zero (by simpa using hl)
          subst hnews
          have : (cur.toList.take (0 * i.size) ++ [] ++ cur.toList.drop (0 * i.size + ([] : List Value).length)).toArray = cur := by simp
          rw [this, setRow_self w g cur e (0, 0) hgg]
          exact World.grownBy.refl w _
        · exact ⟨rfl, rfl, rfl, by simp, fun k _ hk => setRow_other w g k _ (fun e => hk (by simp [rowOf, hc, e]))⟩
  · have hgrow : ∀ (row : Option Nat), Own (w.drew.alloc (.cells (xs.toArray ++ news.toArray ++ Builtin.zeroCells z.cells (grownCap w (n + m) cap e - (n + m))) e)) base e i.size
        (some ⟨w.heap.size, 0, none⟩) (n + m) (grownCap w (n + m) cap e) (xs ++ news) ∧
        w.grownBy (w.drew.alloc (.cells (xs.toArray ++ news.toArray ++ Builtin.zeroCells z.cells (grownCap w (n + m) cap e - (n + m))) e)) row := by
      intro row
      have hge := grownCap_ge w (n + m) cap e
      have hcm : grownCap w (n + m) cap e ≤ maxLen := grownCap_le_maxLen w (n + m) cap e h63
      refine ⟨⟨hlen, hge, hcm, .inr ⟨w.heap.size, _, rfl, hbase, heap_alloc_new w.drew _, ?_, ?_⟩⟩, ⟨rfl, rfl, rfl, by simp, fun k hk _ => Below.heap_alloc w.drew _ k hk⟩⟩
      · simp only [Array.size_append, List.size_toArray, size_zeroCells, hzs, hown.1, hl, ← Nat.add_mul]
        refine Nat.mul_le_mul_right _ ?_
        omega
      · simp only [Array.toList_append, List.append_assoc]
        rw [← List.append_assoc, ← hlen]
        exact List.take_left
    have hn' : ¬ (n + m ≤ cap) := hroom
    have h63' : ¬ (9223372036854775807 < ((n : Int) + (m : Int))) := by omega
    have hfit := growslice_fits (need := n + m) (old := cap) (bytes := i.bytes) (by omega) hbytes
    have h48' : ¬ (281474976710656 < Builtin.nextslicecap (n + m) cap * i.bytes) := by omega
    have hf := run_firstCells_opt (P := P) w.drew i.size m S c B news hl hr hsz
    have hro : Reads w (w.heap.size) A xs := hown.reads
    have hfo := run_firstCells_opt (P := P) w.drew i.size n A cap w.heap.size xs hown.1 hro hsz
    refine ⟨_, _, _, ?_, (hgrow none).1, (hgrow _).2, .inr rfl⟩
    simp [Builtin.append_, run_underlying ht, sizeOf, typeInfo, zeroValue, hi, hz, Builtin.lenOf, hn', h63', h48', Question.forced, hf, hfo, newRow, grownCap]
    rw [← List.append_toArray, Array.append_assoc]

theorem wpList_append_Own {w : World} {ops : Array Oper} {rest : List Oper} {o : Oper} {a : Act} {Q : Exit → Act → World → Prop} (hgd : o.guard = none) (s x : Operand) (t : TypeId)
    (ho : o.op = .call { callee := .builtin .append, args := #[s, x], argTypes := #[t, t] })
    (base : Nat) (e : TypeId) (i : TypeInfo) (z : Value) (size bytes : Nat) (ht : P.underlying t = some (.slice e)) (hi : P.info? e = some i) (hz : i.zero = some z)
    (hsize : i.size = size) (hby : i.bytes = bytes) (hzs : z.cells.size = size) (hsz : 0 < size)
    (A : Option Addr) (n cap : Nat) (xs : List Value) (hs : a.eval s = .slice A n cap) (hown : Own w base e size A n cap xs)
    (S : Option Addr) (m c B : Nat) (news : List Value) (hx : a.eval x = .slice S m c) (hl : news.length = m * size) (hr : Reads w B S news) (h1 : ∀ u ∈ news, u.oneCell' = true)
    (h63 : n + m ≤ maxLen) (hbytes : (n + m) * bytes ≤ 140737488355328) (hbase : base ≤ w.heap.size)
    (h : ∀ A' cap' w', Own w' base e size A' (n + m) cap' (xs ++ news) → w.grownBy w' (rowOf A cap) → (A' = A ∧ cap' = cap ∨ A' = some ⟨w.heap.size, 0, none⟩) → wpList P ops Q rest (a.put o.dst (.slice A' (n + m) cap')) w') : wpList P ops Q (o :: rest) a w :=
  wpList_plain hgd fun _ hK => by
    obtain ⟨A', cap', w', hrun, h2, h3, h4⟩ := run_append_Own (P := P) w base t o.type e i z size bytes ht hi hz hsize hby hzs hsz A n cap xs hown S m c B news hl hr h1 h63 hbytes hbase
    unfold Oper.wp execOp
    simp only [ho, resolve, invoke, builtin, Sem.run_bind, Sem.run_pure, Result.andThen_ok, List.map_toArray, List.map_cons, List.map_nil, hs, hx, hrun]
    exact hK _ _ (h A' cap' w' h2 h3 h4)
end

theorem val_int {k : IntKind} {a b : Int} (h : a = b) : Value.int k a = .int k b := by rw [h]
theorem ret_int {k : IntKind} {a b : Int} (h : a = b) : Ending.returned (.int k a) = .returned (.int k b) := by rw [h]
theorem Reads.one_ (w : World) (t : TypeId) (v : Value) : Reads (w.alloc (.cells #[v] t)) (w.heap.size + 1) (some ⟨w.heap.size, 0, none⟩) [v] := fun _ =>
  ⟨_, rfl, by simp, fun j u hu => by
    cases j with
    | zero => simp only [List.getElem?_cons_zero, Option.some.injEq] at hu; subst hu; rw [show (⟨w.heap.size, 0, none⟩ : Addr).add 0 = ⟨w.heap.size, 0, none⟩ from rfl, cell_of_row _ _ _ _ _ _ (heap_alloc_new w _)]; rfl
    | succ j => simp at hu⟩
/-! Rows of bytes. -/
def byte (n : Nat) : Value := .int .u8 (n : Int)
theorem byte_one (l : List Nat) : ∀ u ∈ l.map byte, u.oneCell' = true := by
  intro u hu
  obtain ⟨_, _, rfl⟩ := List.mem_map.1 hu
  rfl
theorem Reads.byte_ {w : World} {B : Nat} {A : Option Addr} {l : List Nat} (h : Reads w B A (l.map byte)) {k : Nat} (hk : k < l.length) :
    ∃ ad, A = some ad ∧ ad.block < B ∧ w.cell? (ad.add k) = some (.int .u8 ((nth l k : Nat) : Int)) := by
  obtain ⟨ad, e, hb, hc⟩ := h.at_ (k := k) (by simpa using hk)
  exact ⟨ad, e, hb, by rw [hc, nth_getElem hk]; simp [byte]⟩

/-- What is known of a slice of integers that came in: it is nil, or it leads to 'cap' cells, the numbers 'zs' (the first 'len' are its elements), each fitting its kind. -/
def IsRow (k : IntKind) (w : World) (a : Option Addr) (len cap : Nat) (zs : List Int) : Prop :=
  (a = none ∧ len = 0 ∧ cap = 0 ∧ zs = []) ∨
  ∃ x, a = some x ∧ len ≤ cap ∧ cap ≤ maxLen ∧ zs.length = cap ∧ (∀ i, i < zs.length → w.cell? (x.add i) = some (.int k (zs.getD i 0))) ∧ ∀ n ∈ zs, (Lit.int k n).wf = true
theorem IsRow.len_ {k : IntKind} {w : World} {a : Option Addr} {len cap : Nat} {zs : List Int} (h : IsRow k w a len cap zs) : len ≤ cap ∧ cap ≤ 9223372036854775807 := by
  rcases h with ⟨_, rfl, rfl, _⟩ | ⟨x, _, hl, hm, _⟩
  · omega
  · unfold maxLen at hm; omega
theorem IsRow.bytes_ {w : World} {a : Option Addr} {len cap : Nat} {zs : List Int} (h : IsRow .u8 w a len cap zs) :
    ∃ l : List Nat, l.length = len ∧ Byt l ∧ Reads w w.heap.size a (l.map byte) := by
  rcases h with ⟨_, rfl, rfl, _⟩ | ⟨x, rfl, hl, hm, hz, hc, hw⟩
  · exact ⟨[], rfl, by simp [Byt], Reads.nil_⟩
  · have hb : ∀ n ∈ zs, 0 ≤ n ∧ n < 256 := fun n hn => by
      have := hw n hn
      have h2 : 0 ≤ n ∧ n ≤ 255 := by simpa [Lit.wf, IntKind.min, IntKind.max, IntKind.signed, IntKind.bits] using this
      omega
    refine ⟨(zs.take len).map Int.toNat, by simp; omega, fun y hy => ?_, fun hn => ⟨x, rfl, ?_, fun j u hu => ?_⟩⟩
    · obtain ⟨z, hz', rfl⟩ := List.mem_map.1 hy
      have := hb z (List.mem_of_mem_take hz')
      omega
    · have h0 := hc 0 (by simp at hn; omega)
      have := World.block_lt_of_cell? w _ h0
      rwa [add_block] at this
    · have hj : j < len := by
        have := (List.getElem?_eq_some_iff.1 hu).1
        simp at this; omega
      have h1 := hc j (by omega)
      have hj2 : j < zs.length := by omega
      simp only [List.getElem?_map, List.getElem?_take, hj, if_true, List.getElem?_eq_getElem hj2, Option.map_some, Option.some.injEq] at hu
      rw [h1, ← hu]
      have := hb zs[j] (List.getElem_mem hj2)
      simp [byte, hj2]
      omega

/-! A row of the call's own, cut, and made greater. -/
theorem map_add0 (A : Option Addr) : A.map (fun a => a.add 0) = A := by cases A <;> simp [Addr.add]
theorem map_add0' (A : Option Addr) : A.map (fun a => a.add (0 * 1)) = A := by cases A <;> simp [Addr.add]
section
variable {w w' : World} {base e size n cap : Nat} {A : Option Addr} {xs : List Value}
/-- What may be read of a row of the call's own, up to its capacity. -/
theorem Own.full (h : Own w base e size A n cap xs) : ∃ ys, Own w base e size A cap cap ys ∧ ys.take (n * size) = xs := by
  obtain ⟨h1, h2, h3, h4⟩ := h
  rcases h4 with h4 | ⟨g, cur, rfl, hb, hgg, hcs, htake⟩
  · subst h4
    have hn : n = 0 := by omega
    subst hn
    have hx : xs = [] := List.eq_nil_of_length_eq_zero (by simpa using h1)
    subst hx
    exact ⟨[], ⟨by simp, by omega, h3, .inl rfl⟩, by simp⟩
  · refine ⟨cur.toList.take (cap * size), ⟨by simp; omega, Nat.le_refl _, h3, .inr ⟨g, cur, rfl, hb, hgg, hcs, rfl⟩⟩, ?_⟩
    rw [List.take_take, Nat.min_eq_left (Nat.mul_le_mul_right _ h2), htake]
/-- Its first k elements; with less room. -/
theorem Own.take_ (h : Own w base e size A n cap xs) {k cap' : Nat} (hk : k ≤ n) (hc : k ≤ cap') (hc' : cap' ≤ cap) : Own w base e size A k cap' (xs.take (k * size)) := by
  obtain ⟨h1, h2, h3, h4⟩ := h
  have hkn : k * size ≤ n * size := Nat.mul_le_mul_right _ hk
  refine ⟨by rw [List.length_take, h1]; omega, hc, by omega, ?_⟩
  rcases h4 with h4 | ⟨g, cur, rfl, hb, hgg, hcs, htake⟩
  · exact .inl (by omega)
  · refine .inr ⟨g, cur, rfl, hb, hgg, Nat.le_trans (Nat.mul_le_mul_right _ hc') hcs, ?_⟩
    rw [← htake, List.take_take, Nat.min_eq_left hkn]
theorem Own.room_ (h : Own w base e size A n cap xs) {cap' : Nat} (hc : n ≤ cap') (hc' : cap' ≤ cap) : Own w base e size A n cap' xs := by
  have := h.take_ (k := n) (Nat.le_refl _) hc hc'
  rwa [List.take_of_length_le (by rw [h.1]; exact Nat.le_refl _)] at this
end
section
variable {P : Program} (w : World)
/-- append(s[:cap(s)], make([]T, m)...), m above 0. -/
theorem run_append_zeros (base : Nat) (t ti ty e : TypeId) (ik : IntKind) (i : TypeInfo) (z : Value) (size bytes : Nat) (ht : P.underlying t = some (.slice e)) (hu : P.underlying ti = some (.int ik)) (hi : P.info? e = some i) (hz : i.zero = some z)
    (hsize : i.size = size) (hby : i.bytes = bytes) (hzs : z.cells.size = size) (hsz : 0 < size)
    (A : Option Addr) (cap : Nat) (ys : List Value) (hown : Own w base e size A cap cap ys) (m : Nat) (hm : 0 < m)
    (h63 : cap + m ≤ maxLen) (hbytes : (cap + m) * bytes ≤ 140737488355328) (hbase : base ≤ w.heap.size) :
    ∃ cap' w' zs, (Builtin.append_ #[t, ti] ty #[.slice A cap cap, .int ik (m : Int)]).run P w = .ok (.slice (some ⟨w.heap.size, 0, none⟩) (cap + m) cap') w' ∧
      Own w' base e size (some ⟨w.heap.size, 0, none⟩) (cap + m) cap' (ys ++ zs) ∧ w.grownBy w' none := by
  subst hsize
  subst hby
  have hsmall : cap + m ≤ 9223372036854775807 := by simp only [maxLen] at h63; omega
  have hge := grownCap_ge w (cap + m) cap e
  have hcm : grownCap w (cap + m) cap e ≤ maxLen := grownCap_le_maxLen w (cap + m) cap e h63
  have hzl : (Builtin.zeroCells z.cells m).toList.length = m * i.size := by rw [Array.length_toList, size_zeroCells, hzs]
  have hms : m * i.size ≠ 0 := Nat.mul_ne_zero (by omega) (by omega)
  have hwr : IntKind.i64.wrap (m : Int) = m := by rw [IntKind.wrap_i64]; omega
  have hmb : (m : Int) * i.bytes ≤ 281474976710656 := by
    have h1 : m * i.bytes ≤ (cap + m) * i.bytes := Nat.mul_le_mul_right _ (by omega)
    have h2 : ((m * i.bytes : Nat) : Int) ≤ 281474976710656 := by omega
    rwa [Int.natCast_mul] at h2
  have hro : Reads w (w.heap.size) A ys := hown.reads
  have hfo := run_firstCells_opt (P := P) w.drew i.size cap A cap w.heap.size ys hown.1 hro hsz
  have hfit := growslice_fits (need := cap + m) (old := cap) (bytes := i.bytes) (by omega) hbytes
  have h48' : ¬ (281474976710656 < Builtin.nextslicecap (cap + m) cap * i.bytes) := by omega
  have h63' : ¬ (9223372036854775807 < ((cap : Int) + (m : Int))) := by omega
  have hn' : ¬ (cap + m ≤ cap) := by omega
  have hneg : ¬ ((m : Int) < 0) := by omega
  have hmb' : ¬ (281474976710656 < (m : Int) * i.bytes) := by omega
  refine ⟨grownCap w (cap + m) cap e, w.drew.alloc (.cells (ys.toArray ++ (Builtin.zeroCells z.cells m ++ Builtin.zeroCells z.cells (grownCap w (cap + m) cap e - (cap + m)))) e), (Builtin.zeroCells z.cells m).toList, ?_, ?_, ?_⟩
  · simp [Builtin.append_, run_underlying ht, run_underlying hu, sizeOf, typeInfo, zeroValue, hi, hz, asInt, asIntOf, hwr, hneg, hmb', hn', h63', h48', hms, Question.forced, hfo, newRow, grownCap]
  · refine ⟨by rw [List.length_append, hown.1, hzl, Nat.add_mul], hge, hcm, .inr ⟨w.heap.size, _, rfl, hbase, heap_alloc_new w.drew _, ?_, ?_⟩⟩
    · simp only [Array.size_append, List.size_toArray, size_zeroCells, hzs, hown.1, ← Nat.add_mul]
      exact Nat.mul_le_mul_right _ (by omega)
    · simp only [Array.toList_append]
      rw [← List.append_assoc, show (cap + m) * i.size = (ys ++ (Builtin.zeroCells z.cells m).toList).length by rw [List.length_append, hown.1, hzl, Nat.add_mul]]
      exact List.take_left
  · exact ⟨rfl, rfl, rfl, by simp, fun k hk _ => Below.heap_alloc w.drew _ k hk⟩
theorem wpList_append_zeros {w : World} {ops : Array Oper} {rest : List Oper} {o : Oper} {a : Act} {Q : Exit → Act → World → Prop} (hgd : o.guard = none) (s x : Operand) (t ti : TypeId)
    (ho : o.op = .call { callee := .builtin .append, args := #[s, x], argTypes := #[t, ti] })
    (base : Nat) (e : TypeId) (ik : IntKind) (i : TypeInfo) (z : Value) (size bytes : Nat) (ht : P.underlying t = some (.slice e)) (hu : P.underlying ti = some (.int ik)) (hi : P.info? e = some i) (hz : i.zero = some z)
    (hsize : i.size = size) (hby : i.bytes = bytes) (hzs : z.cells.size = size) (hsz : 0 < size)
    (A : Option Addr) (cap : Nat) (ys : List Value) (hs : a.eval s = .slice A cap cap) (hown : Own w base e size A cap cap ys) (m : Nat) (hm : 0 < m) (hx : a.eval x = .int ik (m : Int))
    (h63 : cap + m ≤ maxLen) (hbytes : (cap + m) * bytes ≤ 140737488355328) (hbase : base ≤ w.heap.size)
    (h : ∀ cap' w' zs, Own w' base e size (some ⟨w.heap.size, 0, none⟩) (cap + m) cap' (ys ++ zs) → w.grownBy w' none → wpList P ops Q rest (a.put o.dst (.slice (some ⟨w.heap.size, 0, none⟩) (cap + m) cap')) w') : wpList P ops Q (o :: rest) a w :=
  wpList_plain hgd fun _ hK => by
    obtain ⟨cap', w', zs, hrun, h2, h3⟩ := run_append_zeros (P := P) w base t ti o.type e ik i z size bytes ht hu hi hz hsize hby hzs hsz A cap ys hown m hm h63 hbytes hbase
    unfold Oper.wp execOp
    simp only [ho, resolve, invoke, builtin, Sem.run_bind, Sem.run_pure, Result.andThen_ok, List.map_toArray, List.map_cons, List.map_nil, hs, hx, hrun]
    exact hK _ _ (h cap' w' zs h2 h3)
end

/-! Bytes of a row of the call's own, read and written. -/
theorem Own.byte_at {w : World} {base e n cap : Nat} {A : Option Addr} {l : List Nat} (h : Own w base e 1 A n cap (l.map byte)) {k : Nat} (hk : k < l.length) :
    ∃ g, A = some ⟨g, 0, none⟩ ∧ base ≤ g ∧ g < w.heap.size ∧ w.cell? ⟨g, k, none⟩ = some (.int .u8 ((nth l k : Nat) : Int)) ∧ w.frozen? ⟨g, k, none⟩ = false := by
  obtain ⟨g, hA, _, hb, hlt, hc⟩ := h.cells_ (by simp; omega)
  refine ⟨g, hA, hb, hlt, ?_, h.frozen_ (by simp; omega) hA k⟩
  rw [hc k (by simpa using hk), nth_getElem hk]
  simp [byte, hk]
theorem Own.put_ {w : World} {base e n cap g : Nat} {l : List Nat} (h : Own w base e 1 (some ⟨g, 0, none⟩) n cap (l.map byte)) (k v : Nat) :
    Own (w.setCell ⟨g, k, none⟩ (.int .u8 (v : Int))) base e 1 (some ⟨g, 0, none⟩) n cap ((l.set k v).map byte) := by
  have := h.set_ k (byte v)
  rwa [List.map_set]
theorem grown_put {a w : World} {g : Nat} (h : a.grownBy w none) (hg : a.heap.size ≤ g) (k : Nat) (u : Value) : a.grownBy (w.setCell ⟨g, k, none⟩ u) none :=
  grown_new h (grownBy_setCell w g k u) (fun x hx => by cases hx; exact hg)
theorem byt_set {l : List Nat} (h : Byt l) {k v : Nat} (hv : v < 256) : Byt (l.set k v) := fun x hx => by
  rcases List.mem_or_eq_of_mem_set hx with h1 | h1
  · exact h x h1
  · rw [h1]; exact hv

/-- A new block of bytes. -/
theorem Own.new_ (w : World) (base e : Nat) (l : List Nat) (hb : base ≤ w.heap.size) (hm : l.length ≤ 9223372036854775807) : Own (w.alloc (.cells (l.map byte).toArray e)) base e 1 (some ⟨w.heap.size, 0, none⟩) l.length l.length (l.map byte) :=
  ⟨by simp, Nat.le_refl _, by unfold maxLen; omega, .inr ⟨w.heap.size, _, rfl, hb, heap_alloc_new w _, by simp, by simp [List.take_of_length_le]⟩⟩
theorem Reads.new_ (w : World) (e : TypeId) (l : List Nat) (hm : l.length ≤ 9223372036854775807) : Reads (w.alloc (.cells (l.map byte).toArray e)) (w.heap.size + 1) (some ⟨w.heap.size, 0, none⟩) (l.map byte) := by
  have := (Own.new_ w 0 e l (Nat.zero_le _) hm).reads
  simpa using this
theorem Reads.new2_ (w : World) (o : Obj) (e : TypeId) (l : List Nat) (hm : l.length ≤ 9223372036854775807) : Reads ((w.alloc o).alloc (.cells (l.map byte).toArray e)) (w.heap.size + 2) (some ⟨w.heap.size + 1, 0, none⟩) (l.map byte) := by
  have := Reads.new_ (w.alloc o) e l hm
  rwa [World.size_alloc] at this
theorem Reads.mark_ (w : World) (e : TypeId) (l : List Nat) (fr : Nat × Nat) : Reads (w.alloc (.cells (l.map byte).toArray e fr)) (w.heap.size + 1) (some ⟨w.heap.size, 0, none⟩) (l.map byte) := fun _ =>
  ⟨_, rfl, by simp, fun j u hu => by
    have : (⟨w.heap.size, 0, none⟩ : Addr).add j = ⟨w.heap.size, j, none⟩ := by unfold Addr.add; split <;> simp_all
    rw [this, cell_of_row _ _ _ _ _ _ (heap_alloc_new w _), List.getElem?_toArray, hu]⟩
theorem ownsRow_Own {w : World} {base e size n c : Nat} {A : Option Addr} {xs : List Value} (h : w.ownsRow base e size (.slice A n c) n xs) : Own w base e size A n c xs := by
  refine ⟨h.1, ?_⟩
  rcases h.2 with ⟨h2, rfl⟩ | ⟨g, cap, cur, h2, hb, hg, hnc, hcm, hcs, htake⟩
  · simp only [Value.slice.injEq] at h2
    obtain ⟨rfl, _, rfl⟩ := h2
    exact ⟨by omega, by unfold maxLen; omega, .inl rfl⟩
  · simp only [Value.slice.injEq] at h2
    obtain ⟨rfl, _, rfl⟩ := h2
    exact ⟨hnc, hcm, .inr ⟨g, cur, rfl, hb, hg, by omega, htake⟩⟩

/-- copy over all of a row of the call's own (of elements of one cell), from a row of as many. -/
theorem wpList_copy_Own {P : Program} {w : World} {ops : Array Oper} {rest : List Oper} {o : Oper} {a : Act} {Q : Exit → Act → World → Prop} (hgd : o.guard = none) (d s : Operand) (t : TypeId)
    (ho : o.op = .call { callee := .builtin .copy, args := #[d, s], argTypes := #[t, t] }) (e : TypeId) (hu : P.underlying t = some (.slice e)) (hsz : (P.info? e).map (·.size) = some 1)
    (base g n cap : Nat) (xs : List Value) (hd : a.eval d = .slice (some ⟨g, 0, none⟩) n cap) (hown : Own w base e 1 (some ⟨g, 0, none⟩) n cap xs) (hn : 0 < n)
    (S : Option Addr) (c B : Nat) (news : List Value) (hs : a.eval s = .slice S n c) (hl : news.length = n) (hr : Reads w B S news) (h1 : ∀ u ∈ news, u.oneCell' = true)
    (h : ∀ w', Own w' base e 1 (some ⟨g, 0, none⟩) n cap news → w.grownBy w' (some g) → wpList P ops Q rest (a.put o.dst (goInt n)) w') : wpList P ops Q (o :: rest) a w := by
  obtain ⟨ad, rfl, _, hc⟩ := hr (by omega)
  obtain ⟨e1, e2, e3, e4⟩ := hown
  rcases e4 with e4 | ⟨g', cur, hA, hb, hgg, hcs, htake⟩
  · omega
  · simp only [Option.some.injEq, Addr.mk.injEq, and_true] at hA
    subst hA
    refine wpList_copy_own hgd d s t t ho e hu hsz g 0 n cap ad n c hd hs cur e hgg news (by rw [hl]; exact (Nat.min_self n).symm) hc (by omega) h1 ?_
    rw [hl]
    refine h _ ⟨by omega, e2, e3, .inr ⟨g, _, rfl, hb, setRow_heap w g cur _ e _ hgg, ?_, ?_⟩⟩ ⟨rfl, rfl, rfl, by simp, fun k _ hk => setRow_other w g k _ (fun e => hk (by simp [e]))⟩
    · simp; omega
    · simp only [List.take_zero, List.nil_append, Nat.mul_one]
      rw [← hl]
      exact List.take_left
end Go.Proofs.Ytjnbfgogmhfbiaa
