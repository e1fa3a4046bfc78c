/- May: plain. -/
import Derived.Test.YtjnbfgogmhfbiaaTi
import Derived.Maps.OwnSet
import Derived.Maps.OwnOps
namespace Go.Proofs.Ytjnbfgogmhfbiaa
open Go Go.RowKit Go.Maps
def lastZ : List Value := zeroNode.set 1 (.int .i64 (-1))
theorem lastZ_ok : OkAll nodeLs lastZ := okB_ok _ _ (by decide +kernel)
/-- The node ahead of place k. -/
def lastN (L : List (List Value)) (k : Nat) : List Value := match k with
  | 0 => lastZ
  | k + 1 => nd L k
def cntK (L : List (List Value)) (k : Nat) (key : Int) : Nat := (L.take k).countP (fun y => keyN y == key)
theorem cntK_succ (L : List (List Value)) (k : Nat) (key : Int) (hk : k < L.length) : cntK L (k + 1) key = cntK L k key + (if keyN (nd L k) = key then 1 else 0) := by
  unfold cntK
  rw [List.take_add_one, nd_get hk, List.countP_append]
  simp
theorem cntK_le (L : List (List Value)) (k : Nat) (key : Int) : cntK L k key ≤ k := Nat.le_trans List.countP_le_length (List.length_take_le _ _)
theorem cntK_pos (L : List (List Value)) (k : Nat) (key : Int) (hk : k ≤ L.length) : 0 < cntK L k key ↔ ∃ j, j < k ∧ keyN (nd L j) = key := by
  unfold cntK
  rw [List.countP_pos_iff]
  constructor
  · rintro ⟨y, hy, he⟩
    obtain ⟨j, hj⟩ := List.getElem?_of_mem hy
    rw [List.getElem?_take] at hj
    split at hj
    · rename_i h
      exact ⟨j, h, by rw [nd_some hj]; simpa using he⟩
    · cases hj
  · rintro ⟨j, hj, he⟩
    refine ⟨nd L j, List.mem_of_getElem? (i := j) ?_, by simpa using he⟩
    rw [List.getElem?_take, if_pos hj, nd_get (by omega)]
/-- A map tells how often each key has stood. -/
def Met (L : List (List Value)) (k : Nat) (D : DataW Unit) : Prop := ∀ key : Int, D.atKey (.int .i64 key) (.lit (.int .i64 0)) = .lit (.int .i64 (cntK L k key : Int))
theorem met_zero (L : List (List Value)) : Met L 0 (.map []) := fun key => by simp [DataW.atKey, cntK]
theorem met_succ {L : List (List Value)} {k : Nat} {D : DataW Unit} (h : Met L k D) (hD : IsMap D) (hk : k < L.length) : Met L (k + 1) (D.put (.int .i64 (keyN (nd L k))) (.lit (.int .i64 ((cntK L k (keyN (nd L k)) : Int) + 1)))) := fun key => by
  rw [cntK_succ L k key hk]
  by_cases e : keyN (nd L k) = key
  · subst e
    rw [atKey_put_same hD (by trivial), if_pos rfl]
    rfl
  · rw [atKey_put_other (by simp; exact fun h => e h.symm), if_neg e, h key]
    rfl
/-- What the walk asks of a node. -/
def Goes (L : List (List Value)) (nx : Int) (k : Nat) : Prop :=
  Fits (nd L k) nx ∧ cntK L k (keyN (nd L k)) = 0 ∧ depN (nd L k) ≤ depN (lastN L k) + 1 ∧ ¬ (depN (lastN L k) < depN (nd L k) ∧ kindN (lastN L k) = 1) ∧ (depN (nd L k) = 0 ↔ depN (lastN L k) < 0)
theorem dep_lastZ : depN lastZ = -1 := by rfl
theorem kind_lastZ : kindN lastZ = 0 := by rfl
theorem goes_iff {L : List (List Value)} {nx : Int} {k : Nat} (hk : k < L.length) (hg : ∀ i, i < k → Good L nx i) : Goes L nx k ↔ Good L nx k := by
  have hc : cntK L k (keyN (nd L k)) = 0 ↔ ∀ j, j < k → keyN (nd L j) ≠ keyN (nd L k) := by
    have := cntK_pos L k (keyN (nd L k)) (by omega)
    constructor
    · intro h j hj he
      have := this.2 ⟨j, hj, he⟩
      omega
    · intro h
      rcases Nat.eq_zero_or_pos (cntK L k (keyN (nd L k))) with h0 | h0
      · exact h0
      · obtain ⟨j, hj, he⟩ := this.1 h0
        exact absurd he (h j hj)
  unfold Goes Good
  rw [hc]
  cases k with
  | zero =>
    show _ ∧ _ ∧ depN (nd L 0) ≤ depN lastZ + 1 ∧ ¬ (depN lastZ < depN (nd L 0) ∧ kindN lastZ = 1) ∧ (depN (nd L 0) = 0 ↔ depN lastZ < 0) ↔ _
    rw [dep_lastZ, kind_lastZ]
    constructor
    · rintro ⟨h1, h2, h3, h4, h5⟩
      exact ⟨h1, h2, fun _ => by omega, fun h => by omega⟩
    · rintro ⟨h1, h2, h3, h4⟩
      have := h3 rfl
      exact ⟨h1, h2, by omega, by omega, by omega⟩
  | succ j =>
    show _ ∧ _ ∧ depN (nd L (j + 1)) ≤ depN (nd L j) + 1 ∧ ¬ (depN (nd L j) < depN (nd L (j + 1)) ∧ kindN (nd L j) = 1) ∧ (depN (nd L (j + 1)) = 0 ↔ depN (nd L j) < 0) ↔ _
    have g := (hg j (by omega)).1
    have g0 := g.2.2.1
    rw [show j + 1 - 1 = j from rfl]
    constructor
    · rintro ⟨h1, h2, h3, h4, h5⟩
      have f0 := h1.2.2.1
      exact ⟨h1, h2, fun h => by omega, fun _ => ⟨by omega, h3, fun h6 h7 => h4 ⟨h6, h7⟩⟩⟩
    · rintro ⟨h1, h2, h3, h4⟩
      obtain ⟨h5, h6, h7⟩ := h4 (by omega)
      exact ⟨h1, h2, h6, fun h => h7 h.1 h.2, by omega⟩
theorem total_take (L : List (List Value)) (k : Nat) (hk : k < L.length) : total (L.take (k + 1)) = total (L.take k) + lenN (nd L k) := by
  rw [List.take_add_one, nd_get hk, total_append]
  simp [total]
theorem lastN_ok {L : List (List Value)} (h : ∀ y ∈ L, OkAll nodeLs y) (k : Nat) (hk : k ≤ L.length) : OkAll nodeLs (lastN L k) := by
  cases k with
  | zero => exact lastZ_ok
  | succ j => exact h _ (List.mem_of_getElem? (nd_get (by omega)))
theorem zeroI (w : World) : (zeroValue 3).run Try.prog w = .ok (.int .i64 0) w := by kernel_rfl
theorem lawI : Keyed Try.prog 3 := int_keyed Try.underlying3
section
variable {P : Program} {ops : Array Oper} {rest : List Oper} {o : Oper} {a : Act} {w : World} {Q : Exit → Act → World → Prop}
/-- A look-up whose run is known. -/
theorem wpList_lookup_w {m x : Operand} {t : TypeId} (hw : Region.wanted o (yielded ops a.tmps) = true) (ho : o.op = .lookup t m x false) {b : Option Nat} {key v : Value} (hm : a.eval m = .map b) (hx : a.eval x = key)
    (hr : (Instr.lookup t (.map b) key false).run P w = .ok v w) (h : wpList P ops Q rest (a.put o.dst v) w) : wpList P ops Q (o :: rest) a w :=
  wpList_value_w hw (by unfold execOp; simp only [ho, hm, hx, Sem.run_bind, hr, Result.andThen_ok, Sem.run_pure]) h
end
end Go.Proofs.Ytjnbfgogmhfbiaa
