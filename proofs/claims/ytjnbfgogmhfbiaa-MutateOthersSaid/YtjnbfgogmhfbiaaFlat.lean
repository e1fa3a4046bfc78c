/- A value of a type that is made of numbers, truths, texts, structs and arrays alone, opened to its cells. -/
import Derived.WalkKit
import Derived.ProofKit
import Derived.OpenShut
import Derived.ShutString
import Derived.ChangeOld
import Derived.Below
namespace Go.Proofs.Ytjnbfgogmhfbiaa
open Go Go.ChangeShapes Go.WideShapes Go.RowKit
/-- What one cell may be. -/
inductive Lf where
  | int (k : IntKind)
  | bool
  | str
def Lf.ok : Lf → Value → Prop
  | .int k, v => ∃ n, v = .int k n ∧ (Lit.int k n).wf = true
  | .bool, v => ∃ b, v = .bool b
  | .str, v => ∃ s : ByteArray, v = .string s ∧ s.size ≤ maxLen
def OkAll : List Lf → List Value → Prop
  | [], cs => cs = []
  | l :: ls, cs => ∃ v r, cs = v :: r ∧ l.ok v ∧ OkAll ls r
def fieldsOf (P : Program) (sub : TypeId → Option (List Lf)) (total : Nat) : Nat → List Field → Option (List Lf)
  | off, [] => if off = total then some [] else none
  | off, f :: r => if f.offset = off then (sub f.type).bind fun ls => if ls.length = P.cellsOf f.type then (fieldsOf P sub total (off + ls.length) r).map (ls ++ ·) else none else none
def arrOf (ls : List Lf) : Nat → List Lf
  | 0 => []
  | n + 1 => ls ++ arrOf ls n
/-- The cells of a type, one by one, where it is flat. -/
def leaves (P : Program) : Nat → TypeId → Option (List Lf)
  | 0, _ => none
  | n + 1, t => match P.underlying t with
    | some (.int k) => some [.int k]
    | some .bool => some [.bool]
    | some .string => some [.str]
    | some (.struct fs) => fieldsOf P (leaves P n) (P.cellsOf t) 0 fs.toList
    | some (.array m e) => (leaves P n e).bind fun ls => if ls.length = P.cellsOf e ∧ m * ls.length = P.cellsOf t then some (arrOf ls m) else none
    | _ => none
theorem OkAll.len : ∀ {ls : List Lf} {cs : List Value}, OkAll ls cs → cs.length = ls.length
  | [], _, h => by cases h; rfl
  | _ :: _, _, ⟨_, _, e, _, h⟩ => by subst e; simp [OkAll.len h]
theorem OkAll.append : ∀ {ls ms : List Lf} {cs ds : List Value}, OkAll ls cs → OkAll ms ds → OkAll (ls ++ ms) (cs ++ ds)
  | [], _, _, _, h, k => by cases h; exact k
  | _ :: _, _, _, _, ⟨v, r, e, h1, h2⟩, k => by subst e; exact ⟨v, _, rfl, h1, OkAll.append h2 k⟩
section
variable {H : Type} {enc : TypeId × Value → H} {P : Program} {w : World} {base : Nat} {spare : Nat → Bool} {held : Bool}
theorem flat_fields (sub : TypeId → Option (List Lf)) (total fuel : Nat) (cs : List Value) (hl : cs.length = total) (xs : List (DataW H × List MemPlace))
    (hsub : ∀ t ls cs' x, sub t = some ls → DataW.trod enc P w base spare held fuel t cs' = some x → OkAll ls cs') :
    ∀ (r : List Field) (off _j : Nat) (ls : List Lf), fieldsOf P sub total off r = some ls → off ≤ total →
      (∀ (i : Nat) (f : Field), r[i]? = some f → ∃ x, DataW.trod enc P w base spare held fuel f.type ((cs.drop f.offset).take (P.cellsOf f.type)) = some x) → OkAll ls (cs.drop off)
  | [], off, _, ls, h, ho, _ => by
    unfold fieldsOf at h
    split at h
    · cases h
      rename_i e
      rw [List.drop_eq_nil_of_le (by omega)]
      rfl
    · cases h
  | f :: r, off, j, ls, h, ho, hf => by
    unfold fieldsOf at h
    split at h
    · rename_i e
      obtain ⟨l1, hs, h⟩ := Option.bind_eq_some_iff.1 h
      split at h
      · rename_i e2
        obtain ⟨l2, h2, rfl⟩ := Option.map_eq_some_iff.1 h
        obtain ⟨x, hx⟩ := hf 0 f rfl
        have h1 := hsub _ _ _ _ hs hx
        have hlen := h1.len
        rw [e, List.length_take, List.length_drop, ← e2] at hlen
        have h3 := flat_fields sub total fuel cs hl xs hsub r (off + l1.length) 0 l2 h2 (by omega) (fun i g hg => hf (i + 1) g (by simpa using hg))
        rw [e, ← e2] at h1
        have := h1.append h3
        rwa [← List.drop_drop, List.take_append_drop] at this
      · cases h
    · cases h
theorem flat_arr (e : TypeId) (ls : List Lf) (fuel n : Nat) (hls : ls.length = P.cellsOf e) (hsub : ∀ cs' x, DataW.trod enc P w base spare held fuel e cs' = some x → OkAll ls cs') :
    ∀ (m : Nat) (cs : List Value), cs.length = m * ls.length → (∀ i, i < m → ∃ x, DataW.trod enc P w base spare held fuel e ((cs.drop (i * P.cellsOf e)).take (P.cellsOf e)) = some x) → OkAll (arrOf ls m) cs
  | 0, cs, hl, _ => by
    have : cs = [] := List.eq_nil_of_length_eq_zero (by simpa using hl)
    subst this
    rfl
  | m + 1, cs, hl, h => by
    obtain ⟨x, hx⟩ := h 0 (by omega)
    have h1 := hsub _ _ hx
    rw [Nat.zero_mul, List.drop_zero, ← hls] at h1
    have h2 := flat_arr e ls fuel n hls hsub m (cs.drop ls.length) (by rw [List.length_drop, hl, Nat.succ_mul]; omega) (fun i hi => by
      obtain ⟨y, hy⟩ := h (i + 1) (by omega)
      refine ⟨y, ?_⟩
      rw [List.drop_drop, hls]
      rwa [Nat.succ_mul, Nat.add_comm] at hy)
    have := h1.append h2
    rwa [List.take_append_drop] at this
theorem flat_trod : ∀ (n : Nat) (t : TypeId) (ls : List Lf) (fuel : Nat) (cs : List Value) (x : DataW H × List MemPlace), leaves P n t = some ls → DataW.trod enc P w base spare held fuel t cs = some x → OkAll ls cs
  | 0, _, _, _, _, _, h, _ => by cases h
  | n + 1, t, ls, fuel, cs, x, h, hx => by
    unfold leaves at h
    split at h
    · rename_i k ht
      cases h
      obtain ⟨v, rfl, _, hw⟩ := DataW.trod_int ht hx
      exact ⟨_, _, rfl, ⟨v, rfl, hw⟩, rfl⟩
    · rename_i ht
      cases h
      obtain ⟨v, rfl, _⟩ := DataW.trod_bool ht hx
      exact ⟨_, _, rfl, ⟨v, rfl⟩, rfl⟩
    · rename_i ht
      cases h
      obtain ⟨v, rfl, _, hw⟩ := DataW.trod_string ht hx
      exact ⟨_, _, rfl, ⟨v, rfl, hw⟩, rfl⟩
    · rename_i fs ht
      obtain ⟨xs, m, rfl, _, hl, hxl, hf⟩ := DataW.trod_struct ht hx
      have := flat_fields (enc := enc) (w := w) (base := base) (spare := spare) (held := held) (leaves P n) (P.cellsOf t) m cs hl xs (fun t' ls' cs' x' h1 h2 => flat_trod n t' ls' m cs' x' h1 h2) fs.toList 0 0 ls h (Nat.zero_le _)
        (fun i f hi => by
          have hi' : fs[i]? = some f := by simpa using hi
          have hlt : i < xs.length := by rw [hxl]; exact (Array.getElem?_eq_some_iff.1 hi').1
          exact ⟨_, (hf i f hi').trans (List.getElem?_eq_getElem hlt)⟩)
      rwa [List.drop_zero] at this
    · rename_i m e ht
      obtain ⟨l1, hs, h⟩ := Option.bind_eq_some_iff.1 h
      split at h
      · rename_i e2
        cases h
        obtain ⟨xs, k, rfl, _, hl, hxl, hf⟩ := DataW.trod_array ht hx
        exact flat_arr (enc := enc) (w := w) (base := base) (spare := spare) (held := held) e l1 k n e2.1 (fun cs' x' h2 => flat_trod n e l1 k cs' x' hs h2) m cs (by rw [hl, e2.2])
          (fun i hi => ⟨_, (hf i hi).trans (List.getElem?_eq_getElem (by omega))⟩)
      · cases h
    · cases h
/-- A flat struct as an argument. -/
theorem open_flat {r : Reach} {b0 : Nat} {t : TypeId} {fs : Array Field} {v : Value} {d : DataW H} {p : List MemPlace} {n : Nat} {ls : List Lf} (ht : P.underlying t = some (.struct fs)) (hls : leaves P n t = some ls)
    (hv : Value.okWide P w r b0 t v) (h : DataW.Trod enc P w base spare held t v d p) : ∃ cs : List Value, v = .agg ⟨cs⟩ ∧ OkAll ls cs := by
  obtain ⟨cs, rfl, hsz⟩ := okWide_struct ht hv
  obtain ⟨fuel, hf⟩ := h
  exact ⟨cs.toList, rfl, flat_trod n t ls fuel _ _ hls hf⟩
end
end Go.Proofs.Ytjnbfgogmhfbiaa
