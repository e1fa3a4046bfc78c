/- Two values of one flat type compared: they are equal just if their cells are. -/
import Derived.Test.YtjnbfgogmhfbiaaFlat
import Derived.DeepKeys
namespace Go.Proofs.Ytjnbfgogmhfbiaa
open Go Go.ChangeShapes Go.WideShapes Go.RowKit
def litOf : Value → Lit
  | .int k n => .int k n
  | .bool b => .bool b
  | .string s => .string s.data.toList
  | _ => .bool false
theorem OkAll.split : ∀ {ls ms : List Lf} {cs : List Value}, OkAll (ls ++ ms) cs → OkAll ls (cs.take ls.length) ∧ OkAll ms (cs.drop ls.length)
  | [], _, cs, h => ⟨rfl, by simpa using h⟩
  | l :: ls, ms, cs, ⟨v, r, e, h1, h2⟩ => by
    subst e
    obtain ⟨h3, h4⟩ := OkAll.split h2
    exact ⟨⟨v, r.take ls.length, by simp, h1, h3⟩, by simpa using h4⟩
theorem lits_inj : ∀ {ls : List Lf} {xs ys : List Value}, OkAll ls xs → OkAll ls ys → xs.map litOf = ys.map litOf → xs = ys
  | [], _, _, h, k, _ => by cases h; cases k; rfl
  | l :: ls, _, _, ⟨v, r, e, h1, h2⟩, ⟨u, q, e', k1, k2⟩, he => by
    subst e
    subst e'
    simp only [List.map_cons, List.cons.injEq] at he
    have hr := lits_inj h2 k2 he.2
    have hv : v = u := by
      cases l with
      | int k =>
        obtain ⟨n, rfl, _⟩ := h1
        obtain ⟨m, rfl, _⟩ := k1
        have := he.1
        simp only [litOf, Lit.int.injEq, true_and] at this
        rw [this]
      | bool =>
        obtain ⟨n, rfl⟩ := h1
        obtain ⟨m, rfl⟩ := k1
        have := he.1
        simp only [litOf, Lit.bool.injEq] at this
        rw [this]
      | str =>
        obtain ⟨n, rfl, _⟩ := h1
        obtain ⟨m, rfl, _⟩ := k1
        have := he.1
        simp only [litOf, Lit.string.injEq] at this
        have h5 : n = m := by
          cases n; cases m
          congr
          exact Array.ext' this
        rw [h5]
    rw [hv, hr]
section
variable {P : Program}
theorem key_fields (d : Nat) (sub : TypeId → Option (List Lf)) (total : Nat) (cs : List Value) (hl : cs.length = total)
    (hsub : ∀ t ls cs', sub t = some ls → P.keyTypeAt d t = true → OkAll ls cs' → P.keyLits d t cs' = some (cs'.map litOf)) :
    ∀ (r : List Field) (off : Nat) (ls : List Lf), fieldsOf P sub total off r = some ls → (∀ f ∈ r, P.keyTypeAt d f.type = true) → OkAll ls (cs.drop off) →
      ∃ as, r.mapM (fun f => P.keyLits d f.type ((cs.drop f.offset).take (P.cellsOf f.type))) = some as ∧ as.flatten = (cs.drop off).map litOf
  | [], off, ls, h, _, hok => by
    unfold fieldsOf at h
    split at h
    · cases h
      have : cs.drop off = [] := hok
      exact ⟨[], rfl, by rw [this]; rfl⟩
    · cases h
  | f :: r, off, ls, h, hk, hok => by
    unfold fieldsOf at h
    split at h
    · rename_i e
      obtain ⟨l1, hs, h⟩ := Option.bind_eq_some_iff.1 h
      split at h
      · rename_i e2
        obtain ⟨l2, h2, rfl⟩ := Option.map_eq_some_iff.1 h
        obtain ⟨o1, o2⟩ := hok.split
        rw [List.drop_drop] at o2
        obtain ⟨as, ha, hf⟩ := key_fields d sub total cs hl hsub r (off + l1.length) l2 h2 (fun g hg => hk g (List.mem_cons_of_mem _ hg)) o2
        have h1 := hsub _ _ _ hs (hk f (by simp)) o1
        refine ⟨((cs.drop off).take l1.length).map litOf :: as, ?_, ?_⟩
        · rw [List.mapM_cons, e, ← e2, h1, ha]
          rfl
        · rw [List.flatten_cons, hf, ← List.map_append, ← List.drop_drop, List.take_append_drop]
      · cases h
    · cases h
theorem key_arr (d : Nat) (e : TypeId) (ls : List Lf) (hls : ls.length = P.cellsOf e) (cs : List Value)
    (hsub : ∀ cs', OkAll ls cs' → P.keyLits d e cs' = some (cs'.map litOf)) :
    ∀ (m k : Nat), OkAll (arrOf ls m) (cs.drop (k * P.cellsOf e)) →
      ∃ as, (List.range' k m).mapM (fun i => P.keyLits d e ((cs.drop (i * P.cellsOf e)).take (P.cellsOf e))) = some as ∧ as.flatten = (cs.drop (k * P.cellsOf e)).map litOf
  | 0, k, hok => by
    have : cs.drop (k * P.cellsOf e) = [] := hok
    exact ⟨[], rfl, by rw [this]; rfl⟩
  | m + 1, k, hok => by
    obtain ⟨o1, o2⟩ := OkAll.split (ls := ls) (ms := arrOf ls m) hok
    rw [List.drop_drop, hls, show k * P.cellsOf e + P.cellsOf e = (k + 1) * P.cellsOf e by rw [Nat.succ_mul]] at o2
    rw [hls] at o1
    obtain ⟨as, ha, hf⟩ := key_arr d e ls hls cs hsub m (k + 1) o2
    refine ⟨((cs.drop (k * P.cellsOf e)).take (P.cellsOf e)).map litOf :: as, ?_, ?_⟩
    · rw [List.range'_succ, List.mapM_cons, hsub _ o1, ha]
      rfl
    · rw [List.flatten_cons, hf, ← List.map_append, show (k + 1) * P.cellsOf e = k * P.cellsOf e + P.cellsOf e by rw [Nat.succ_mul], ← List.drop_drop, List.take_append_drop]
theorem fieldsOf_len (sub : TypeId → Option (List Lf)) (total : Nat) : ∀ (r : List Field) (off : Nat) (ls : List Lf), fieldsOf P sub total off r = some ls → off + ls.length = total
  | [], off, ls, h => by
    unfold fieldsOf at h
    split at h
    · cases h; simpa
    · cases h
  | f :: r, off, ls, h => by
    unfold fieldsOf at h
    split at h
    · obtain ⟨l1, hs, h⟩ := Option.bind_eq_some_iff.1 h
      split at h
      · obtain ⟨l2, h2, rfl⟩ := Option.map_eq_some_iff.1 h
        have := fieldsOf_len sub total r _ _ h2
        rw [List.length_append]
        omega
      · cases h
    · cases h
theorem arrOf_len (ls : List Lf) : ∀ m, (arrOf ls m).length = m * ls.length
  | 0 => by simp [arrOf]
  | m + 1 => by rw [arrOf, List.length_append, arrOf_len ls m, Nat.succ_mul]; omega
theorem flat_key : ∀ (n : Nat) (t : TypeId) (ls : List Lf) (cs : List Value), leaves P n t = some ls → P.keyTypeAt n t = true → OkAll ls cs → P.keyLits n t cs = some (cs.map litOf)
  | 0, _, _, _, h, _, _ => by cases h
  | n + 1, t, ls, cs, h, hk, hok => by
    unfold leaves at h
    unfold Program.keyTypeAt at hk
    unfold Program.keyLits
    split at h
    · rename_i k ht
      cases h
      obtain ⟨v, r, rfl, ⟨m, rfl, hw⟩, hr⟩ := hok
      cases hr
      simp [ht, hw, litOf]
    · rename_i ht
      cases h
      obtain ⟨v, r, rfl, ⟨m, rfl⟩, hr⟩ := hok
      cases hr
      simp [ht, litOf]
    · rename_i ht
      cases h
      obtain ⟨v, r, rfl, ⟨m, rfl, hw⟩, hr⟩ := hok
      cases hr
      simp [ht, hw, litOf]
    · rename_i fs ht
      simp only [ht, Bool.and_eq_true] at hk
      have hall : ∀ f ∈ fs.toList, f.name ≠ "_" ∧ P.keyTypeAt n f.type = true := fun f hf => by
        have := Array.all_eq_true_iff_forall_mem.1 hk.1.1 f (Array.mem_toList_iff.1 hf)
        simpa only [Bool.and_eq_true, bne_iff_ne, ne_eq] using this
      have hl : cs.length = P.cellsOf t := by
        have := fieldsOf_len (P := P) _ _ _ _ _ h
        rw [hok.len]
        omega
      obtain ⟨as, ha, hf⟩ := key_fields (P := P) n (leaves P n) (P.cellsOf t) cs hl (fun t' ls' cs' h1 h2 h3 => flat_key n t' ls' cs' h1 h2 h3) fs.toList 0 ls h (fun f hf => (hall f hf).2) (by simpa using hok)
      have hn : fs.all (fun f => f.name != "_") = true := Array.all_eq_true_iff_forall_mem.2 (fun f hf => by
        have := (hall f (Array.mem_toList_iff.2 hf)).1
        simpa using this)
      simp only [ht]
      rw [if_pos ⟨hl, hn⟩, ha]
      simp only [Option.map_some, hf, List.drop_zero]
    · rename_i m e ht
      simp only [ht] at hk
      obtain ⟨l1, hs, h⟩ := Option.bind_eq_some_iff.1 h
      split at h
      · rename_i e2
        cases h
        have hl : cs.length = P.cellsOf t := by rw [hok.len, arrOf_len]; exact e2.2
        obtain ⟨as, ha, hf⟩ := key_arr (P := P) n e l1 e2.1 cs (fun cs' h3 => flat_key n e l1 cs' hs hk h3) m 0 (by simpa using hok)
        simp only [ht]
        rw [if_pos hl, List.range_eq_range', ha]
        simp only [Option.map_some, hf, Nat.zero_mul, List.drop_zero]
      · cases h
    · cases h
/-- Are the cells the same? -/
def cellEq : Value → Value → Bool
  | .int _ n, .int _ m => decide (n = m)
  | .bool a, .bool b => decide (a = b)
  | .string a, .string b => decide (a.data.toList = b.data.toList)
  | _, _ => false
def eqV : List Value → List Value → Bool
  | [], [] => true
  | x :: r, y :: q => cellEq x y && eqV r q
  | _, _ => false
theorem eqV_iff : ∀ {ls : List Lf} {xs ys : List Value}, OkAll ls xs → OkAll ls ys → (eqV xs ys = true ↔ xs = ys)
  | [], _, _, h, k => by cases h; cases k; simp [eqV]
  | l :: ls, _, _, ⟨v, r, e, h1, h2⟩, ⟨u, q, e', k1, k2⟩ => by
    subst e
    subst e'
    have hr := eqV_iff h2 k2
    have hv : cellEq v u = true ↔ v = u := by
      cases l with
      | int k =>
        obtain ⟨n, rfl, _⟩ := h1
        obtain ⟨m, rfl, _⟩ := k1
        simp [cellEq]
      | bool =>
        obtain ⟨n, rfl⟩ := h1
        obtain ⟨m, rfl⟩ := k1
        simp [cellEq]
      | str =>
        obtain ⟨n, rfl, _⟩ := h1
        obtain ⟨m, rfl, _⟩ := k1
        simp only [cellEq, decide_eq_true_eq, Value.string.injEq]
        exact ⟨fun h => by cases n; cases m; congr; exact Array.ext' h, fun h => by rw [h]⟩
    simp only [eqV, Bool.and_eq_true, hv, hr, List.cons.injEq]
theorem eqV_self {ls : List Lf} {xs : List Value} (h : OkAll ls xs) : eqV xs xs = true := (eqV_iff h h).2 rfl
/-- Two structs of one flat type: '=='. -/
theorem flat_equal {t : TypeId} {fs : Array Field} {n : Nat} {ls : List Lf} (ht : P.underlying t = some (.struct fs)) (hls : leaves P n t = some ls) (hk : P.keyTypeAt n t = true) (hn : n ≤ 10000) (hc : P.cellsOf t = ls.length)
    {xs ys : Array Value} (hx : OkAll ls xs.toList) (hy : OkAll ls ys.toList) (w : World) : (Op.equal t (.agg xs) (.agg ys)).run P w = .ok (eqV xs.toList ys.toList) w := by
  have kx := flat_key n t ls _ hls hk hx
  have ky := flat_key n t ls _ hls hk hy
  have fx : (Value.agg xs).formed P t = true := by
    have := hx.len
    rw [Array.length_toList] at this
    simp [Value.formed, ht, hc, this]
  have fy : (Value.agg ys).formed P t = true := by
    have := hy.len
    rw [Array.length_toList] at this
    simp [Value.formed, ht, hc, this]
  obtain ⟨r, hr, hiff⟩ := run_equalIn_deep (P := P) (10000 - n) n t hk w n n (.agg xs) (.agg ys) _ _ fx fy kx ky
  rw [show 10000 - n + n = 10000 by omega] at hr
  have : r = eqV xs.toList ys.toList := by
    rw [Bool.eq_iff_iff, hiff, eqV_iff hx hy]
    exact ⟨fun h => lits_inj hx hy h, fun h => by rw [h]⟩
  rw [← this]
  exact hr
end
end Go.Proofs.Ytjnbfgogmhfbiaa
