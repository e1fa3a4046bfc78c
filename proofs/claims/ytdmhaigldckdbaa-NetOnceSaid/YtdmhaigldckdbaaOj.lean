/- NetOnce: what was told of a net stays while its calls run; the plain laws. -/
import Derived.Test.YtdmhaigldckdbaaNq
import Derived.Test.YtdmhaigldckdbaaOa
namespace Go.Proofs.Ytdmhaigldckdbaa
open Go Go.RowKit
/-- A net made since 'w0' with these flights; what was laid in 'H' from block 'M' on lies as it lay. -/
def AtH (w0 : World) (g : Nat) (its : List (Int × List Nat)) (M : Nat) (H w : World) : Prop :=
  w0.grownBy w none ∧ w0.heap.size ≤ M ∧ H.heap.size ≤ w.heap.size ∧ ∃ fl, fl.map Flt.it = its ∧ NetIs w w0.heap.size g fl ∧ ∀ b, M ≤ b → b < H.heap.size → w.heap[b]? = H.heap[b]? ∧ ¬ Foot w g fl b
section
variable {w0 w w' H wr : World} {g M : Nat} {its : List (Int × List Nat)}
theorem AtH.grown0 (h : AtH w0 g its M H w) (hg : w.grownBy w' none) : AtH w0 g its M H w' := by
  obtain ⟨h1, h2, h3, fl, h4, h5, h6⟩ := h
  refine ⟨grown_trans h1 hg, h2, Nat.le_trans h3 hg.size, fl, h4, h5.grown0 hg, fun b hb hl => ?_⟩
  obtain ⟨a1, a2⟩ := h6 b hb hl
  exact ⟨(hg.block b (by omega) (by simp)).trans a1, fun hf => a2 (h5.foot0 hg b hf)⟩
theorem AtH.start (h : At w0 g its wr) (hg : wr.grownBy H none) : AtH w0 g its wr.heap.size H H := by
  obtain ⟨h1, fl, h4, h5⟩ := h
  refine ⟨grown_trans h1 hg, h1.size, Nat.le_refl _, fl, h4, h5.grown0 hg, fun b hb hl => ⟨rfl, fun hf => ?_⟩⟩
  have := (h5.foot_ge b (h5.foot0 hg b hf)).2
  omega
theorem AtH.toAt (h : AtH w0 g its M H w) : At w0 g its w := by
  obtain ⟨h1, h2, h3, fl, h4, h5, h6⟩ := h
  exact ⟨h1, fl, h4, h5⟩
theorem AtH.step {fl fl' : List Flt} (h1 : w0.grownBy w none) (h2 : w0.heap.size ≤ M) (h3 : H.heap.size ≤ w.heap.size) (hn : NetIs w w0.heap.size g fl) (h6 : ∀ b, M ≤ b → b < H.heap.size → w.heap[b]? = H.heap[b]? ∧ ¬ Foot w g fl b) (s : Step w w' w0.heap.size g fl fl') : AtH w0 g (fl'.map Flt.it) M H w' := by
  refine ⟨(At.step h1 hn s).1, h2, Nat.le_trans h3 s.2.1.2.2.2.1, fl', rfl, s.1, fun b hb hl => ?_⟩
  obtain ⟨a1, a2⟩ := h6 b hb hl
  refine ⟨(s.2.1.2.2.2.2 b (by omega) a2).trans a1, fun hf => ?_⟩
  rcases s.2.2 b hf with h | h
  · exact a2 h
  · omega
theorem AtH.own {B e size n cap : Nat} {A : Option Addr} {xs : List Value} (h : AtH w0 g its M H w) (ho : Own H B e size A n cap xs) (hB : M ≤ B) : Own w B e size A n cap xs := by
  obtain ⟨h1, h2, h3, fl, h4, h5, h6⟩ := h
  obtain ⟨o1, o2, o3, o4⟩ := ho
  refine ⟨o1, o2, o3, ?_⟩
  rcases o4 with o4 | ⟨k, cur, rfl, hb, hgg, r⟩
  · exact .inl o4
  · exact .inr ⟨k, cur, rfl, hb, (h6 k (by omega) (Array.getElem?_eq_some_iff.1 hgg).1).1.trans hgg, r⟩
theorem AtH.cell {b k : Nat} {v : Value} (h : AtH w0 g its M H w) (hM : M ≤ b) (hc : H.cell? ⟨b, k, none⟩ = some v) : w.cell? ⟨b, k, none⟩ = some v := by
  obtain ⟨h1, h2, h3, fl, h4, h5, h6⟩ := h
  have hl := World.block_lt_of_cell? H _ hc
  have := (h6 b hM hl).1
  unfold World.cell? at hc ⊢
  rw [this]; exact hc
theorem AtH.len (h : AtH w0 g its M H w) : its.length ≤ 64 := by
  obtain ⟨h1, h2, h3, fl, h4, h5, h6⟩ := h
  rw [← h4, List.length_map]
  exact h5.2.1
theorem h_take (h : AtH w0 g its M H w) (k : Int) (hp : 0 < its.length) (x : Int × List Nat) (hx : its[place k its.length]? = some x) :
    Calls Try.prog 12 #[.pointer (some ⟨g, 0, none⟩), .int .i64 k] w fun e w' => ∃ A c, e = .returned (.tuple #[.agg #[.int .i64 x.1, .slice A x.2.length c], .int .i64 0]) ∧ AtH w0 g (its.eraseIdx (place k its.length)) M H w' ∧ Own w' w0.heap.size 5 1 A x.2.length c (x.2.map byte) := by
  obtain ⟨h1, h2, h3, fl, rfl, h5, h6⟩ := h
  rw [List.length_map] at hp hx ⊢
  rw [List.getElem?_map] at hx
  obtain ⟨f, hf, rfl⟩ := Option.map_eq_some_iff.1 hx
  refine (take_ok w _ g fl k h5 hp f hf).mono ?_
  rintro e w' ⟨rfl, hs, hfr⟩
  refine ⟨_, _, rfl, ?_, hfr.1⟩
  have := AtH.step h1 h2 h3 h5 h6 hs
  rwa [show (fl.eraseIdx (place k fl.length)).map Flt.it = (fl.map Flt.it).eraseIdx (place k fl.length) by simp [List.eraseIdx_eq_take_drop_succ, List.map_take, List.map_drop]] at this
theorem h_tnone (h : AtH w0 g [] M H w) (k : Int) :
    Calls Try.prog 12 #[.pointer (some ⟨g, 0, none⟩), .int .i64 k] w fun e w' => e = .returned (.tuple #[.agg #[.int .i64 0, .slice none 0 0], .int .i64 300]) ∧ AtH w0 g [] M H w' := by
  have h' := h
  obtain ⟨h1, h2, h3, fl, h4, h5, h6⟩ := h
  obtain rfl : fl = [] := List.map_eq_nil_iff.1 h4
  refine (take_empty w _ g k h5).mono ?_
  rintro e w' ⟨rfl, hg⟩
  exact ⟨rfl, h'.grown0 hg⟩
theorem h_cnone (h : AtH w0 g [] M H w) (k : Int) :
    Calls Try.prog 13 #[.pointer (some ⟨g, 0, none⟩), .int .i64 k] w fun e w' => e = .returned (.int .i64 300) ∧ AtH w0 g [] M H w' := by
  have h' := h
  obtain ⟨h1, h2, h3, fl, h4, h5, h6⟩ := h
  obtain rfl : fl = [] := List.map_eq_nil_iff.1 h4
  refine (copy_empty w _ g k h5).mono ?_
  rintro e w' ⟨rfl, rfl⟩
  exact ⟨rfl, h'⟩
theorem h_cfull (h : AtH w0 g its M H w) (k : Int) (hl : its.length = 64) :
    Calls Try.prog 13 #[.pointer (some ⟨g, 0, none⟩), .int .i64 k] w fun e w' => e = .returned (.int .i64 4) ∧ AtH w0 g its M H w' := by
  have h' := h
  obtain ⟨h1, h2, h3, fl, rfl, h5, h6⟩ := h
  rw [List.length_map] at hl
  refine (copy_full w _ g fl k h5 hl).mono ?_
  rintro e w' ⟨rfl, rfl⟩
  exact ⟨rfl, h'⟩
theorem h_copy (h : AtH w0 g its M H w) (k : Int) (hn : its.length < 64) (hp : 0 < its.length) (x : Int × List Nat) (hx : its[place k its.length]? = some x) :
    Calls Try.prog 13 #[.pointer (some ⟨g, 0, none⟩), .int .i64 k] w fun e w' => e = .returned (.int .i64 0) ∧ AtH w0 g (its ++ [x]) M H w' := by
  obtain ⟨h1, h2, h3, fl, rfl, h5, h6⟩ := h
  rw [List.length_map] at hn hp hx
  rw [List.getElem?_map] at hx
  obtain ⟨f, hf, rfl⟩ := Option.map_eq_some_iff.1 hx
  refine (copy_ok w _ g fl k h5 hn hp f hf).mono ?_
  rintro e w' ⟨rfl, f', hf', hs⟩
  refine ⟨rfl, ?_⟩
  have := AtH.step h1 h2 h3 h5 h6 hs
  rwa [List.map_append, List.map_singleton, hf'] at this
theorem h_send (h : AtH w0 g its M H w) (to : Int) (A : Option Addr) (n c : Nat) (l : List Nat) (B : Nat) (hn : its.length < 64) (ht : -1 ≤ to ∧ to ≤ 5) (hl : l.length = n) (hl8 : n ≤ 128) (hb : Byt l) (hr : Reads w B A (l.map byte)) :
    Calls Try.prog 14 #[.pointer (some ⟨g, 0, none⟩), .agg #[.int .i64 to, .slice A n c]] w fun e w' => e = .returned (.int .i64 0) ∧ AtH w0 g (its ++ [(to, l)]) M H w' := by
  obtain ⟨h1, h2, h3, fl, rfl, h5, h6⟩ := h
  rw [List.length_map] at hn
  refine (send_ok w _ g fl to A n c l B h5 hn ht hl hl8 hb hr).mono ?_
  rintro e w' ⟨rfl, f, hf, hs⟩
  refine ⟨rfl, ?_⟩
  have := AtH.step h1 h2 h3 h5 h6 hs
  rwa [List.map_append, List.map_singleton, hf] at this
theorem h_sfull (h : AtH w0 g its M H w) (to : Int) (A : Option Addr) (n c : Nat) (ht : -1 ≤ to ∧ to ≤ 5) (hn : n ≤ 128) (hl : its.length = 64) :
    Calls Try.prog 14 #[.pointer (some ⟨g, 0, none⟩), .agg #[.int .i64 to, .slice A n c]] w fun e w' => e = .returned (.int .i64 4) ∧ AtH w0 g its M H w' := by
  have h' := h
  obtain ⟨h1, h2, h3, fl, rfl, h5, h6⟩ := h
  rw [List.length_map] at hl
  refine (send_full w _ g fl to A n c h5 ht hn hl).mono ?_
  rintro e w' ⟨rfl, hg⟩
  exact ⟨rfl, h'.grown0 hg⟩
end
/-! The plain laws. -/
def isId (id : Int) (x : Int × List Nat) : Bool := ((nth x.2 1 : Nat) : Int) == id
def cnt (id : Int) (its : List (Int × List Nat)) : Nat := (its.filter (isId id)).length
def one (b : Bool) : Nat := if b then 1 else 0
theorem cnt_snoc (id : Int) (its : List (Int × List Nat)) (x : Int × List Nat) : cnt id (its ++ [x]) = cnt id its + one (isId id x) := by
  unfold cnt one
  rw [List.filter_append, List.length_append]
  cases h : isId id x <;> simp [h]
theorem cnt_erase (id : Int) (x : Int × List Nat) : ∀ (its : List (Int × List Nat)) (p : Nat), its[p]? = some x → cnt id its = cnt id (its.eraseIdx p) + one (isId id x)
  | [], p, h => by simp at h
  | y :: r, 0, h => by
    simp only [List.getElem?_cons_zero, Option.some.injEq] at h
    subst h
    unfold cnt one
    cases h : isId id y <;> simp [h]
  | y :: r, p + 1, h => by
    rw [List.getElem?_cons_succ] at h
    have := cnt_erase id x r p h
    unfold cnt one at *
    rw [List.eraseIdx_cons_succ]
    cases hy : isId id y <;> simp [hy] at * <;> omega
theorem cnt_take (id : Int) (its : List (Int × List Nat)) (k : Nat) (x : Int × List Nat) (h : its[k]? = some x) : cnt id (its.take (k + 1)) = cnt id (its.take k) + one (isId id x) := by
  rw [List.take_add_one, h]
  exact cnt_snoc id _ x
/-- Those of the second row stand in the first one, one behind the other. -/
def Stands (i1 i2 : List (Int × List Nat)) : Prop := ∃ F : Nat → Nat, (∀ k, F k < F (k + 1)) ∧ ∀ k y, i2[k]? = some y → k < i1.length → ∃ x, i1[F k]? = some x ∧ x.2 = y.2
theorem stands_same (i1 : List (Int × List Nat)) : Stands i1 i1 := ⟨id, fun k => by simp, fun k y hy _ => ⟨y, hy, rfl⟩⟩
theorem stands_snoc (i1 : List (Int × List Nat)) (z : Int × List Nat) : Stands i1 (i1 ++ [z]) :=
  ⟨id, fun k => by simp, fun k y hy hk => ⟨y, by rwa [List.getElem?_append_left hk] at hy, rfl⟩⟩
theorem stands_erase (i1 : List (Int × List Nat)) (p : Nat) : Stands i1 (i1.eraseIdx p) :=
  ⟨fun k => if k < p then k else k + 1, fun k => by dsimp only; split <;> split <;> omega, fun k y hy _ => ⟨y, by
    rw [List.getElem?_eraseIdx] at hy
    dsimp only
    split
    · rename_i h; rwa [if_pos h] at hy
    · rename_i h; rwa [if_neg h] at hy, rfl⟩⟩
def Two2 (its : List (Int × List Nat)) : Prop := ∀ x ∈ its, x.2.length = 2
theorem two_erase {its : List (Int × List Nat)} (h : Two2 its) (p : Nat) : Two2 (its.eraseIdx p) := fun x hx => h x (List.mem_of_mem_eraseIdx hx)
theorem two_snoc {its : List (Int × List Nat)} (h : Two2 its) {x : Int × List Nat} (hx : x.2.length = 2) : Two2 (its ++ [x]) := fun y hy => by
  rcases List.mem_append.1 hy with h1 | h1
  · exact h y h1
  · rw [List.mem_singleton.1 h1]; exact hx
/-- Whether bytes are the same, told by draws alone. -/
theorem same_q (A1 A2 : Option Addr) (n1 c1 n2 c2 : Nat) (l1 l2 : List Nat) (w : World) (B1 B2 : Nat) (h1 : l1.length = n1) (h2 : l2.length = n2) (r1 : Reads w B1 A1 (l1.map byte)) (r2 : Reads w B2 A2 (l2.map byte)) (hn : n1 ≤ 1000000) (hn2 : n2 ≤ 1000000) :
    Calls Try.prog 15 #[.slice A1 n1 c1, .slice A2 n2 c2] w fun e w' => e = .returned (.bool (l1 == l2)) ∧ Drew w w' := by
  by_cases hne : n1 = n2
  · subst hne
    go_enter Try.func15, Try.ntmps15
    go_wp2
    go_loopw [5] (fun v wr => ∃ k : Nat, k ≤ n1 ∧ v = .int .i64 k ∧ (∀ j, j < k → nth l1 j = nth l2 j) ∧ Drew w wr) (fun v _ => n1 - (intOf v).toNat)
    case atStart => exact ⟨0, Nat.zero_le _, rfl, fun j hj => absurd hj (by omega), Drew.refl_ _⟩
    case round =>
      obtain ⟨k, hk, rfl, heq, hg⟩ := hrel
      have heq' := Lib.hid heq; clear heq
      by_cases hlt : k < n1
      · obtain ⟨ad1, rfl, _, hc1⟩ := (r1.grown0 hg.grown_).byte_ (k := k) (by omega)
        obtain ⟨ad2, rfl, _, hc2⟩ := (r2.grown0 hg.grown_).byte_ (k := k) (by omega)
        have hg' := Lib.hid hg
        clear hg
        go_wp2
        go_quiet (fail)
        by_cases hxy : nth l1 k = nth l2 k
        · have hb : ((nth l1 k : Int) != (nth l2 k : Int)) = false := by simp [hxy]
          have hk' : Hid (nth l1 k = nth l2 k) := hxy
          clear hxy
          go_wp2
          go_roundw
          case rel => exact ⟨k + 1, by omega, by go_num, fun j hj => by
            rcases Nat.lt_or_ge j k with h | h
            · exact heq'.out j h
            · obtain rfl : j = k := by omega
              exact hk'.out, hg'.out.more_ _⟩
          case measure => simp [intOf]; omega
        · have hb : ((nth l1 k : Int) != (nth l2 k : Int)) = true := by simp; omega
          have hk' : Hid (¬ nth l1 k = nth l2 k) := hxy
          clear hxy
          go_wp2
          go_ret
          refine ⟨?_, hg'.out.more_ _⟩
          have : l1 ≠ l2 := fun e => hk'.out (by rw [e])
          simp [this]
      · have hg' := Lib.hid hg
        clear hg
        go_wp2
        go_ret
        obtain rfl : k = n1 := by omega
        refine ⟨?_, hg'.out⟩
        have : l1 = l2 := ext_nth (by omega) (fun j hj => heq'.out j (by omega))
        simp [this]
  · have hb : ((n1 : Int) != (n2 : Int)) = true := by simp; omega
    go_enter Try.func15, Try.ntmps15
    go_wp2
    go_ret
    refine ⟨?_, Drew.refl_ _⟩
    have : l1 ≠ l2 := fun e => hne (by rw [← h1, ← h2, e])
    simp [this]
end Go.Proofs.Ytdmhaigldckdbaa
