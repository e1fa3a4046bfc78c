/- Acts as an argument: a row of structs, each with bytes. -/
import Derived.Test.YtdmhaigldckdbaaOpr
import Derived.Test.YtdmhaigldckdbaaNr
namespace Go.Proofs.Ytdmhaigldckdbaa
open Go Go.ChangeShapes Go.WideShapes Go.RowKit Go.Deep
structure ActV where
  kind : Int
  K : Int
  to : Int
  A : Option Addr
  c : Nat
  l : List Nat
def ActV.cells (a : ActV) : List Value := [.int .u8 a.kind, .int .i64 a.K, .int .i64 a.to, .slice a.A a.l.length a.c]
def ActV.ok (w : World) (a : ActV) : Prop := (Lit.int .u8 a.kind).wf = true ∧ (Lit.int .i64 a.K).wf = true ∧ (Lit.int .i64 a.to).wf = true ∧ Byt a.l ∧ a.l.length ≤ maxLen ∧ Reads w w.heap.size a.A (a.l.map byte)
/-- A slice of acts that came in. -/
def IsActs (w : World) (A : Option Addr) (n c : Nat) (L : List ActV) : Prop :=
  L.length = n ∧ n ≤ c ∧ c ≤ maxLen ∧ (∀ a ∈ L, a.ok w) ∧ Reads w w.heap.size A (L.map ActV.cells).flatten
theorem wf_u8 {x : Int} (h : (Lit.int .u8 x).wf = true) : 0 ≤ x ∧ x < 256 := by
  simp [Lit.wf] at h
  have h1 : IntKind.u8.min = 0 := rfl
  have h2 : IntKind.u8.max = 255 := rfl
  omega
theorem act_cells : Try.prog.cellsOf 29 = 4 := by kernel_rfl
theorem byte_cells : Try.prog.cellsOf 5 = 1 := by kernel_rfl
def fourB (P : Program) (t a b c d : TypeId) : Bool :=
  match P.underlying t with
  | some (.struct fs) => match fs.toList with
    | [f0, f1, f2, f3] => f0.offset == 0 && f1.offset == 1 && f2.offset == 2 && f3.offset == 3 && f0.type == a && f1.type == b && f2.type == c && f3.type == d && P.cellsOf a == 1 && P.cellsOf b == 1 && P.cellsOf c == 1 && P.cellsOf d == 1
    | _ => false
  | _ => false
section
variable {H : Type} {enc : TypeId × Value → H} {P : Program} {w : World} {base : Nat} {spare : Nat → Bool} {held : Bool}
theorem trod_four {t a b c d : TypeId} {fuel : Nat} {cs : List Value} {x : DataW H × List MemPlace} (hd : fourB P t a b c d = true) (hc : P.cellsOf t = 4)
    (h : DataW.trod enc P w base spare held fuel t cs = some x) :
    ∃ v0 v1 v2 v3 k x0 x1 x2 x3, cs = [v0, v1, v2, v3] ∧ DataW.trod enc P w base spare held k a [v0] = some x0 ∧ DataW.trod enc P w base spare held k b [v1] = some x1 ∧ DataW.trod enc P w base spare held k c [v2] = some x2 ∧ DataW.trod enc P w base spare held k d [v3] = some x3 := by
  unfold fourB at hd
  split at hd
  · rename_i fs ht
    split at hd
    · rename_i f0 f1 f2 f3 hfs
      simp only [Bool.and_eq_true, beq_iff_eq] at hd
      obtain ⟨⟨⟨⟨⟨⟨⟨⟨⟨⟨⟨o0, o1⟩, o2⟩, o3⟩, rfl⟩, rfl⟩, rfl⟩, rfl⟩, c0⟩, c1⟩, c2⟩, c3⟩ := hd
      obtain ⟨xs, k, rfl, _, hl, hxl, hf⟩ := DataW.trod_struct ht h
      rw [hc] at hl
      obtain ⟨v0, v1, v2, v3, rfl⟩ : ∃ v0 v1 v2 v3, cs = [v0, v1, v2, v3] := by
        match cs, hl with
        | [a, b, c, d], _ => exact ⟨a, b, c, d, rfl⟩
      have hsz : fs.size = 4 := by rw [← Array.length_toList, hfs]; rfl
      have g0 : fs[0]? = some f0 := by rw [← Array.getElem?_toList, hfs]; rfl
      have g1 : fs[1]? = some f1 := by rw [← Array.getElem?_toList, hfs]; rfl
      have g2 : fs[2]? = some f2 := by rw [← Array.getElem?_toList, hfs]; rfl
      have g3 : fs[3]? = some f3 := by rw [← Array.getElem?_toList, hfs]; rfl
      have h0 := hf 0 f0 g0
      have h1 := hf 1 f1 g1
      have h2 := hf 2 f2 g2
      have h3 := hf 3 f3 g3
      rw [o0, c0] at h0
      rw [o1, c1] at h1
      rw [o2, c2] at h2
      rw [o3, c3] at h3
      have e0 : xs[0]? = some (xs[0]'(by omega)) := List.getElem?_eq_getElem _
      have e1 : xs[1]? = some (xs[1]'(by omega)) := List.getElem?_eq_getElem _
      have e2 : xs[2]? = some (xs[2]'(by omega)) := List.getElem?_eq_getElem _
      have e3 : xs[3]? = some (xs[3]'(by omega)) := List.getElem?_eq_getElem _
      rw [e0] at h0
      rw [e1] at h1
      rw [e2] at h2
      rw [e3] at h3
      exact ⟨v0, v1, v2, v3, _, _, _, _, _, rfl, h0, h1, h2, h3⟩
    · cases hd
  · cases hd
end
theorem flatten_byte : ∀ (L : List (List Value)), (∀ x ∈ L, ∃ b : Nat, x = [byte b] ∧ b < 256) → ∃ l : List Nat, L.flatten = l.map byte ∧ l.length = L.length ∧ Byt l
  | [], _ => ⟨[], rfl, rfl, by simp [Byt]⟩
  | x :: r, h => by
    obtain ⟨b, rfl, hb⟩ := h x (by simp)
    obtain ⟨l, h1, h2, h3⟩ := flatten_byte r (fun y hy => h y (List.mem_cons_of_mem _ hy))
    refine ⟨b :: l, by simp [h1], by simp [h2], fun y hy => ?_⟩
    rcases List.mem_cons.1 hy with rfl | hy
    · exact hb
    · exact h3 _ hy
theorem choose_list {α β : Type} (F : β → α) (P : β → Prop) : ∀ (L : List α), (∀ x ∈ L, ∃ b, x = F b ∧ P b) → ∃ M : List β, L = M.map F ∧ ∀ b ∈ M, P b
  | [], _ => ⟨[], rfl, by simp⟩
  | x :: r, h => by
    obtain ⟨b, rfl, hb⟩ := h x (by simp)
    obtain ⟨M, h1, h2⟩ := choose_list F P r (fun y hy => h y (List.mem_cons_of_mem _ hy))
    exact ⟨b :: M, by simp [h1], fun y hy => by rcases List.mem_cons.1 hy with rfl | hy; exact hb; exact h2 _ hy⟩
theorem open_acts {H : Type} {enc : TypeId × Value → H} {w : World} {base : Nat} {spare : Nat → Bool} {held : Bool} {r : Reach} {b0 : Nat} {v : Value} {d : DataW H} {p : List MemPlace}
    (hv : Value.okWide Try.prog w r b0 22 v) (h : DataW.Trod enc Try.prog w base spare held 22 v d p) :
    ∃ A n c L, v = .slice A n c ∧ IsActs w A n c L := by
  obtain ⟨A, n, c, rfl⟩ := okWide_slice Try.underlying22 hv
  obtain ⟨fuel, hf⟩ := h
  obtain ⟨A', n', c', L, hcs, hR⟩ := open_rows (fun cs => ∃ a : ActV, cs = a.cells ∧ a.ok w) Try.underlying22 (by rw [act_cells]; omega) (fun m cs y hy => by
    obtain ⟨v0, v1, v2, v3, k, x0, x1, x2, x3, rfl, h0, h1, h2, h3⟩ := trod_four (a := 5) (b := 3) (c := 3) (d := 27) (by kernel_rfl) act_cells hy
    obtain ⟨z0, e0, _, w0⟩ := DataW.trod_int Try.underlying5 h0
    obtain ⟨z1, e1, _, w1⟩ := DataW.trod_int Try.underlying3 h1
    obtain ⟨z2, e2, _, w2⟩ := DataW.trod_int Try.underlying3 h2
    cases e0; cases e1; cases e2
    obtain ⟨Ab, nb, cb, Lb, eb, hb⟩ := open_rows (fun cs => ∃ b : Nat, cs = [byte b] ∧ b < 256) Try.underlying27 (by rw [byte_cells]; omega) (fun m cs y hy => by
      obtain ⟨z, ez, _, wz⟩ := DataW.trod_int Try.underlying5 hy
      subst ez
      have := wf_u8 wz
      exact ⟨z.toNat, by simp only [byte]; rw [Int.toNat_of_nonneg this.1], by omega⟩) h3
    cases eb
    obtain ⟨q1, q2, q3, q4, q5⟩ := hb
    obtain ⟨l, l1, l2, l3⟩ := flatten_byte Lb (fun x hx => (q4 x hx).2)
    refine ⟨⟨z0, z1, z2, Ab, cb, l⟩, ?_, w0, w1, w2, l3, ?_, ?_⟩
    · simp [ActV.cells, l2, q1]
    · show l.length ≤ maxLen
      omega
    · show Reads w w.heap.size Ab (l.map byte)
      rw [← l1]
      exact q5) hf
  simp only [Value.cells, List.cons.injEq, Value.slice.injEq, and_true] at hcs
  obtain ⟨rfl, rfl, rfl⟩ := hcs
  obtain ⟨q1, q2, q3, q4, q5⟩ := hR
  obtain ⟨M, rfl, hM⟩ := choose_list ActV.cells (ActV.ok w) L (fun x hx => (q4 x hx).2)
  exact ⟨A, n, c, M, rfl, by rw [← q1, List.length_map], q2, q3, hM, q5⟩
end Go.Proofs.Ytdmhaigldckdbaa
