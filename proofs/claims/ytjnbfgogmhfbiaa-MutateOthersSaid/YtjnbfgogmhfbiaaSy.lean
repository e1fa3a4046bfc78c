/- A style, in plain words, opened to its cells (printed by gen_sty.py). -/
import Derived.Test.YtjnbfgogmhfbiaaMem
import Derived.Test.YtjnbfgogmhfbiaaFlat
namespace Go.Proofs.Ytjnbfgogmhfbiaa
open Go Go.RowKit
/-- The cells of flat leaves, out of numbers, truths and texts by their places. -/
def cellF (n : Nat → Int) (b : Nat → Bool) (t : Nat → ByteArray) (j : Nat) : Lf → Value
  | .int k => .int k (n j)
  | .bool => .bool (b j)
  | .str => .string (t j)
def cellsF (n : Nat → Int) (b : Nat → Bool) (t : Nat → ByteArray) : Nat → List Lf → List Value
  | _, [] => []
  | j, l :: ls => cellF n b t j l :: cellsF n b t (j + 1) ls
theorem cellsF_get (n : Nat → Int) (b : Nat → Bool) (t : Nat → ByteArray) : ∀ (ls : List Lf) (j0 i : Nat), (cellsF n b t j0 ls)[i]? = (ls[i]?).map (cellF n b t (j0 + i))
  | [], _, _ => by simp [cellsF]
  | l :: ls, j0, 0 => by simp [cellsF]
  | l :: ls, j0, i + 1 => by
    simp only [cellsF, List.getElem?_cons_succ]
    rw [cellsF_get n b t ls (j0 + 1) i]
    congr 2
    omega
theorem OkAll.get2 : ∀ {ls : List Lf} {cs : List Value}, OkAll ls cs → ∀ j : Nat, (ls[j]? = none ∧ cs[j]? = none) ∨ ∃ l v, ls[j]? = some l ∧ cs[j]? = some v ∧ l.ok v
  | [], _, h, j => by cases h; left; simp
  | l :: ls, _, ⟨v, r, rfl, h1, h2⟩, 0 => .inr ⟨l, v, rfl, rfl, h1⟩
  | l :: ls, _, ⟨v, r, rfl, h1, h2⟩, j + 1 => by simpa using OkAll.get2 h2 j
def okF (n : Nat → Int) (t : Nat → ByteArray) (j : Nat) : Lf → Prop
  | .int k => (Lit.int k (n j)).wf = true
  | .bool => True
  | .str => (t j).size ≤ maxLen
theorem open_cells {ls : List Lf} {cs : List Value} (h : OkAll ls cs) : ∃ n b t, cs = cellsF n b t 0 ls ∧ ∀ (j : Nat) (l : Lf), ls[j]? = some l → okF n t j l := by
  refine ⟨fun j => match cs[j]? with | some (.int _ x) => x | _ => 0, fun j => match cs[j]? with | some (.bool x) => x | _ => false, fun j => match cs[j]? with | some (.string x) => x | _ => ⟨#[]⟩, ?_, ?_⟩
  · apply List.ext_getElem?
    intro j
    rw [cellsF_get, Nat.zero_add]
    rcases h.get2 j with ⟨h1, h2⟩ | ⟨l, v, h1, h2, h3⟩
    · rw [h1, h2]; rfl
    · rw [h1, h2]
      cases l with
      | int k => obtain ⟨x, rfl, _⟩ := h3; simp [cellF, h2]
      | bool => obtain ⟨x, rfl⟩ := h3; simp [cellF, h2]
      | str => obtain ⟨x, rfl, _⟩ := h3; simp [cellF, h2]
  · intro j l hl
    rcases h.get2 j with ⟨h1, h2⟩ | ⟨l', v, h1, h2, h3⟩
    · rw [hl] at h1; cases h1
    · rw [hl] at h1
      cases h1
      cases l with
      | int k => obtain ⟨x, rfl, h4⟩ := h3; simpa [okF, h2] using h4
      | bool => trivial
      | str => obtain ⟨x, rfl, h4⟩ := h3; simpa [okF, h2] using h4
structure Sty where
  n : Nat → Int
  b : Nat → Bool
def styL : List Lf := [.int .u8, .bool, .int .u8, .int .i64, .int .u8, .int .i64, .int .u8, .int .i64, .int .u8, .int .i64, .int .u8, .int .i64, .int .u8, .int .i64, .int .u8, .int .i64, .int .u8, .int .i64, .int .u8, .int .i64, .int .u8, .int .i64, .int .i64, .int .i64, .int .i64, .int .i64, .int .i64, .int .i64, .int .i64, .int .i64, .int .i64, .int .i64, .int .i64, .int .u8, .int .u8, .int .u8, .int .u8, .int .u8, .bool, .int .u8, .int .i64, .int .i64, .int .i64, .int .i64, .int .u8, .int .i64, .int .i64]
def Sty.cells (s : Sty) : Array Value := #[.int .u8 (s.n 0), .bool (s.b 1), .int .u8 (s.n 2), .int .i64 (s.n 3), .int .u8 (s.n 4), .int .i64 (s.n 5), .int .u8 (s.n 6), .int .i64 (s.n 7), .int .u8 (s.n 8), .int .i64 (s.n 9), .int .u8 (s.n 10), .int .i64 (s.n 11), .int .u8 (s.n 12), .int .i64 (s.n 13), .int .u8 (s.n 14), .int .i64 (s.n 15), .int .u8 (s.n 16), .int .i64 (s.n 17), .int .u8 (s.n 18), .int .i64 (s.n 19), .int .u8 (s.n 20), .int .i64 (s.n 21), .int .i64 (s.n 22), .int .i64 (s.n 23), .int .i64 (s.n 24), .int .i64 (s.n 25), .int .i64 (s.n 26), .int .i64 (s.n 27), .int .i64 (s.n 28), .int .i64 (s.n 29), .int .i64 (s.n 30), .int .i64 (s.n 31), .int .i64 (s.n 32), .int .u8 (s.n 33), .int .u8 (s.n 34), .int .u8 (s.n 35), .int .u8 (s.n 36), .int .u8 (s.n 37), .bool (s.b 38), .int .u8 (s.n 39), .int .i64 (s.n 40), .int .i64 (s.n 41), .int .i64 (s.n 42), .int .i64 (s.n 43), .int .u8 (s.n 44), .int .i64 (s.n 45), .int .i64 (s.n 46)]
def Sty.val (s : Sty) : Value := .agg s.cells
def Sty.ok (s : Sty) : Prop := ∀ (j : Nat) (k : IntKind), styL[j]? = some (.int k) → (Lit.int k (s.n j)).wf = true
theorem Sty.c0 (s : Sty) : s.cells[0]? = some (.int .u8 (s.n 0)) := rfl
theorem Sty.c1 (s : Sty) : s.cells[1]? = some (.bool (s.b 1)) := rfl
theorem Sty.c2 (s : Sty) : s.cells[2]? = some (.int .u8 (s.n 2)) := rfl
theorem Sty.c3 (s : Sty) : s.cells[3]? = some (.int .i64 (s.n 3)) := rfl
theorem Sty.c4 (s : Sty) : s.cells[4]? = some (.int .u8 (s.n 4)) := rfl
theorem Sty.c5 (s : Sty) : s.cells[5]? = some (.int .i64 (s.n 5)) := rfl
theorem Sty.c6 (s : Sty) : s.cells[6]? = some (.int .u8 (s.n 6)) := rfl
theorem Sty.c7 (s : Sty) : s.cells[7]? = some (.int .i64 (s.n 7)) := rfl
theorem Sty.c8 (s : Sty) : s.cells[8]? = some (.int .u8 (s.n 8)) := rfl
theorem Sty.c9 (s : Sty) : s.cells[9]? = some (.int .i64 (s.n 9)) := rfl
theorem Sty.c10 (s : Sty) : s.cells[10]? = some (.int .u8 (s.n 10)) := rfl
theorem Sty.c11 (s : Sty) : s.cells[11]? = some (.int .i64 (s.n 11)) := rfl
theorem Sty.c12 (s : Sty) : s.cells[12]? = some (.int .u8 (s.n 12)) := rfl
theorem Sty.c13 (s : Sty) : s.cells[13]? = some (.int .i64 (s.n 13)) := rfl
theorem Sty.c14 (s : Sty) : s.cells[14]? = some (.int .u8 (s.n 14)) := rfl
theorem Sty.c15 (s : Sty) : s.cells[15]? = some (.int .i64 (s.n 15)) := rfl
theorem Sty.c16 (s : Sty) : s.cells[16]? = some (.int .u8 (s.n 16)) := rfl
theorem Sty.c17 (s : Sty) : s.cells[17]? = some (.int .i64 (s.n 17)) := rfl
theorem Sty.c18 (s : Sty) : s.cells[18]? = some (.int .u8 (s.n 18)) := rfl
theorem Sty.c19 (s : Sty) : s.cells[19]? = some (.int .i64 (s.n 19)) := rfl
theorem Sty.c20 (s : Sty) : s.cells[20]? = some (.int .u8 (s.n 20)) := rfl
theorem Sty.c21 (s : Sty) : s.cells[21]? = some (.int .i64 (s.n 21)) := rfl
theorem Sty.c22 (s : Sty) : s.cells[22]? = some (.int .i64 (s.n 22)) := rfl
theorem Sty.c23 (s : Sty) : s.cells[23]? = some (.int .i64 (s.n 23)) := rfl
theorem Sty.c24 (s : Sty) : s.cells[24]? = some (.int .i64 (s.n 24)) := rfl
theorem Sty.c25 (s : Sty) : s.cells[25]? = some (.int .i64 (s.n 25)) := rfl
theorem Sty.c26 (s : Sty) : s.cells[26]? = some (.int .i64 (s.n 26)) := rfl
theorem Sty.c27 (s : Sty) : s.cells[27]? = some (.int .i64 (s.n 27)) := rfl
theorem Sty.c28 (s : Sty) : s.cells[28]? = some (.int .i64 (s.n 28)) := rfl
theorem Sty.c29 (s : Sty) : s.cells[29]? = some (.int .i64 (s.n 29)) := rfl
theorem Sty.c30 (s : Sty) : s.cells[30]? = some (.int .i64 (s.n 30)) := rfl
theorem Sty.c31 (s : Sty) : s.cells[31]? = some (.int .i64 (s.n 31)) := rfl
theorem Sty.c32 (s : Sty) : s.cells[32]? = some (.int .i64 (s.n 32)) := rfl
theorem Sty.c33 (s : Sty) : s.cells[33]? = some (.int .u8 (s.n 33)) := rfl
theorem Sty.c34 (s : Sty) : s.cells[34]? = some (.int .u8 (s.n 34)) := rfl
theorem Sty.c35 (s : Sty) : s.cells[35]? = some (.int .u8 (s.n 35)) := rfl
theorem Sty.c36 (s : Sty) : s.cells[36]? = some (.int .u8 (s.n 36)) := rfl
theorem Sty.c37 (s : Sty) : s.cells[37]? = some (.int .u8 (s.n 37)) := rfl
theorem Sty.c38 (s : Sty) : s.cells[38]? = some (.bool (s.b 38)) := rfl
theorem Sty.c39 (s : Sty) : s.cells[39]? = some (.int .u8 (s.n 39)) := rfl
theorem Sty.c40 (s : Sty) : s.cells[40]? = some (.int .i64 (s.n 40)) := rfl
theorem Sty.c41 (s : Sty) : s.cells[41]? = some (.int .i64 (s.n 41)) := rfl
theorem Sty.c42 (s : Sty) : s.cells[42]? = some (.int .i64 (s.n 42)) := rfl
theorem Sty.c43 (s : Sty) : s.cells[43]? = some (.int .i64 (s.n 43)) := rfl
theorem Sty.c44 (s : Sty) : s.cells[44]? = some (.int .u8 (s.n 44)) := rfl
theorem Sty.c45 (s : Sty) : s.cells[45]? = some (.int .i64 (s.n 45)) := rfl
theorem Sty.c46 (s : Sty) : s.cells[46]? = some (.int .i64 (s.n 46)) := rfl
theorem Sty.size (s : Sty) : s.cells.size = 47 := rfl
theorem swf_i64 {n : Int} (h : (Lit.int .i64 n).wf = true) : -9223372036854775808 ≤ n ∧ n ≤ 9223372036854775807 := by simpa [Lit.wf, IntKind.min, IntKind.max, IntKind.signed, IntKind.bits] using h
theorem swf_u8 {n : Int} (h : (Lit.int .u8 n).wf = true) : 0 ≤ n ∧ n ≤ 255 := by simpa [Lit.wf, IntKind.min, IntKind.max, IntKind.signed, IntKind.bits] using h
theorem Sty.b0 {s : Sty} (h : s.ok) : 0 ≤ s.n 0 ∧ s.n 0 ≤ 255 := swf_u8 (h 0 _ rfl)
theorem Sty.b2 {s : Sty} (h : s.ok) : 0 ≤ s.n 2 ∧ s.n 2 ≤ 255 := swf_u8 (h 2 _ rfl)
theorem Sty.b3 {s : Sty} (h : s.ok) : -9223372036854775808 ≤ s.n 3 ∧ s.n 3 ≤ 9223372036854775807 := swf_i64 (h 3 _ rfl)
theorem Sty.b4 {s : Sty} (h : s.ok) : 0 ≤ s.n 4 ∧ s.n 4 ≤ 255 := swf_u8 (h 4 _ rfl)
theorem Sty.b5 {s : Sty} (h : s.ok) : -9223372036854775808 ≤ s.n 5 ∧ s.n 5 ≤ 9223372036854775807 := swf_i64 (h 5 _ rfl)
theorem Sty.b6 {s : Sty} (h : s.ok) : 0 ≤ s.n 6 ∧ s.n 6 ≤ 255 := swf_u8 (h 6 _ rfl)
theorem Sty.b7 {s : Sty} (h : s.ok) : -9223372036854775808 ≤ s.n 7 ∧ s.n 7 ≤ 9223372036854775807 := swf_i64 (h 7 _ rfl)
theorem Sty.b8 {s : Sty} (h : s.ok) : 0 ≤ s.n 8 ∧ s.n 8 ≤ 255 := swf_u8 (h 8 _ rfl)
theorem Sty.b9 {s : Sty} (h : s.ok) : -9223372036854775808 ≤ s.n 9 ∧ s.n 9 ≤ 9223372036854775807 := swf_i64 (h 9 _ rfl)
theorem Sty.b10 {s : Sty} (h : s.ok) : 0 ≤ s.n 10 ∧ s.n 10 ≤ 255 := swf_u8 (h 10 _ rfl)
theorem Sty.b11 {s : Sty} (h : s.ok) : -9223372036854775808 ≤ s.n 11 ∧ s.n 11 ≤ 9223372036854775807 := swf_i64 (h 11 _ rfl)
theorem Sty.b12 {s : Sty} (h : s.ok) : 0 ≤ s.n 12 ∧ s.n 12 ≤ 255 := swf_u8 (h 12 _ rfl)
theorem Sty.b13 {s : Sty} (h : s.ok) : -9223372036854775808 ≤ s.n 13 ∧ s.n 13 ≤ 9223372036854775807 := swf_i64 (h 13 _ rfl)
theorem Sty.b14 {s : Sty} (h : s.ok) : 0 ≤ s.n 14 ∧ s.n 14 ≤ 255 := swf_u8 (h 14 _ rfl)
theorem Sty.b15 {s : Sty} (h : s.ok) : -9223372036854775808 ≤ s.n 15 ∧ s.n 15 ≤ 9223372036854775807 := swf_i64 (h 15 _ rfl)
theorem Sty.b16 {s : Sty} (h : s.ok) : 0 ≤ s.n 16 ∧ s.n 16 ≤ 255 := swf_u8 (h 16 _ rfl)
theorem Sty.b17 {s : Sty} (h : s.ok) : -9223372036854775808 ≤ s.n 17 ∧ s.n 17 ≤ 9223372036854775807 := swf_i64 (h 17 _ rfl)
theorem Sty.b18 {s : Sty} (h : s.ok) : 0 ≤ s.n 18 ∧ s.n 18 ≤ 255 := swf_u8 (h 18 _ rfl)
theorem Sty.b19 {s : Sty} (h : s.ok) : -9223372036854775808 ≤ s.n 19 ∧ s.n 19 ≤ 9223372036854775807 := swf_i64 (h 19 _ rfl)
theorem Sty.b20 {s : Sty} (h : s.ok) : 0 ≤ s.n 20 ∧ s.n 20 ≤ 255 := swf_u8 (h 20 _ rfl)
theorem Sty.b21 {s : Sty} (h : s.ok) : -9223372036854775808 ≤ s.n 21 ∧ s.n 21 ≤ 9223372036854775807 := swf_i64 (h 21 _ rfl)
theorem Sty.b22 {s : Sty} (h : s.ok) : -9223372036854775808 ≤ s.n 22 ∧ s.n 22 ≤ 9223372036854775807 := swf_i64 (h 22 _ rfl)
theorem Sty.b23 {s : Sty} (h : s.ok) : -9223372036854775808 ≤ s.n 23 ∧ s.n 23 ≤ 9223372036854775807 := swf_i64 (h 23 _ rfl)
theorem Sty.b24 {s : Sty} (h : s.ok) : -9223372036854775808 ≤ s.n 24 ∧ s.n 24 ≤ 9223372036854775807 := swf_i64 (h 24 _ rfl)
theorem Sty.b25 {s : Sty} (h : s.ok) : -9223372036854775808 ≤ s.n 25 ∧ s.n 25 ≤ 9223372036854775807 := swf_i64 (h 25 _ rfl)
theorem Sty.b26 {s : Sty} (h : s.ok) : -9223372036854775808 ≤ s.n 26 ∧ s.n 26 ≤ 9223372036854775807 := swf_i64 (h 26 _ rfl)
theorem Sty.b27 {s : Sty} (h : s.ok) : -9223372036854775808 ≤ s.n 27 ∧ s.n 27 ≤ 9223372036854775807 := swf_i64 (h 27 _ rfl)
theorem Sty.b28 {s : Sty} (h : s.ok) : -9223372036854775808 ≤ s.n 28 ∧ s.n 28 ≤ 9223372036854775807 := swf_i64 (h 28 _ rfl)
theorem Sty.b29 {s : Sty} (h : s.ok) : -9223372036854775808 ≤ s.n 29 ∧ s.n 29 ≤ 9223372036854775807 := swf_i64 (h 29 _ rfl)
theorem Sty.b30 {s : Sty} (h : s.ok) : -9223372036854775808 ≤ s.n 30 ∧ s.n 30 ≤ 9223372036854775807 := swf_i64 (h 30 _ rfl)
theorem Sty.b31 {s : Sty} (h : s.ok) : -9223372036854775808 ≤ s.n 31 ∧ s.n 31 ≤ 9223372036854775807 := swf_i64 (h 31 _ rfl)
theorem Sty.b32 {s : Sty} (h : s.ok) : -9223372036854775808 ≤ s.n 32 ∧ s.n 32 ≤ 9223372036854775807 := swf_i64 (h 32 _ rfl)
theorem Sty.b33 {s : Sty} (h : s.ok) : 0 ≤ s.n 33 ∧ s.n 33 ≤ 255 := swf_u8 (h 33 _ rfl)
theorem Sty.b34 {s : Sty} (h : s.ok) : 0 ≤ s.n 34 ∧ s.n 34 ≤ 255 := swf_u8 (h 34 _ rfl)
theorem Sty.b35 {s : Sty} (h : s.ok) : 0 ≤ s.n 35 ∧ s.n 35 ≤ 255 := swf_u8 (h 35 _ rfl)
theorem Sty.b36 {s : Sty} (h : s.ok) : 0 ≤ s.n 36 ∧ s.n 36 ≤ 255 := swf_u8 (h 36 _ rfl)
theorem Sty.b37 {s : Sty} (h : s.ok) : 0 ≤ s.n 37 ∧ s.n 37 ≤ 255 := swf_u8 (h 37 _ rfl)
theorem Sty.b39 {s : Sty} (h : s.ok) : 0 ≤ s.n 39 ∧ s.n 39 ≤ 255 := swf_u8 (h 39 _ rfl)
theorem Sty.b40 {s : Sty} (h : s.ok) : -9223372036854775808 ≤ s.n 40 ∧ s.n 40 ≤ 9223372036854775807 := swf_i64 (h 40 _ rfl)
theorem Sty.b41 {s : Sty} (h : s.ok) : -9223372036854775808 ≤ s.n 41 ∧ s.n 41 ≤ 9223372036854775807 := swf_i64 (h 41 _ rfl)
theorem Sty.b42 {s : Sty} (h : s.ok) : -9223372036854775808 ≤ s.n 42 ∧ s.n 42 ≤ 9223372036854775807 := swf_i64 (h 42 _ rfl)
theorem Sty.b43 {s : Sty} (h : s.ok) : -9223372036854775808 ≤ s.n 43 ∧ s.n 43 ≤ 9223372036854775807 := swf_i64 (h 43 _ rfl)
theorem Sty.b44 {s : Sty} (h : s.ok) : 0 ≤ s.n 44 ∧ s.n 44 ≤ 255 := swf_u8 (h 44 _ rfl)
theorem Sty.b45 {s : Sty} (h : s.ok) : -9223372036854775808 ≤ s.n 45 ∧ s.n 45 ≤ 9223372036854775807 := swf_i64 (h 45 _ rfl)
theorem Sty.b46 {s : Sty} (h : s.ok) : -9223372036854775808 ≤ s.n 46 ∧ s.n 46 ≤ 9223372036854775807 := swf_i64 (h 46 _ rfl)
theorem Sty.open {cs : List Value} (ok : OkAll styL cs) : ∃ s : Sty, s.ok ∧ cs = s.cells.toList := by
  obtain ⟨n, b, t, rfl, h⟩ := open_cells ok
  exact ⟨⟨n, b⟩, fun j k hj => h j _ hj, rfl⟩
/-- A box of a style. -/
def Held (w : World) (b : Nat) (s : Sty) : Prop := w.heap[b]? = some (.cells s.cells 30 (0, 0))
theorem Held.new (w : World) (s : Sty) : Held (w.alloc (.cells s.cells 30)) w.heap.size s := heap_alloc_new w _
theorem Held.grown {w w' : World} {b : Nat} {s : Sty} (h : Held w b s) (hg : w.grownBy w' none) : Held w' b s :=
  (hg.block b (Array.getElem?_eq_some_iff.1 h).1 (by simp)).trans h
theorem Held.at {w : World} {b : Nat} {s : Sty} (h : Held w b s) (j : Nat) : w.cell? ⟨b, j, none⟩ = s.cells[j]? := cell_of_row w b j _ _ _ h
/-! What may be, in plain words. -/
def amongB (n a b : Int) : Bool := decide (a ≤ n) && decide (n ≤ b)
def lengthB (k n least : Int) : Bool := if k = 0 then decide (n = 0) else if k = 1 then amongB n least 274877906944 else decide (k = 2) && amongB n 0 100000
def r1 (s : Sty) : Bool := decide (s.n 0 ≤ 2) && decide (s.n 33 ≤ 2) && decide (s.n 35 ≤ 2)
def r2 (s : Sty) : Bool := decide (s.n 36 ≤ 3) && decide (s.n 34 ≤ 2) && decide (s.n 37 ≤ 4)
def r3 (s : Sty) : Bool := decide (s.n 39 ≤ 2) || decide (s.n 39 = 5)
def r4 (s : Sty) : Bool := lengthB (s.n 2) (s.n 3) 0 && (lengthB (s.n 4) (s.n 5) 0 && (lengthB (s.n 6) (s.n 7) 0 && lengthB (s.n 44) (s.n 45) 0))
def tall (k n : Int) : Bool := !decide (k = 2) && lengthB k n 0
def r5 (s : Sty) : Bool := tall (s.n 8) (s.n 9) && (tall (s.n 10) (s.n 11) && tall (s.n 12) (s.n 13))
def side (s : Sty) (i : Nat) : Bool := lengthB (s.n (14 + 2 * i)) (s.n (15 + 2 * i)) (-274877906944) && (amongB (s.n (22 + i)) 0 274877906944 && amongB (s.n (26 + i)) 0 274877906944)
def r6 (s : Sty) : Bool := side s 0 && (side s 1 && (side s 2 && side s 3))
def r7 (s : Sty) : Bool := amongB (s.n 40) 0 274877906944 && (amongB (s.n 41) 0 274877906944 && (amongB (s.n 30) (-274877906944) 274877906944 && amongB (s.n 31) (-274877906944) 274877906944))
def r8 (s : Sty) : Bool := amongB (s.n 32) 0 1000 && amongB (s.n 46) (-1000) 1000
def r9 (s : Sty) : Bool := amongB (s.n 42) 0 1000 && amongB (s.n 43) 0 1000
def mayB (s : Sty) : Bool := r1 s && (r2 s && (r3 s && (r4 s && (r5 s && (r6 s && (r7 s && (r8 s && r9 s)))))))
theorem ret_b {a b : Bool} (h : a = b) : Ending.returned (.bool a) = .returned (.bool b) := by rw [h]
end Go.Proofs.Ytjnbfgogmhfbiaa
