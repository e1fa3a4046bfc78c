/- The mutations, in plain words: what may be, what comes of a change. -/
import Derived.Test.YtjnbfgogmhfbiaaVh
namespace Go.Proofs.Ytjnbfgogmhfbiaa
open Go Go.RowKit
/-- May a node's style be? -/
def styB (y : List Value) : Bool := mayB ⟨fun i => intAt (styN y) i, fun _ => false⟩
theorem mayB_cells (s : Sty) : mayB ⟨fun i => intAt s.cells.toList i, fun _ => false⟩ = mayB s := rfl
theorem styB_of {y : List Value} {s : Sty} (h : s.cells = (styN y).toArray) : styB y = mayB s := by
  rw [← mayB_cells s, h]
  rfl
def disp (y : List Value) : Int := intAt y 3
/-- Is a node a flexible box? -/
def isFlex (y : List Value) : Bool := decide (kindN y = 0) && decide (disp y = 2)
def absI (u : Int) : Int := max u (-u)
def flexBad (F : Nat → Int) (y : List Value) : Bool :=
  (decide (kindN y = 0) && !styB y) || ((decide (kindN y = 1) && decide (F (depN y).toNat < 0)) || (isFlex y && decide (6 ≤ absI (F (depN y).toNat))))
def flexVal (F : Nat → Int) (y : List Value) : Int :=
  if isFlex y then -(absI (F (depN y).toNat) + 1) else absI (F (depN y).toNat)
def flexNext (F : Nat → Int) (y : List Value) : Nat → Int := fun k => if k = (depN y).toNat + 1 then flexVal F y else F k
def flexGo (F : Nat → Int) : List (List Value) → Bool
  | [] => true
  | y :: r => !flexBad F y && flexGo (flexNext F y) r
/-- May a document be? -/
def MayL (L : List (List Value)) (x : Int) : Prop := Shape L x ∧ flexGo (fun _ => 0) L = true
/-- Where a kid of a number will stand, and how deep. -/
def gapE (L : List (List Value)) (parent number : Int) : Except Int (Nat × Int) :=
  if 0 ≤ findI L parent then
    let u := (findI L parent).toNat
    if kindN (nd L u) = 0 ∧ 0 ≤ number ∧ number ≤ (kidsN (dp L) L.length u).length then .ok (gapAt L u number.toNat, dp L u + 1) else .error 70
  else .error 70
def cutL (L : List (List Value)) (key : Int) : Except Int (List (List Value) × List (List Value)) :=
  if 0 < findI L key then
    let u := (findI L key).toNat
    let e := endN (dp L) L.length u
    .ok ((L.drop u).take (e - u), L.take u ++ L.drop e)
  else .error 70
def boxOf (x deep : Int) (y : List Value) : List Value := .int .i64 x :: .int .i64 deep :: .int .u8 0 :: (styN y ++ [.string ByteArray.empty])
def textOf (x deep : Int) (y : List Value) : List Value := .int .i64 x :: .int .i64 deep :: .int .u8 1 :: (zeroSty ++ [(y[50]?).getD (.string ByteArray.empty)])
def putAt (L : List (List Value)) (g : Nat) (T : List (List Value)) : List (List Value) := L.take g ++ T ++ L.drop g
def insertL (L : List (List Value)) (x par num : Int) (y : List Value) : Except Int (List (List Value) × Int) :=
  match gapE L par num with
  | .error e => .error e
  | .ok (g, deep) =>
    if kindN y = 0 then (if styB y then .ok (putAt L g [boxOf x deep y], x + 1) else .error 60)
    else if kindN y = 1 then .ok (putAt L g [textOf x deep y], x + 1) else .error 70
def removeL (L : List (List Value)) (x key : Int) : Except Int (List (List Value) × Int) :=
  match cutL L key with
  | .error e => .error e
  | .ok (_, R) => .ok (R, x)
def deepen (d : Int) (y : List Value) : List Value := y.set 1 (.int .i64 (depN y + d))
def moveL (L : List (List Value)) (x key par num : Int) : Except Int (List (List Value) × Int) :=
  match cutL L key with
  | .error e => .error e
  | .ok (T, R) => match gapE R par num with
    | .error e => .error e
    | .ok (g, deep) => .ok (putAt R g (T.map (deepen (deep - dp T 0))), x)
def withSty (z y : List Value) : List Value := z.take 3 ++ styN y ++ z.drop 50
def withText (z y : List Value) : List Value := z.set 50 ((y[50]?).getD (.string ByteArray.empty))
def styleL (L : List (List Value)) (x key : Int) (y : List Value) : Except Int (List (List Value) × Int) :=
  if 0 ≤ findI L key then
    let u := (findI L key).toNat
    if kindN (nd L u) = 0 then (if styB y then .ok (L.set u (withSty (nd L u) y), x) else .error 60) else .error 70
  else .error 70
def textL (L : List (List Value)) (x key : Int) (y : List Value) : Except Int (List (List Value) × Int) :=
  if 0 ≤ findI L key then
    let u := (findI L key).toNat
    if kindN (nd L u) = 1 then .ok (L.set u (withText (nd L u) y), x) else .error 70
  else .error 70
/-- A change. -/
structure Chg where
  kd : Int
  key : Int
  par : Int
  num : Int
  y : List Value
def Chg.cells (c : Chg) : Array Value := (.int .u8 c.kd :: .int .i64 c.key :: .int .i64 c.par :: .int .i64 c.num :: c.y : List Value).toArray
structure Chg.ok (c : Chg) : Prop where
  kd : 0 ≤ c.kd ∧ c.kd ≤ 255
  key : -9223372036854775808 ≤ c.key ∧ c.key ≤ 9223372036854775807
  par : -9223372036854775808 ≤ c.par ∧ c.par ≤ 9223372036854775807
  num : -9223372036854775808 ≤ c.num ∧ c.num ≤ 9223372036854775807
  y : OkAll nodeLs c.y
def opL (L : List (List Value)) (x : Int) (c : Chg) : Except Int (List (List Value) × Int) :=
  if c.kd = 1 then insertL L x c.par c.num c.y
  else if c.kd = 2 then removeL L x c.key
  else if c.kd = 3 then moveL L x c.key c.par c.num
  else if c.kd = 4 then styleL L x c.key c.y
  else textL L x c.key c.y
/-- What comes of a change. -/
def Applies (L : List (List Value)) (x : Int) (c : Chg) : Except Int (List (List Value) × Int) → Prop
  | .error e => (¬ MayL L x ∧ e = 50) ∨ (MayL L x ∧ ¬ (1 ≤ c.kd ∧ c.kd ≤ 5) ∧ e = 70) ∨ (MayL L x ∧ (1 ≤ c.kd ∧ c.kd ≤ 5) ∧ opL L x c = .error e) ∨
      (MayL L x ∧ (1 ≤ c.kd ∧ c.kd ≤ 5) ∧ (∃ L' x', opL L x c = .ok (L', x') ∧ ¬ MayL L' x') ∧ e = 4)
  | .ok (L', x') => MayL L x ∧ (1 ≤ c.kd ∧ c.kd ≤ 5) ∧ opL L x c = .ok (L', x') ∧ MayL L' x'
/-- What a change's function leaves. -/
def OpPost (w : World) (B p : Nat) (q : Option Nat) (res : Except Int (List (List Value) × Int)) (r : Ending) (w' : World) : Prop :=
  match res with
  | .ok (L', x') => r = .returned (.tuple #[]) ∧ (∃ A' n' c', DocAt w' B p A' n' c' L' x') ∧ Mut w w' p q
  | .error e => r = .panicked [{ v := wrongV e, recovered := false }] ∧ (∃ u v, Two w' p 24 u v) ∧ Mut w w' p q
theorem OpPost.err {w : World} {B p : Nat} {q : Option Nat} {e : Int} {r : Ending} {w' : World} (hr : r = .panicked [{ v := wrongV e, recovered := false }]) {B' n c : Nat} {A : Option Addr} {L : List (List Value)} {x : Int} (hd : DocAt w' B' p A n c L x) (hm : Mut w w' p q) : OpPost w B p q (.error e) r w' := ⟨hr, ⟨_, _, hd.two⟩, hm⟩
theorem OpPost.fine {w : World} {B p : Nat} {q : Option Nat} {L' : List (List Value)} {x' : Int} {r : Ending} {w' : World} (hr : r = .returned (.tuple #[])) {n c : Nat} {A : Option Addr} (hd : DocAt w' B p A n c L' x') (hm : Mut w w' p q) : OpPost w B p q (.ok (L', x')) r w' := ⟨hr, ⟨_, _, _, hd⟩, hm⟩
theorem cutL_yes {L : List (List Value)} {key : Int} {u e : Nat} (h : findI L key = u) (h0 : 0 < u) (he : e = endN (dp L) L.length u) : cutL L key = .ok ((L.drop u).take (e - u), L.take u ++ L.drop e) := by
  unfold cutL
  rw [if_pos (by omega), h, he]
  rfl
theorem cutL_no {L : List (List Value)} {key : Int} (h : findI L key ≤ 0) : cutL L key = .error 70 := by
  unfold cutL
  rw [if_neg (by omega)]
theorem gapE_yes {L : List (List Value)} {parent number : Int} {u k : Nat} (h : GapYes L parent number u k) : gapE L parent number = .ok (gapAt L u k, dp L u + 1) := by
  obtain ⟨h1, h2, h3, h4, h5⟩ := h
  unfold gapE
  rw [if_pos (by omega), h1, h4]
  show (if kindN (nd L u) = 0 ∧ (0 : Int) ≤ (k : Int) ∧ (k : Int) ≤ ((kidsN (dp L) L.length u).length : Int) then _ else _) = _
  rw [if_pos ⟨h3, by omega, by omega⟩]
  rfl
theorem gapE_no {L : List (List Value)} {parent number : Int} (h : ¬ ∃ u k : Nat, GapYes L parent number u k) : gapE L parent number = .error 70 := by
  unfold gapE
  split
  · rename_i h0
    obtain ⟨u, hu, hul, _⟩ := findI_spec h0
    dsimp only
    rw [if_neg]
    rintro ⟨h1, h2, h3⟩
    rw [hu] at h1 h3
    exact h ⟨u, number.toNat, hu, hul, h1, by omega, by simp only [Int.toNat_natCast] at h3; omega⟩
  · rfl
/-! A change's cells. -/
section
variable {c : Chg} (h : c.ok)
theorem Chg.c0 : c.cells[0]? = some (.int .u8 c.kd) := by simp [Chg.cells]
theorem Chg.c1 : c.cells[1]? = some (.int .i64 c.key) := by simp [Chg.cells]
theorem Chg.c2 : c.cells[2]? = some (.int .i64 c.par) := by simp [Chg.cells]
theorem Chg.c3 : c.cells[3]? = some (.int .i64 c.num) := by simp [Chg.cells]
theorem Chg.cy (k : Nat) : c.cells[4 + k]? = c.y[k]? := by
  rw [show 4 + k = k + 1 + 1 + 1 + 1 by omega]
  simp [Chg.cells]
include h
theorem Chg.size : c.cells.size = 55 := by
  have := h.y.len
  simp [Chg.cells, this, nodeLs_len]
end
theorem chg_style {w : World} {g : Nat} {c : Chg} (hr : Row w g 34 c.cells) (h : c.ok) : (Instr.loadAt 30 (.pointer (some ⟨g, 7, none⟩))).run Try.prog w = .ok (.agg (styN c.y).toArray) w := by
  refine run_loadStyle w _ _ (styN_len h.y) fun k hk => ?_
  rw [Addr.add_lit, hr.at, show 7 + k = 4 + (3 + k) by omega, Chg.cy]
  unfold styN
  rw [List.getElem?_take, if_pos hk, List.getElem?_drop]
end Go.Proofs.Ytjnbfgogmhfbiaa
