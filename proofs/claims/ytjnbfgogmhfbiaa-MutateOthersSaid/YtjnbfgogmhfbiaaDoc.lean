/- A document as an argument: its nodes' cells, its Next. -/
import Derived.Test.YtjnbfgogmhfbiaaOpr
import Derived.Test.YtjnbfgogmhfbiaaEqv
import Derived.Test.YtjnbfgogmhfbiaaRows
namespace Go.Proofs.Ytjnbfgogmhfbiaa
open Go Go.RowKit Go.ChangeShapes Go.WideShapes
def nodeLs : List Lf := [.int .i64, .int .i64, .int .u8, .int .u8, .bool, .int .u8, .int .i64, .int .u8, .int .i64, .int .u8, .int .i64, .int .u8, .int .i64, .int .u8, .int .i64, .int .u8, .int .i64, .int .u8, .int .i64, .int .u8, .int .i64, .int .u8, .int .i64, .int .u8, .int .i64, .int .i64, .int .i64, .int .i64, .int .i64, .int .i64, .int .i64, .int .i64, .int .i64, .int .i64, .int .i64, .int .i64, .int .u8, .int .u8, .int .u8, .int .u8, .int .u8, .bool, .int .u8, .int .i64, .int .i64, .int .i64, .int .i64, .int .u8, .int .i64, .int .i64, .str]
theorem node_leaves : leaves Try.prog 8 32 = some nodeLs := by kernel_rfl
theorem node_cells : Try.prog.cellsOf 32 = 51 := by kernel_rfl
theorem node_key : Try.prog.keyTypeAt 8 32 = true := by kernel_rfl
def zeroNode : List Value := [.int .i64 0, .int .i64 0, .int .u8 0, .int .u8 0, .bool false, .int .u8 0, .int .i64 0, .int .u8 0, .int .i64 0, .int .u8 0, .int .i64 0, .int .u8 0, .int .i64 0, .int .u8 0, .int .i64 0, .int .u8 0, .int .i64 0, .int .u8 0, .int .i64 0, .int .u8 0, .int .i64 0, .int .u8 0, .int .i64 0, .int .u8 0, .int .i64 0, .int .i64 0, .int .i64 0, .int .i64 0, .int .i64 0, .int .i64 0, .int .i64 0, .int .i64 0, .int .i64 0, .int .i64 0, .int .i64 0, .int .i64 0, .int .u8 0, .int .u8 0, .int .u8 0, .int .u8 0, .int .u8 0, .bool false, .int .u8 0, .int .i64 0, .int .i64 0, .int .i64 0, .int .i64 0, .int .u8 0, .int .i64 0, .int .i64 0, .string ⟨#[]⟩]
theorem infoN : (Try.prog.info? 32).map (fun i => (i.zero, i.size, i.bytes)) = some (some (.agg zeroNode.toArray), 51, 360) := by kernel_rfl
/-- A slice of nodes that came in. -/
def IsNodes (w : World) (A : Option Addr) (n c : Nat) (L : List (List Value)) : Prop := IsRows w 51 (OkAll nodeLs) A n c L
theorem open_docT {H : Type} {enc : TypeId × Value → H} {w : World} {base : Nat} {spare : Nat → Bool} {held : Bool} {r : Reach} {b0 : Nat} {v : Value} {d : DataW H} {p : List MemPlace}
    (hv : Value.okWide Try.prog w r b0 24 v) (h : DataW.Trod enc Try.prog w base spare held 24 v d p) :
    ∃ A n c L x, v = .agg #[.slice A n c, .int .i64 x] ∧ (Lit.int .i64 x).wf = true ∧ IsNodes w A n c L := by
  have := open_doc (e := 32) (ls := nodeLs) (m := 8) Try.underlying24 (by kernel_rfl) (by kernel_rfl) node_leaves (by rw [node_cells]; omega) hv h
  rw [node_cells] at this
  exact this
theorem nodeLs_len : nodeLs.length = 51 := rfl
theorem node_equal {xs ys : List Value} (hx : OkAll nodeLs xs) (hy : OkAll nodeLs ys) (w : World) : (Op.equal 32 (.agg xs.toArray) (.agg ys.toArray)).run Try.prog w = .ok (eqV xs ys) w :=
  flat_equal Try.underlying32 node_leaves node_key (by omega) (by rw [node_cells]; rfl) hx hy w
end Go.Proofs.Ytjnbfgogmhfbiaa
