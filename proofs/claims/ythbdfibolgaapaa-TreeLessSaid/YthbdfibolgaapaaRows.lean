/-
  No cell of these rows narrows 'for every input' (looked for: loops, veiled, ifaces, maps, wideKeys, modest, calm, conditions, laid).
  DERIVED. THE GIVEN ROWS OF THIS SEAT. 5 by the template 'for every input the law returns true; each argument reads behind the call as it read before'; 0 by the template 'total and deterministic' (their statements: YthbdfibolgaapaaTotals.lean).
  GIVEN WITH THE SEED: the statements are not yours to turn. If you find one false, say at which input.
  Laid BY PROGRAM, IN A SANDBOX (cutbox-rows.mjs): the forced cells as the released guide's own fill.sh prints them over the translation d4380253b3767dff… (all of the seat's roots in one cut). By AI agents, Wed Nov 11 2026. No macro, syntax, notation, axiom, sorry.
-/
import Derived.Test.YthbdfibolgaapaaChecked
import GoSem.Claim
import GoSem.ClaimJoined
import GoSem.ClaimMapViews
import Derived.JoinedTies
import Derived.KernelRfl
namespace Go.Proofs.Ythbdfibolgaapaa
/- THE CELL 'sum', in the pinned program and in every row, IS THE sha256 OF THE DUMP (.gsa) THAT YthbdfibolgaapaaProg.lean LOADS. Nothing in Lean hashes anything: it is a label: what it is worth is what the hold of that sum in a sandbox is worth. -/
noncomputable def Try.pinned : Pinned := { name := "ythbdfibolgaapaa", sum := "d4380253b3767dffc755a400232c42779dc6cebbd4ad34869159a6e0800905c7", checked := Try.checked }
namespace Rows
def none {H : Type} : Left H := { results := [], args := [] }

/-- 'windowpanelaw05.TreeParents': WHATEVER THE INPUT: true; the input reads as it did. -/
def treeParentsSpec : ChangeSpec := { name := "treeParents", fn := fun _ => fun
  | [d] => { results := [.lit (.bool true)], args := [d] }
  | _ => none }
def treeParentsRow : OpenClaim := { program := "ythbdfibolgaapaa", sum := "d4380253b3767dffc755a400232c42779dc6cebbd4ad34869159a6e0800905c7", func := "windowpane/windowpanelaw05.TreeParents", spec := "treeParents", unfollowed := true, recurses := true, apart := false }
def TreeParentsSaid : Prop := treeParentsRow.holds Try.pinned (OpenSpec.ofChange treeParentsSpec)

/-- ITS FALSE NEIGHBOUR: 'it returns false'. Refute it at one input. -/
def treeParentsWrong : ChangeSpec := { name := "treeParents", fn := fun _ => fun
  | [d] => { results := [.lit (.bool false)], args := [d] }
  | _ => none }
def TreeParentsWrongFalsely : Prop := treeParentsRow.holds Try.pinned (OpenSpec.ofChange treeParentsWrong)

/-- 'windowpanelaw05.TreeNested': WHATEVER THE INPUT: true; the input reads as it did. -/
def treeNestedSpec : ChangeSpec := { name := "treeNested", fn := fun _ => fun
  | [d1, d2, d3] => { results := [.lit (.bool true)], args := [d1, d2, d3] }
  | _ => none }
def treeNestedRow : OpenClaim := { program := "ythbdfibolgaapaa", sum := "d4380253b3767dffc755a400232c42779dc6cebbd4ad34869159a6e0800905c7", func := "windowpane/windowpanelaw05.TreeNested", spec := "treeNested", unfollowed := true, recurses := true, apart := false }
def TreeNestedSaid : Prop := treeNestedRow.holds Try.pinned (OpenSpec.ofChange treeNestedSpec)

/-- ITS FALSE NEIGHBOUR: 'it returns false'. Refute it at one input. -/
def treeNestedWrong : ChangeSpec := { name := "treeNested", fn := fun _ => fun
  | [d1, d2, d3] => { results := [.lit (.bool false)], args := [d1, d2, d3] }
  | _ => none }
def TreeNestedWrongFalsely : Prop := treeNestedRow.holds Try.pinned (OpenSpec.ofChange treeNestedWrong)

/-- 'windowpanelaw05.TreeBeside': WHATEVER THE INPUT: true; the input reads as it did. -/
def treeBesideSpec : ChangeSpec := { name := "treeBeside", fn := fun _ => fun
  | [d1, d2] => { results := [.lit (.bool true)], args := [d1, d2] }
  | _ => none }
def treeBesideRow : OpenClaim := { program := "ythbdfibolgaapaa", sum := "d4380253b3767dffc755a400232c42779dc6cebbd4ad34869159a6e0800905c7", func := "windowpane/windowpanelaw05.TreeBeside", spec := "treeBeside", unfollowed := true, recurses := true, apart := false }
def TreeBesideSaid : Prop := treeBesideRow.holds Try.pinned (OpenSpec.ofChange treeBesideSpec)

/-- ITS FALSE NEIGHBOUR: 'it returns false'. Refute it at one input. -/
def treeBesideWrong : ChangeSpec := { name := "treeBeside", fn := fun _ => fun
  | [d1, d2] => { results := [.lit (.bool false)], args := [d1, d2] }
  | _ => none }
def TreeBesideWrongFalsely : Prop := treeBesideRow.holds Try.pinned (OpenSpec.ofChange treeBesideWrong)

/-- 'windowpanelaw05.TreeLess': WHATEVER THE INPUT: true; the input reads as it did. -/
def treeLessSpec : ChangeSpec := { name := "treeLess", fn := fun _ => fun
  | [d1, d2, d3] => { results := [.lit (.bool true)], args := [d1, d2, d3] }
  | _ => none }
def treeLessRow : OpenClaim := { program := "ythbdfibolgaapaa", sum := "d4380253b3767dffc755a400232c42779dc6cebbd4ad34869159a6e0800905c7", func := "windowpane/windowpanelaw05.TreeLess", spec := "treeLess", unfollowed := true, recurses := true, apart := false }
def TreeLessSaid : Prop := treeLessRow.holds Try.pinned (OpenSpec.ofChange treeLessSpec)

/-- ITS FALSE NEIGHBOUR: 'it returns false'. Refute it at one input. -/
def treeLessWrong : ChangeSpec := { name := "treeLess", fn := fun _ => fun
  | [d1, d2, d3] => { results := [.lit (.bool false)], args := [d1, d2, d3] }
  | _ => none }
def TreeLessWrongFalsely : Prop := treeLessRow.holds Try.pinned (OpenSpec.ofChange treeLessWrong)

/-- 'windowpanelaw05.TreeSame': WHATEVER THE INPUT: true; the input reads as it did. -/
def treeSameSpec : ChangeSpec := { name := "treeSame", fn := fun _ => fun
  | [d1, d2] => { results := [.lit (.bool true)], args := [d1, d2] }
  | _ => none }
def treeSameRow : OpenClaim := { program := "ythbdfibolgaapaa", sum := "d4380253b3767dffc755a400232c42779dc6cebbd4ad34869159a6e0800905c7", func := "windowpane/windowpanelaw05.TreeSame", spec := "treeSame", unfollowed := true, recurses := true, apart := false }
def TreeSameSaid : Prop := treeSameRow.holds Try.pinned (OpenSpec.ofChange treeSameSpec)

/-- ITS FALSE NEIGHBOUR: 'it returns false'. Refute it at one input. -/
def treeSameWrong : ChangeSpec := { name := "treeSame", fn := fun _ => fun
  | [d1, d2] => { results := [.lit (.bool false)], args := [d1, d2] }
  | _ => none }
def TreeSameWrongFalsely : Prop := treeSameRow.holds Try.pinned (OpenSpec.ofChange treeSameWrong)

/- THE SECOND FORM. 'bulk': how many values and letters a reading holds, each counted each time it is reached (what is shared counts as often as it is met; a slice's spare places count too). A statement '..UptoSaid' is the law's where the arguments, and the package variables that the reading takes, are together of bulk at most 1048576: NARROWER than '..Said'. Prove '..Said' where nothing that the law and all that it calls make is longer than what came in: it says more and counts as full. Else prove '..UptoSaid'. A law counts once. -/
mutual
def uptoBulk {H : Type} : DataW H → Nat
  | .lit (.string bytes) => bytes.length + 1
  | .lit _ => 1
  | .nil => 1
  | .ptr d => uptoBulk d + 1
  | .slice elems spare => uptoBulkAll elems + uptoBulkAll spare + 1
  | .agg parts => uptoBulkAll parts + 1
  | .iface _ d => uptoBulk d + 1
  | .map entries => uptoBulkEntries entries + 1
  | .held _ => 1
def uptoBulkAll {H : Type} : List (DataW H) → Nat
  | [] => 0
  | d :: r => uptoBulk d + uptoBulkAll r
def uptoBulkEntries {H : Type} : List (Lit × DataW H) → Nat
  | [] => 0
  | x :: r => uptoBulkEntry x + uptoBulkEntries r
def uptoBulkEntry {H : Type} : Lit × DataW H → Nat
  | (.string bytes, d) => bytes.length + uptoBulk d + 1
  | (_, d) => uptoBulk d + 1
 end
def uptoSmall : (H : Type) → List (DataW H) → Bool := fun _ ds => decide (uptoBulkAll ds ≤ 1048576)
def OpenSpec.upto (s : _root_.Go.ChangeSpec) : _root_.Go.OpenSpec := { _root_.Go.OpenSpec.ofChange s with cond := some uptoSmall }

/-- 'windowpanelaw05.TreeParents', WHERE WHAT IT READS IS OF BULK AT MOST 1048576: true; the input reads as it did. -/
def treeParentsUptoRow : OpenClaim := { program := "ythbdfibolgaapaa", sum := "d4380253b3767dffc755a400232c42779dc6cebbd4ad34869159a6e0800905c7", func := "windowpane/windowpanelaw05.TreeParents", spec := "treeParents", unfollowed := true, recurses := true, apart := false, narrowed := true }
def TreeParentsUptoSaid : Prop := treeParentsUptoRow.holds Try.pinned (OpenSpec.upto treeParentsSpec)

/-- 'windowpanelaw05.TreeNested', WHERE WHAT IT READS IS OF BULK AT MOST 1048576: true; the input reads as it did. -/
def treeNestedUptoRow : OpenClaim := { program := "ythbdfibolgaapaa", sum := "d4380253b3767dffc755a400232c42779dc6cebbd4ad34869159a6e0800905c7", func := "windowpane/windowpanelaw05.TreeNested", spec := "treeNested", unfollowed := true, recurses := true, apart := false, narrowed := true }
def TreeNestedUptoSaid : Prop := treeNestedUptoRow.holds Try.pinned (OpenSpec.upto treeNestedSpec)

/-- 'windowpanelaw05.TreeBeside', WHERE WHAT IT READS IS OF BULK AT MOST 1048576: true; the input reads as it did. -/
def treeBesideUptoRow : OpenClaim := { program := "ythbdfibolgaapaa", sum := "d4380253b3767dffc755a400232c42779dc6cebbd4ad34869159a6e0800905c7", func := "windowpane/windowpanelaw05.TreeBeside", spec := "treeBeside", unfollowed := true, recurses := true, apart := false, narrowed := true }
def TreeBesideUptoSaid : Prop := treeBesideUptoRow.holds Try.pinned (OpenSpec.upto treeBesideSpec)

/-- 'windowpanelaw05.TreeLess', WHERE WHAT IT READS IS OF BULK AT MOST 1048576: true; the input reads as it did. -/
def treeLessUptoRow : OpenClaim := { program := "ythbdfibolgaapaa", sum := "d4380253b3767dffc755a400232c42779dc6cebbd4ad34869159a6e0800905c7", func := "windowpane/windowpanelaw05.TreeLess", spec := "treeLess", unfollowed := true, recurses := true, apart := false, narrowed := true }
def TreeLessUptoSaid : Prop := treeLessUptoRow.holds Try.pinned (OpenSpec.upto treeLessSpec)

/-- 'windowpanelaw05.TreeSame', WHERE WHAT IT READS IS OF BULK AT MOST 1048576: true; the input reads as it did. -/
def treeSameUptoRow : OpenClaim := { program := "ythbdfibolgaapaa", sum := "d4380253b3767dffc755a400232c42779dc6cebbd4ad34869159a6e0800905c7", func := "windowpane/windowpanelaw05.TreeSame", spec := "treeSame", unfollowed := true, recurses := true, apart := false, narrowed := true }
def TreeSameUptoSaid : Prop := treeSameUptoRow.holds Try.pinned (OpenSpec.upto treeSameSpec)

end Rows
end Go.Proofs.Ythbdfibolgaapaa
