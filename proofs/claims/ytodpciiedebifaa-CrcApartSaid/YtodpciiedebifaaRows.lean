/-
  No cell of these rows narrows 'for every input' (looked for: loops, veiled, ifaces, maps, wideKeys, modest, calm, conditions, laid).
  DERIVED. THE GIVEN ROWS OF THIS SEAT. 7 by the template 'for every input the law returns true; each argument reads behind the call as it read before'; 0 by the template 'total and deterministic' (their statements: YtodpciiedebifaaTotals.lean).
  GIVEN WITH THE SEED: the statements are not yours to turn. If you find one false, say at which input.
  Laid BY PROGRAM, IN A SANDBOX (cutbox-rows.mjs): the forced cells as the released guide's own fill.sh prints them over the translation 481357963a6c4d1e… (all of the seat's roots in one cut). By AI agents, Wed Nov 11 2026. No macro, syntax, notation, axiom, sorry.
-/
import Derived.Test.YtodpciiedebifaaChecked
import GoSem.Claim
import GoSem.ClaimJoined
import GoSem.ClaimMapViews
import Derived.JoinedTies
import Derived.KernelRfl
namespace Go.Proofs.Ytodpciiedebifaa
/- THE CELL 'sum', in the pinned program and in every row, IS THE sha256 OF THE DUMP (.gsa) THAT YtodpciiedebifaaProg.lean LOADS. Nothing in Lean hashes anything: it is a label: what it is worth is what the hold of that sum in a sandbox is worth. -/
noncomputable def Try.pinned : Pinned := { name := "ytodpciiedebifaa", sum := "481357963a6c4d1e317d6f659606abe6cabb0fcbdd658ae1bc5bef69207d20de", checked := Try.checked }
namespace Rows
def none {H : Type} : Left H := { results := [], args := [] }

/-- 'windowpanelaw03.CrcDiffers': WHATEVER THE INPUT: true; the input reads as it did. -/
def crcDiffersSpec : ChangeSpec := { name := "crcDiffers", fn := fun _ => fun
  | [d1, d2] => { results := [.lit (.bool true)], args := [d1, d2] }
  | _ => none }
def crcDiffersRow : OpenClaim := { program := "ytodpciiedebifaa", sum := "481357963a6c4d1e317d6f659606abe6cabb0fcbdd658ae1bc5bef69207d20de", func := "windowpane/windowpanelaw03.CrcDiffers", spec := "crcDiffers", recurses := true, apart := false }
def CrcDiffersSaid : Prop := crcDiffersRow.holds Try.pinned (OpenSpec.ofChange crcDiffersSpec)

/-- ITS FALSE NEIGHBOUR: 'it returns false'. Refute it at one input. -/
def crcDiffersWrong : ChangeSpec := { name := "crcDiffers", fn := fun _ => fun
  | [d1, d2] => { results := [.lit (.bool false)], args := [d1, d2] }
  | _ => none }
def CrcDiffersWrongFalsely : Prop := crcDiffersRow.holds Try.pinned (OpenSpec.ofChange crcDiffersWrong)

/-- 'windowpanelaw03.CrcSums': WHATEVER THE INPUT: true; the input reads as it did. -/
def crcSumsSpec : ChangeSpec := { name := "crcSums", fn := fun _ => fun
  | [d] => { results := [.lit (.bool true)], args := [d] }
  | _ => none }
def crcSumsRow : OpenClaim := { program := "ytodpciiedebifaa", sum := "481357963a6c4d1e317d6f659606abe6cabb0fcbdd658ae1bc5bef69207d20de", func := "windowpane/windowpanelaw03.CrcSums", spec := "crcSums", unfollowed := true, recurses := true, apart := false }
def CrcSumsSaid : Prop := crcSumsRow.holds Try.pinned (OpenSpec.ofChange crcSumsSpec)

/-- ITS FALSE NEIGHBOUR: 'it returns false'. Refute it at one input. -/
def crcSumsWrong : ChangeSpec := { name := "crcSums", fn := fun _ => fun
  | [d] => { results := [.lit (.bool false)], args := [d] }
  | _ => none }
def CrcSumsWrongFalsely : Prop := crcSumsRow.holds Try.pinned (OpenSpec.ofChange crcSumsWrong)

/-- 'windowpanelaw03.CrcWholes': WHATEVER THE INPUT: true; the input reads as it did. -/
def crcWholesSpec : ChangeSpec := { name := "crcWholes", fn := fun _ => fun
  | [d] => { results := [.lit (.bool true)], args := [d] }
  | _ => none }
def crcWholesRow : OpenClaim := { program := "ytodpciiedebifaa", sum := "481357963a6c4d1e317d6f659606abe6cabb0fcbdd658ae1bc5bef69207d20de", func := "windowpane/windowpanelaw03.CrcWholes", spec := "crcWholes", unfollowed := true, recurses := true, apart := false }
def CrcWholesSaid : Prop := crcWholesRow.holds Try.pinned (OpenSpec.ofChange crcWholesSpec)

/-- ITS FALSE NEIGHBOUR: 'it returns false'. Refute it at one input. -/
def crcWholesWrong : ChangeSpec := { name := "crcWholes", fn := fun _ => fun
  | [d] => { results := [.lit (.bool false)], args := [d] }
  | _ => none }
def CrcWholesWrongFalsely : Prop := crcWholesRow.holds Try.pinned (OpenSpec.ofChange crcWholesWrong)

/-- 'windowpanelaw03.CrcApart': WHATEVER THE INPUT: true; the input reads as it did. -/
def crcApartSpec : ChangeSpec := { name := "crcApart", fn := fun _ => fun
  | [d1, d2] => { results := [.lit (.bool true)], args := [d1, d2] }
  | _ => none }
def crcApartRow : OpenClaim := { program := "ytodpciiedebifaa", sum := "481357963a6c4d1e317d6f659606abe6cabb0fcbdd658ae1bc5bef69207d20de", func := "windowpane/windowpanelaw03.CrcApart", spec := "crcApart", unfollowed := true, recurses := true, apart := false }
def CrcApartSaid : Prop := crcApartRow.holds Try.pinned (OpenSpec.ofChange crcApartSpec)

/-- ITS FALSE NEIGHBOUR: 'it returns false'. Refute it at one input. -/
def crcApartWrong : ChangeSpec := { name := "crcApart", fn := fun _ => fun
  | [d1, d2] => { results := [.lit (.bool false)], args := [d1, d2] }
  | _ => none }
def CrcApartWrongFalsely : Prop := crcApartRow.holds Try.pinned (OpenSpec.ofChange crcApartWrong)

/-- 'windowpanelaw03.CrcRow': WHATEVER THE INPUT: true; the input reads as it did. -/
def crcRowSpec : ChangeSpec := { name := "crcRow", fn := fun _ => fun
  | [d1, d2, d3] => { results := [.lit (.bool true)], args := [d1, d2, d3] }
  | _ => none }
def crcRowRow : OpenClaim := { program := "ytodpciiedebifaa", sum := "481357963a6c4d1e317d6f659606abe6cabb0fcbdd658ae1bc5bef69207d20de", func := "windowpane/windowpanelaw03.CrcRow", spec := "crcRow", unfollowed := true, recurses := true, apart := false }
def CrcRowSaid : Prop := crcRowRow.holds Try.pinned (OpenSpec.ofChange crcRowSpec)

/-- ITS FALSE NEIGHBOUR: 'it returns false'. Refute it at one input. -/
def crcRowWrong : ChangeSpec := { name := "crcRow", fn := fun _ => fun
  | [d1, d2, d3] => { results := [.lit (.bool false)], args := [d1, d2, d3] }
  | _ => none }
def CrcRowWrongFalsely : Prop := crcRowRow.holds Try.pinned (OpenSpec.ofChange crcRowWrong)

/-- 'windowpanelaw03.CrcNoughts': WHATEVER THE INPUT: true; the input reads as it did. -/
def crcNoughtsSpec : ChangeSpec := { name := "crcNoughts", fn := fun _ => fun
  | [d] => { results := [.lit (.bool true)], args := [d] }
  | _ => none }
def crcNoughtsRow : OpenClaim := { program := "ytodpciiedebifaa", sum := "481357963a6c4d1e317d6f659606abe6cabb0fcbdd658ae1bc5bef69207d20de", func := "windowpane/windowpanelaw03.CrcNoughts", spec := "crcNoughts", unfollowed := true, recurses := true, apart := false }
def CrcNoughtsSaid : Prop := crcNoughtsRow.holds Try.pinned (OpenSpec.ofChange crcNoughtsSpec)

/-- ITS FALSE NEIGHBOUR: 'it returns false'. Refute it at one input. -/
def crcNoughtsWrong : ChangeSpec := { name := "crcNoughts", fn := fun _ => fun
  | [d] => { results := [.lit (.bool false)], args := [d] }
  | _ => none }
def CrcNoughtsWrongFalsely : Prop := crcNoughtsRow.holds Try.pinned (OpenSpec.ofChange crcNoughtsWrong)

/-- 'windowpanelaw03.CrcFew': WHATEVER THE INPUT: true; the input reads as it did. -/
def crcFewSpec : ChangeSpec := { name := "crcFew", fn := fun _ => fun
  | [d1, d2, d3, d4] => { results := [.lit (.bool true)], args := [d1, d2, d3, d4] }
  | _ => none }
def crcFewRow : OpenClaim := { program := "ytodpciiedebifaa", sum := "481357963a6c4d1e317d6f659606abe6cabb0fcbdd658ae1bc5bef69207d20de", func := "windowpane/windowpanelaw03.CrcFew", spec := "crcFew", unfollowed := true, recurses := true, apart := false }
def CrcFewSaid : Prop := crcFewRow.holds Try.pinned (OpenSpec.ofChange crcFewSpec)

/-- ITS FALSE NEIGHBOUR: 'it returns false'. Refute it at one input. -/
def crcFewWrong : ChangeSpec := { name := "crcFew", fn := fun _ => fun
  | [d1, d2, d3, d4] => { results := [.lit (.bool false)], args := [d1, d2, d3, d4] }
  | _ => none }
def CrcFewWrongFalsely : Prop := crcFewRow.holds Try.pinned (OpenSpec.ofChange crcFewWrong)

/- THE SECOND FORM. 'bulk': how many values and letters a reading holds, each counted each time it is reached (what is shared counts as often as it is met; a slice's spare places count too). A statement '..UptoSaid' is the law's where the arguments, and the package variables that the reading takes, are together of bulk at most 1048576: NARROWER than '..Said'. Prove '..Said' where nothing that the law and all that it calls make is longer than what came in: it says more and counts as full. Else prove '..UptoSaid'. A law counts once. -/
mutual
def uptoBulk {H : Type} : DataW H → Nat
  | .lit (.string bytes) => bytes.length + 1
  | .lit _ => 1
  | .nil => 1
  | .ptr d => uptoBulk d + 1
  | .slice elems spare => uptoBulkAll elems + uptoBulkAll spare + 1
  | .agg parts => uptoBulkAll parts + 1
  | .iface _ d => uptoBulk d + 1
  | .map entries => uptoBulkEntries entries + 1
  | .held _ => 1
def uptoBulkAll {H : Type} : List (DataW H) → Nat
  | [] => 0
  | d :: r => uptoBulk d + uptoBulkAll r
def uptoBulkEntries {H : Type} : List (Lit × DataW H) → Nat
  | [] => 0
  | x :: r => uptoBulkEntry x + uptoBulkEntries r
def uptoBulkEntry {H : Type} : Lit × DataW H → Nat
  | (.string bytes, d) => bytes.length + uptoBulk d + 1
  | (_, d) => uptoBulk d + 1
 end
def uptoSmall : (H : Type) → List (DataW H) → Bool := fun _ ds => decide (uptoBulkAll ds ≤ 1048576)
def OpenSpec.upto (s : _root_.Go.ChangeSpec) : _root_.Go.OpenSpec := { _root_.Go.OpenSpec.ofChange s with cond := some uptoSmall }

/-- 'windowpanelaw03.CrcDiffers', WHERE WHAT IT READS IS OF BULK AT MOST 1048576: true; the input reads as it did. -/
def crcDiffersUptoRow : OpenClaim := { program := "ytodpciiedebifaa", sum := "481357963a6c4d1e317d6f659606abe6cabb0fcbdd658ae1bc5bef69207d20de", func := "windowpane/windowpanelaw03.CrcDiffers", spec := "crcDiffers", recurses := true, apart := false, narrowed := true }
def CrcDiffersUptoSaid : Prop := crcDiffersUptoRow.holds Try.pinned (OpenSpec.upto crcDiffersSpec)

/-- 'windowpanelaw03.CrcSums', WHERE WHAT IT READS IS OF BULK AT MOST 1048576: true; the input reads as it did. -/
def crcSumsUptoRow : OpenClaim := { program := "ytodpciiedebifaa", sum := "481357963a6c4d1e317d6f659606abe6cabb0fcbdd658ae1bc5bef69207d20de", func := "windowpane/windowpanelaw03.CrcSums", spec := "crcSums", unfollowed := true, recurses := true, apart := false, narrowed := true }
def CrcSumsUptoSaid : Prop := crcSumsUptoRow.holds Try.pinned (OpenSpec.upto crcSumsSpec)

/-- 'windowpanelaw03.CrcWholes', WHERE WHAT IT READS IS OF BULK AT MOST 1048576: true; the input reads as it did. -/
def crcWholesUptoRow : OpenClaim := { program := "ytodpciiedebifaa", sum := "481357963a6c4d1e317d6f659606abe6cabb0fcbdd658ae1bc5bef69207d20de", func := "windowpane/windowpanelaw03.CrcWholes", spec := "crcWholes", unfollowed := true, recurses := true, apart := false, narrowed := true }
def CrcWholesUptoSaid : Prop := crcWholesUptoRow.holds Try.pinned (OpenSpec.upto crcWholesSpec)

/-- 'windowpanelaw03.CrcApart', WHERE WHAT IT READS IS OF BULK AT MOST 1048576: true; the input reads as it did. -/
def crcApartUptoRow : OpenClaim := { program := "ytodpciiedebifaa", sum := "481357963a6c4d1e317d6f659606abe6cabb0fcbdd658ae1bc5bef69207d20de", func := "windowpane/windowpanelaw03.CrcApart", spec := "crcApart", unfollowed := true, recurses := true, apart := false, narrowed := true }
def CrcApartUptoSaid : Prop := crcApartUptoRow.holds Try.pinned (OpenSpec.upto crcApartSpec)

/-- 'windowpanelaw03.CrcRow', WHERE WHAT IT READS IS OF BULK AT MOST 1048576: true; the input reads as it did. -/
def crcRowUptoRow : OpenClaim := { program := "ytodpciiedebifaa", sum := "481357963a6c4d1e317d6f659606abe6cabb0fcbdd658ae1bc5bef69207d20de", func := "windowpane/windowpanelaw03.CrcRow", spec := "crcRow", unfollowed := true, recurses := true, apart := false, narrowed := true }
def CrcRowUptoSaid : Prop := crcRowUptoRow.holds Try.pinned (OpenSpec.upto crcRowSpec)

/-- 'windowpanelaw03.CrcNoughts', WHERE WHAT IT READS IS OF BULK AT MOST 1048576: true; the input reads as it did. -/
def crcNoughtsUptoRow : OpenClaim := { program := "ytodpciiedebifaa", sum := "481357963a6c4d1e317d6f659606abe6cabb0fcbdd658ae1bc5bef69207d20de", func := "windowpane/windowpanelaw03.CrcNoughts", spec := "crcNoughts", unfollowed := true, recurses := true, apart := false, narrowed := true }
def CrcNoughtsUptoSaid : Prop := crcNoughtsUptoRow.holds Try.pinned (OpenSpec.upto crcNoughtsSpec)

/-- 'windowpanelaw03.CrcFew', WHERE WHAT IT READS IS OF BULK AT MOST 1048576: true; the input reads as it did. -/
def crcFewUptoRow : OpenClaim := { program := "ytodpciiedebifaa", sum := "481357963a6c4d1e317d6f659606abe6cabb0fcbdd658ae1bc5bef69207d20de", func := "windowpane/windowpanelaw03.CrcFew", spec := "crcFew", unfollowed := true, recurses := true, apart := false, narrowed := true }
def CrcFewUptoSaid : Prop := crcFewUptoRow.holds Try.pinned (OpenSpec.upto crcFewSpec)

end Rows
end Go.Proofs.Ytodpciiedebifaa
