/-
  No cell of these rows narrows 'for every input' (looked for: loops, veiled, ifaces, maps, wideKeys, modest, calm, conditions, laid).
  DERIVED. THE GIVEN ROWS OF THIS SEAT. 12 by the template 'for every input the law returns true; each argument reads behind the call as it read before'; 0 by the template 'total and deterministic' (their statements: YthijicpfihpkfaaTotals.lean).
  GIVEN WITH THE SEED: the statements are not yours to turn. If you find one false, say at which input.
  Laid BY PROGRAM, IN A SANDBOX (cutbox-rows.mjs): the forced cells as the released guide's own fill.sh prints them over the translation e0f56bcaa0bf9f8b… (all of the seat's roots in one cut). By AI agents, Wed Nov 11 2026. No macro, syntax, notation, axiom, sorry.
-/
import Derived.Test.YthijicpfihpkfaaChecked
import GoSem.Claim
import GoSem.ClaimJoined
import GoSem.ClaimMapViews
import Derived.JoinedTies
import Derived.KernelRfl
namespace Go.Proofs.Ythijicpfihpkfaa
/- THE CELL 'sum', in the pinned program and in every row, IS THE sha256 OF THE DUMP (.gsa) THAT YthijicpfihpkfaaProg.lean LOADS. Nothing in Lean hashes anything: it is a label: what it is worth is what the hold of that sum in a sandbox is worth. -/
noncomputable def Try.pinned : Pinned := { name := "ythijicpfihpkfaa", sum := "e0f56bcaa0bf9f8b5170c6802a8d5a8504ececc4c83f2e3ea626ca9e64f5b3cd", checked := Try.checked }
namespace Rows
def none {H : Type} : Left H := { results := [], args := [] }

/-- 'windowpanelaw25.PacketFlips': WHATEVER THE INPUT: true; the input reads as it did. -/
def packetFlipsSpec : ChangeSpec := { name := "packetFlips", fn := fun _ => fun
  | [d1, d2] => { results := [.lit (.bool true)], args := [d1, d2] }
  | _ => none }
def packetFlipsRow : OpenClaim := { program := "ythijicpfihpkfaa", sum := "e0f56bcaa0bf9f8b5170c6802a8d5a8504ececc4c83f2e3ea626ca9e64f5b3cd", func := "windowpane/windowpanelaw25.PacketFlips", spec := "packetFlips", apart := false }
def PacketFlipsSaid : Prop := packetFlipsRow.holds Try.pinned (OpenSpec.ofChange packetFlipsSpec)

/-- ITS FALSE NEIGHBOUR: 'it returns false'. Refute it at one input. -/
def packetFlipsWrong : ChangeSpec := { name := "packetFlips", fn := fun _ => fun
  | [d1, d2] => { results := [.lit (.bool false)], args := [d1, d2] }
  | _ => none }
def PacketFlipsWrongFalsely : Prop := packetFlipsRow.holds Try.pinned (OpenSpec.ofChange packetFlipsWrong)

/-- 'windowpanelaw02.WordsNumbers': WHATEVER THE INPUT: true; the input reads as it did. -/
def wordsNumbersSpec : ChangeSpec := { name := "wordsNumbers", fn := fun _ => fun
  | [d1, d2] => { results := [.lit (.bool true)], args := [d1, d2] }
  | _ => none }
def wordsNumbersRow : OpenClaim := { program := "ythijicpfihpkfaa", sum := "e0f56bcaa0bf9f8b5170c6802a8d5a8504ececc4c83f2e3ea626ca9e64f5b3cd", func := "windowpane/windowpanelaw02.WordsNumbers", spec := "wordsNumbers", unfollowed := true, recurses := true, apart := false }
def WordsNumbersSaid : Prop := wordsNumbersRow.holds Try.pinned (OpenSpec.ofChange wordsNumbersSpec)

/-- ITS FALSE NEIGHBOUR: 'it returns false'. Refute it at one input. -/
def wordsNumbersWrong : ChangeSpec := { name := "wordsNumbers", fn := fun _ => fun
  | [d1, d2] => { results := [.lit (.bool false)], args := [d1, d2] }
  | _ => none }
def WordsNumbersWrongFalsely : Prop := wordsNumbersRow.holds Try.pinned (OpenSpec.ofChange wordsNumbersWrong)

/-- 'windowpanelaw02.WordsOne': WHATEVER THE INPUT: true; the input reads as it did. -/
def wordsOneSpec : ChangeSpec := { name := "wordsOne", fn := fun _ => fun
  | [d1, d2, d3] => { results := [.lit (.bool true)], args := [d1, d2, d3] }
  | _ => none }
def wordsOneRow : OpenClaim := { program := "ythijicpfihpkfaa", sum := "e0f56bcaa0bf9f8b5170c6802a8d5a8504ececc4c83f2e3ea626ca9e64f5b3cd", func := "windowpane/windowpanelaw02.WordsOne", spec := "wordsOne", unfollowed := true, recurses := true, apart := false }
def WordsOneSaid : Prop := wordsOneRow.holds Try.pinned (OpenSpec.ofChange wordsOneSpec)

/-- ITS FALSE NEIGHBOUR: 'it returns false'. Refute it at one input. -/
def wordsOneWrong : ChangeSpec := { name := "wordsOne", fn := fun _ => fun
  | [d1, d2, d3] => { results := [.lit (.bool false)], args := [d1, d2, d3] }
  | _ => none }
def WordsOneWrongFalsely : Prop := wordsOneRow.holds Try.pinned (OpenSpec.ofChange wordsOneWrong)

/-- 'windowpanelaw02.WordsApart': WHATEVER THE INPUT: true; the input reads as it did. -/
def wordsApartSpec : ChangeSpec := { name := "wordsApart", fn := fun _ => fun
  | [d1, d2] => { results := [.lit (.bool true)], args := [d1, d2] }
  | _ => none }
def wordsApartRow : OpenClaim := { program := "ythijicpfihpkfaa", sum := "e0f56bcaa0bf9f8b5170c6802a8d5a8504ececc4c83f2e3ea626ca9e64f5b3cd", func := "windowpane/windowpanelaw02.WordsApart", spec := "wordsApart", unfollowed := true, recurses := true, apart := false }
def WordsApartSaid : Prop := wordsApartRow.holds Try.pinned (OpenSpec.ofChange wordsApartSpec)

/-- ITS FALSE NEIGHBOUR: 'it returns false'. Refute it at one input. -/
def wordsApartWrong : ChangeSpec := { name := "wordsApart", fn := fun _ => fun
  | [d1, d2] => { results := [.lit (.bool false)], args := [d1, d2] }
  | _ => none }
def WordsApartWrongFalsely : Prop := wordsApartRow.holds Try.pinned (OpenSpec.ofChange wordsApartWrong)

/-- 'windowpanelaw02.WordsFolded': WHATEVER THE INPUT: true; the input reads as it did. -/
def wordsFoldedSpec : ChangeSpec := { name := "wordsFolded", fn := fun _ => fun
  | [d1, d2, d3] => { results := [.lit (.bool true)], args := [d1, d2, d3] }
  | _ => none }
def wordsFoldedRow : OpenClaim := { program := "ythijicpfihpkfaa", sum := "e0f56bcaa0bf9f8b5170c6802a8d5a8504ececc4c83f2e3ea626ca9e64f5b3cd", func := "windowpane/windowpanelaw02.WordsFolded", spec := "wordsFolded", unfollowed := true, recurses := true, apart := false }
def WordsFoldedSaid : Prop := wordsFoldedRow.holds Try.pinned (OpenSpec.ofChange wordsFoldedSpec)

/-- ITS FALSE NEIGHBOUR: 'it returns false'. Refute it at one input. -/
def wordsFoldedWrong : ChangeSpec := { name := "wordsFolded", fn := fun _ => fun
  | [d1, d2, d3] => { results := [.lit (.bool false)], args := [d1, d2, d3] }
  | _ => none }
def WordsFoldedWrongFalsely : Prop := wordsFoldedRow.holds Try.pinned (OpenSpec.ofChange wordsFoldedWrong)

/-- 'windowpanelaw25.PacketSeals': WHATEVER THE INPUT: true; the input reads as it did. -/
def packetSealsSpec : ChangeSpec := { name := "packetSeals", fn := fun _ => fun
  | [d] => { results := [.lit (.bool true)], args := [d] }
  | _ => none }
def packetSealsRow : OpenClaim := { program := "ythijicpfihpkfaa", sum := "e0f56bcaa0bf9f8b5170c6802a8d5a8504ececc4c83f2e3ea626ca9e64f5b3cd", func := "windowpane/windowpanelaw25.PacketSeals", spec := "packetSeals", unfollowed := true, recurses := true, apart := false }
def PacketSealsSaid : Prop := packetSealsRow.holds Try.pinned (OpenSpec.ofChange packetSealsSpec)

/-- ITS FALSE NEIGHBOUR: 'it returns false'. Refute it at one input. -/
def packetSealsWrong : ChangeSpec := { name := "packetSeals", fn := fun _ => fun
  | [d] => { results := [.lit (.bool false)], args := [d] }
  | _ => none }
def PacketSealsWrongFalsely : Prop := packetSealsRow.holds Try.pinned (OpenSpec.ofChange packetSealsWrong)

/-- 'windowpanelaw02.WordsStand': WHATEVER THE INPUT: true; the input reads as it did. -/
def wordsStandSpec : ChangeSpec := { name := "wordsStand", fn := fun _ => fun
  | [d1, d2] => { results := [.lit (.bool true)], args := [d1, d2] }
  | _ => none }
def wordsStandRow : OpenClaim := { program := "ythijicpfihpkfaa", sum := "e0f56bcaa0bf9f8b5170c6802a8d5a8504ececc4c83f2e3ea626ca9e64f5b3cd", func := "windowpane/windowpanelaw02.WordsStand", spec := "wordsStand", unfollowed := true, recurses := true, apart := false }
def WordsStandSaid : Prop := wordsStandRow.holds Try.pinned (OpenSpec.ofChange wordsStandSpec)

/-- ITS FALSE NEIGHBOUR: 'it returns false'. Refute it at one input. -/
def wordsStandWrong : ChangeSpec := { name := "wordsStand", fn := fun _ => fun
  | [d1, d2] => { results := [.lit (.bool false)], args := [d1, d2] }
  | _ => none }
def WordsStandWrongFalsely : Prop := wordsStandRow.holds Try.pinned (OpenSpec.ofChange wordsStandWrong)

/-- 'windowpanelaw02.WordsRow': WHATEVER THE INPUT: true; the input reads as it did. -/
def wordsRowSpec : ChangeSpec := { name := "wordsRow", fn := fun _ => fun
  | [d1, d2] => { results := [.lit (.bool true)], args := [d1, d2] }
  | _ => none }
def wordsRowRow : OpenClaim := { program := "ythijicpfihpkfaa", sum := "e0f56bcaa0bf9f8b5170c6802a8d5a8504ececc4c83f2e3ea626ca9e64f5b3cd", func := "windowpane/windowpanelaw02.WordsRow", spec := "wordsRow", unfollowed := true, recurses := true, apart := false }
def WordsRowSaid : Prop := wordsRowRow.holds Try.pinned (OpenSpec.ofChange wordsRowSpec)

/-- ITS FALSE NEIGHBOUR: 'it returns false'. Refute it at one input. -/
def wordsRowWrong : ChangeSpec := { name := "wordsRow", fn := fun _ => fun
  | [d1, d2] => { results := [.lit (.bool false)], args := [d1, d2] }
  | _ => none }
def WordsRowWrongFalsely : Prop := wordsRowRow.holds Try.pinned (OpenSpec.ofChange wordsRowWrong)

/-- 'windowpanelaw25.PacketOpens': WHATEVER THE INPUT: true; the input reads as it did. -/
def packetOpensSpec : ChangeSpec := { name := "packetOpens", fn := fun _ => fun
  | [d] => { results := [.lit (.bool true)], args := [d] }
  | _ => none }
def packetOpensRow : OpenClaim := { program := "ythijicpfihpkfaa", sum := "e0f56bcaa0bf9f8b5170c6802a8d5a8504ececc4c83f2e3ea626ca9e64f5b3cd", func := "windowpane/windowpanelaw25.PacketOpens", spec := "packetOpens", unfollowed := true, recurses := true, apart := false }
def PacketOpensSaid : Prop := packetOpensRow.holds Try.pinned (OpenSpec.ofChange packetOpensSpec)

/-- ITS FALSE NEIGHBOUR: 'it returns false'. Refute it at one input. -/
def packetOpensWrong : ChangeSpec := { name := "packetOpens", fn := fun _ => fun
  | [d] => { results := [.lit (.bool false)], args := [d] }
  | _ => none }
def PacketOpensWrongFalsely : Prop := packetOpensRow.holds Try.pinned (OpenSpec.ofChange packetOpensWrong)

/-- 'windowpanelaw25.PacketBack': WHATEVER THE INPUT: true; the input reads as it did. -/
def packetBackSpec : ChangeSpec := { name := "packetBack", fn := fun _ => fun
  | [d1, d2] => { results := [.lit (.bool true)], args := [d1, d2] }
  | _ => none }
def packetBackRow : OpenClaim := { program := "ythijicpfihpkfaa", sum := "e0f56bcaa0bf9f8b5170c6802a8d5a8504ececc4c83f2e3ea626ca9e64f5b3cd", func := "windowpane/windowpanelaw25.PacketBack", spec := "packetBack", unfollowed := true, recurses := true, apart := false }
def PacketBackSaid : Prop := packetBackRow.holds Try.pinned (OpenSpec.ofChange packetBackSpec)

/-- ITS FALSE NEIGHBOUR: 'it returns false'. Refute it at one input. -/
def packetBackWrong : ChangeSpec := { name := "packetBack", fn := fun _ => fun
  | [d1, d2] => { results := [.lit (.bool false)], args := [d1, d2] }
  | _ => none }
def PacketBackWrongFalsely : Prop := packetBackRow.holds Try.pinned (OpenSpec.ofChange packetBackWrong)

/-- 'windowpanelaw25.PacketSpoilt': WHATEVER THE INPUT: true; the input reads as it did. -/
def packetSpoiltSpec : ChangeSpec := { name := "packetSpoilt", fn := fun _ => fun
  | [d1, d2, d3, d4] => { results := [.lit (.bool true)], args := [d1, d2, d3, d4] }
  | _ => none }
def packetSpoiltRow : OpenClaim := { program := "ythijicpfihpkfaa", sum := "e0f56bcaa0bf9f8b5170c6802a8d5a8504ececc4c83f2e3ea626ca9e64f5b3cd", func := "windowpane/windowpanelaw25.PacketSpoilt", spec := "packetSpoilt", unfollowed := true, recurses := true, apart := false }
def PacketSpoiltSaid : Prop := packetSpoiltRow.holds Try.pinned (OpenSpec.ofChange packetSpoiltSpec)

/-- ITS FALSE NEIGHBOUR: 'it returns false'. Refute it at one input. -/
def packetSpoiltWrong : ChangeSpec := { name := "packetSpoilt", fn := fun _ => fun
  | [d1, d2, d3, d4] => { results := [.lit (.bool false)], args := [d1, d2, d3, d4] }
  | _ => none }
def PacketSpoiltWrongFalsely : Prop := packetSpoiltRow.holds Try.pinned (OpenSpec.ofChange packetSpoiltWrong)

/-- 'windowpanelaw25.PacketRest': WHATEVER THE INPUT: true; the input reads as it did. -/
def packetRestSpec : ChangeSpec := { name := "packetRest", fn := fun _ => fun
  | [d1, d2, d3] => { results := [.lit (.bool true)], args := [d1, d2, d3] }
  | _ => none }
def packetRestRow : OpenClaim := { program := "ythijicpfihpkfaa", sum := "e0f56bcaa0bf9f8b5170c6802a8d5a8504ececc4c83f2e3ea626ca9e64f5b3cd", func := "windowpane/windowpanelaw25.PacketRest", spec := "packetRest", unfollowed := true, recurses := true, apart := false }
def PacketRestSaid : Prop := packetRestRow.holds Try.pinned (OpenSpec.ofChange packetRestSpec)

/-- ITS FALSE NEIGHBOUR: 'it returns false'. Refute it at one input. -/
def packetRestWrong : ChangeSpec := { name := "packetRest", fn := fun _ => fun
  | [d1, d2, d3] => { results := [.lit (.bool false)], args := [d1, d2, d3] }
  | _ => none }
def PacketRestWrongFalsely : Prop := packetRestRow.holds Try.pinned (OpenSpec.ofChange packetRestWrong)

/- THE SECOND FORM. 'bulk': how many values and letters a reading holds, each counted each time it is reached (what is shared counts as often as it is met; a slice's spare places count too). A statement '..UptoSaid' is the law's where the arguments, and the package variables that the reading takes, are together of bulk at most 1048576: NARROWER than '..Said'. Prove '..Said' where nothing that the law and all that it calls make is longer than what came in: it says more and counts as full. Else prove '..UptoSaid'. A law counts once. -/
mutual
def uptoBulk {H : Type} : DataW H → Nat
  | .lit (.string bytes) => bytes.length + 1
  | .lit _ => 1
  | .nil => 1
  | .ptr d => uptoBulk d + 1
  | .slice elems spare => uptoBulkAll elems + uptoBulkAll spare + 1
  | .agg parts => uptoBulkAll parts + 1
  | .iface _ d => uptoBulk d + 1
  | .map entries => uptoBulkEntries entries + 1
  | .held _ => 1
def uptoBulkAll {H : Type} : List (DataW H) → Nat
  | [] => 0
  | d :: r => uptoBulk d + uptoBulkAll r
def uptoBulkEntries {H : Type} : List (Lit × DataW H) → Nat
  | [] => 0
  | x :: r => uptoBulkEntry x + uptoBulkEntries r
def uptoBulkEntry {H : Type} : Lit × DataW H → Nat
  | (.string bytes, d) => bytes.length + uptoBulk d + 1
  | (_, d) => uptoBulk d + 1
 end
def uptoSmall : (H : Type) → List (DataW H) → Bool := fun _ ds => decide (uptoBulkAll ds ≤ 1048576)
def OpenSpec.upto (s : _root_.Go.ChangeSpec) : _root_.Go.OpenSpec := { _root_.Go.OpenSpec.ofChange s with cond := some uptoSmall }

/-- 'windowpanelaw25.PacketFlips', WHERE WHAT IT READS IS OF BULK AT MOST 1048576: true; the input reads as it did. -/
def packetFlipsUptoRow : OpenClaim := { program := "ythijicpfihpkfaa", sum := "e0f56bcaa0bf9f8b5170c6802a8d5a8504ececc4c83f2e3ea626ca9e64f5b3cd", func := "windowpane/windowpanelaw25.PacketFlips", spec := "packetFlips", apart := false, narrowed := true }
def PacketFlipsUptoSaid : Prop := packetFlipsUptoRow.holds Try.pinned (OpenSpec.upto packetFlipsSpec)

/-- 'windowpanelaw02.WordsNumbers', WHERE WHAT IT READS IS OF BULK AT MOST 1048576: true; the input reads as it did. -/
def wordsNumbersUptoRow : OpenClaim := { program := "ythijicpfihpkfaa", sum := "e0f56bcaa0bf9f8b5170c6802a8d5a8504ececc4c83f2e3ea626ca9e64f5b3cd", func := "windowpane/windowpanelaw02.WordsNumbers", spec := "wordsNumbers", unfollowed := true, recurses := true, apart := false, narrowed := true }
def WordsNumbersUptoSaid : Prop := wordsNumbersUptoRow.holds Try.pinned (OpenSpec.upto wordsNumbersSpec)

/-- 'windowpanelaw02.WordsOne', WHERE WHAT IT READS IS OF BULK AT MOST 1048576: true; the input reads as it did. -/
def wordsOneUptoRow : OpenClaim := { program := "ythijicpfihpkfaa", sum := "e0f56bcaa0bf9f8b5170c6802a8d5a8504ececc4c83f2e3ea626ca9e64f5b3cd", func := "windowpane/windowpanelaw02.WordsOne", spec := "wordsOne", unfollowed := true, recurses := true, apart := false, narrowed := true }
def WordsOneUptoSaid : Prop := wordsOneUptoRow.holds Try.pinned (OpenSpec.upto wordsOneSpec)

/-- 'windowpanelaw02.WordsApart', WHERE WHAT IT READS IS OF BULK AT MOST 1048576: true; the input reads as it did. -/
def wordsApartUptoRow : OpenClaim := { program := "ythijicpfihpkfaa", sum := "e0f56bcaa0bf9f8b5170c6802a8d5a8504ececc4c83f2e3ea626ca9e64f5b3cd", func := "windowpane/windowpanelaw02.WordsApart", spec := "wordsApart", unfollowed := true, recurses := true, apart := false, narrowed := true }
def WordsApartUptoSaid : Prop := wordsApartUptoRow.holds Try.pinned (OpenSpec.upto wordsApartSpec)

/-- 'windowpanelaw02.WordsFolded', WHERE WHAT IT READS IS OF BULK AT MOST 1048576: true; the input reads as it did. -/
def wordsFoldedUptoRow : OpenClaim := { program := "ythijicpfihpkfaa", sum := "e0f56bcaa0bf9f8b5170c6802a8d5a8504ececc4c83f2e3ea626ca9e64f5b3cd", func := "windowpane/windowpanelaw02.WordsFolded", spec := "wordsFolded", unfollowed := true, recurses := true, apart := false, narrowed := true }
def WordsFoldedUptoSaid : Prop := wordsFoldedUptoRow.holds Try.pinned (OpenSpec.upto wordsFoldedSpec)

/-- 'windowpanelaw25.PacketSeals', WHERE WHAT IT READS IS OF BULK AT MOST 1048576: true; the input reads as it did. -/
def packetSealsUptoRow : OpenClaim := { program := "ythijicpfihpkfaa", sum := "e0f56bcaa0bf9f8b5170c6802a8d5a8504ececc4c83f2e3ea626ca9e64f5b3cd", func := "windowpane/windowpanelaw25.PacketSeals", spec := "packetSeals", unfollowed := true, recurses := true, apart := false, narrowed := true }
def PacketSealsUptoSaid : Prop := packetSealsUptoRow.holds Try.pinned (OpenSpec.upto packetSealsSpec)

/-- 'windowpanelaw02.WordsStand', WHERE WHAT IT READS IS OF BULK AT MOST 1048576: true; the input reads as it did. -/
def wordsStandUptoRow : OpenClaim := { program := "ythijicpfihpkfaa", sum := "e0f56bcaa0bf9f8b5170c6802a8d5a8504ececc4c83f2e3ea626ca9e64f5b3cd", func := "windowpane/windowpanelaw02.WordsStand", spec := "wordsStand", unfollowed := true, recurses := true, apart := false, narrowed := true }
def WordsStandUptoSaid : Prop := wordsStandUptoRow.holds Try.pinned (OpenSpec.upto wordsStandSpec)

/-- 'windowpanelaw02.WordsRow', WHERE WHAT IT READS IS OF BULK AT MOST 1048576: true; the input reads as it did. -/
def wordsRowUptoRow : OpenClaim := { program := "ythijicpfihpkfaa", sum := "e0f56bcaa0bf9f8b5170c6802a8d5a8504ececc4c83f2e3ea626ca9e64f5b3cd", func := "windowpane/windowpanelaw02.WordsRow", spec := "wordsRow", unfollowed := true, recurses := true, apart := false, narrowed := true }
def WordsRowUptoSaid : Prop := wordsRowUptoRow.holds Try.pinned (OpenSpec.upto wordsRowSpec)

/-- 'windowpanelaw25.PacketOpens', WHERE WHAT IT READS IS OF BULK AT MOST 1048576: true; the input reads as it did. -/
def packetOpensUptoRow : OpenClaim := { program := "ythijicpfihpkfaa", sum := "e0f56bcaa0bf9f8b5170c6802a8d5a8504ececc4c83f2e3ea626ca9e64f5b3cd", func := "windowpane/windowpanelaw25.PacketOpens", spec := "packetOpens", unfollowed := true, recurses := true, apart := false, narrowed := true }
def PacketOpensUptoSaid : Prop := packetOpensUptoRow.holds Try.pinned (OpenSpec.upto packetOpensSpec)

/-- 'windowpanelaw25.PacketBack', WHERE WHAT IT READS IS OF BULK AT MOST 1048576: true; the input reads as it did. -/
def packetBackUptoRow : OpenClaim := { program := "ythijicpfihpkfaa", sum := "e0f56bcaa0bf9f8b5170c6802a8d5a8504ececc4c83f2e3ea626ca9e64f5b3cd", func := "windowpane/windowpanelaw25.PacketBack", spec := "packetBack", unfollowed := true, recurses := true, apart := false, narrowed := true }
def PacketBackUptoSaid : Prop := packetBackUptoRow.holds Try.pinned (OpenSpec.upto packetBackSpec)

/-- 'windowpanelaw25.PacketSpoilt', WHERE WHAT IT READS IS OF BULK AT MOST 1048576: true; the input reads as it did. -/
def packetSpoiltUptoRow : OpenClaim := { program := "ythijicpfihpkfaa", sum := "e0f56bcaa0bf9f8b5170c6802a8d5a8504ececc4c83f2e3ea626ca9e64f5b3cd", func := "windowpane/windowpanelaw25.PacketSpoilt", spec := "packetSpoilt", unfollowed := true, recurses := true, apart := false, narrowed := true }
def PacketSpoiltUptoSaid : Prop := packetSpoiltUptoRow.holds Try.pinned (OpenSpec.upto packetSpoiltSpec)

/-- 'windowpanelaw25.PacketRest', WHERE WHAT IT READS IS OF BULK AT MOST 1048576: true; the input reads as it did. -/
def packetRestUptoRow : OpenClaim := { program := "ythijicpfihpkfaa", sum := "e0f56bcaa0bf9f8b5170c6802a8d5a8504ececc4c83f2e3ea626ca9e64f5b3cd", func := "windowpane/windowpanelaw25.PacketRest", spec := "packetRest", unfollowed := true, recurses := true, apart := false, narrowed := true }
def PacketRestUptoSaid : Prop := packetRestUptoRow.holds Try.pinned (OpenSpec.upto packetRestSpec)

end Rows
end Go.Proofs.Ythijicpfihpkfaa
