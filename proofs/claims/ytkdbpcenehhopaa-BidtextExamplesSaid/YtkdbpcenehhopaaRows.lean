/-
  No cell of these rows narrows 'for every input' (looked for: loops, veiled, ifaces, maps, wideKeys, modest, calm, conditions, laid).
  DERIVED. THE GIVEN ROWS OF THIS SEAT. 3 by the template 'for every input the law returns true; each argument reads behind the call as it read before'; 0 by the template 'total and deterministic' (their statements: YtkdbpcenehhopaaTotals.lean).
  GIVEN WITH THE SEED: the statements are not yours to turn. If you find one false, say at which input.
  Laid BY PROGRAM, IN A SANDBOX (cutbox-rows.mjs): the forced cells as the released guide's own fill.sh prints them over the translation 7af323f42155e835… (all of the seat's roots in one cut). By AI agents, Wed Nov 11 2026. No macro, syntax, notation, axiom, sorry.
-/
import Derived.Test.YtkdbpcenehhopaaChecked
import GoSem.Claim
import GoSem.ClaimJoined
import GoSem.ClaimMapViews
import Derived.JoinedTies
import Derived.KernelRfl
namespace Go.Proofs.Ytkdbpcenehhopaa
/- THE CELL 'sum', in the pinned program and in every row, IS THE sha256 OF THE DUMP (.gsa) THAT YtkdbpcenehhopaaProg.lean LOADS. Nothing in Lean hashes anything: it is a label: what it is worth is what the hold of that sum in a sandbox is worth. -/
noncomputable def Try.pinned : Pinned := { name := "ytkdbpcenehhopaa", sum := "7af323f42155e835bcd5c60a35dc42c4032cfb97b80e5818a0eabfc149c0af50", checked := Try.checked }
namespace Rows
def none {H : Type} : Left H := { results := [], args := [] }

/-- 'pylonlaw31.BidtextExamples': WHATEVER THE INPUT: true; the input reads as it did. -/
def bidtextExamplesSpec : ChangeSpec := { name := "bidtextExamples", fn := fun _ => fun
  | [] => { results := [.lit (.bool true)], args := [] }
  | _ => none }
def bidtextExamplesRow : OpenClaim := { program := "ytkdbpcenehhopaa", sum := "7af323f42155e835bcd5c60a35dc42c4032cfb97b80e5818a0eabfc149c0af50", func := "pylon/pylonlaw31.BidtextExamples", spec := "bidtextExamples", inPlace := ["internal/abi.NoEscape"], unfollowed := true, recurses := true, apart := false }
def BidtextExamplesSaid : Prop := bidtextExamplesRow.holds Try.pinned (OpenSpec.ofChange bidtextExamplesSpec)

/-- ITS FALSE NEIGHBOUR: 'it returns false'. Refute it at one input. -/
def bidtextExamplesWrong : ChangeSpec := { name := "bidtextExamples", fn := fun _ => fun
  | [] => { results := [.lit (.bool false)], args := [] }
  | _ => none }
def BidtextExamplesWrongFalsely : Prop := bidtextExamplesRow.holds Try.pinned (OpenSpec.ofChange bidtextExamplesWrong)

/-- 'pylonlaw31.BidtextRoundTrip': WHATEVER THE INPUT: true; the input reads as it did. -/
def bidtextRoundTripSpec : ChangeSpec := { name := "bidtextRoundTrip", fn := fun _ => fun
  | [d1, d2, d3, d4] => { results := [.lit (.bool true)], args := [d1, d2, d3, d4] }
  | _ => none }
def bidtextRoundTripRow : OpenClaim := { program := "ytkdbpcenehhopaa", sum := "7af323f42155e835bcd5c60a35dc42c4032cfb97b80e5818a0eabfc149c0af50", func := "pylon/pylonlaw31.BidtextRoundTrip", spec := "bidtextRoundTrip", inPlace := ["internal/abi.NoEscape"], unfollowed := true, recurses := true, apart := false }
def BidtextRoundTripSaid : Prop := bidtextRoundTripRow.holds Try.pinned (OpenSpec.ofChange bidtextRoundTripSpec)

/-- ITS FALSE NEIGHBOUR: 'it returns false'. Refute it at one input. -/
def bidtextRoundTripWrong : ChangeSpec := { name := "bidtextRoundTrip", fn := fun _ => fun
  | [d1, d2, d3, d4] => { results := [.lit (.bool false)], args := [d1, d2, d3, d4] }
  | _ => none }
def BidtextRoundTripWrongFalsely : Prop := bidtextRoundTripRow.holds Try.pinned (OpenSpec.ofChange bidtextRoundTripWrong)

/-- 'pylonlaw31.BidtextSubstring': WHATEVER THE INPUT: true; the input reads as it did. -/
def bidtextSubstringSpec : ChangeSpec := { name := "bidtextSubstring", fn := fun _ => fun
  | [d1, d2, d3, d4, d5] => { results := [.lit (.bool true)], args := [d1, d2, d3, d4, d5] }
  | _ => none }
def bidtextSubstringRow : OpenClaim := { program := "ytkdbpcenehhopaa", sum := "7af323f42155e835bcd5c60a35dc42c4032cfb97b80e5818a0eabfc149c0af50", func := "pylon/pylonlaw31.BidtextSubstring", spec := "bidtextSubstring", inPlace := ["internal/abi.NoEscape"], unfollowed := true, recurses := true, apart := false }
def BidtextSubstringSaid : Prop := bidtextSubstringRow.holds Try.pinned (OpenSpec.ofChange bidtextSubstringSpec)

/-- ITS FALSE NEIGHBOUR: 'it returns false'. Refute it at one input. -/
def bidtextSubstringWrong : ChangeSpec := { name := "bidtextSubstring", fn := fun _ => fun
  | [d1, d2, d3, d4, d5] => { results := [.lit (.bool false)], args := [d1, d2, d3, d4, d5] }
  | _ => none }
def BidtextSubstringWrongFalsely : Prop := bidtextSubstringRow.holds Try.pinned (OpenSpec.ofChange bidtextSubstringWrong)

/- THE SECOND FORM. 'bulk': how many values and letters a reading holds, each counted each time it is reached (what is shared counts as often as it is met; a slice's spare places count too). A statement '..UptoSaid' is the law's where the arguments, and the package variables that the reading takes, are together of bulk at most 1048576: NARROWER than '..Said'. Prove '..Said' where nothing that the law and all that it calls make is longer than what came in: it says more and counts as full. Else prove '..UptoSaid'. A law counts once. -/
mutual
def uptoBulk {H : Type} : DataW H → Nat
  | .lit (.string bytes) => bytes.length + 1
  | .lit _ => 1
  | .nil => 1
  | .ptr d => uptoBulk d + 1
  | .slice elems spare => uptoBulkAll elems + uptoBulkAll spare + 1
  | .agg parts => uptoBulkAll parts + 1
  | .iface _ d => uptoBulk d + 1
  | .map entries => uptoBulkEntries entries + 1
  | .held _ => 1
def uptoBulkAll {H : Type} : List (DataW H) → Nat
  | [] => 0
  | d :: r => uptoBulk d + uptoBulkAll r
def uptoBulkEntries {H : Type} : List (Lit × DataW H) → Nat
  | [] => 0
  | x :: r => uptoBulkEntry x + uptoBulkEntries r
def uptoBulkEntry {H : Type} : Lit × DataW H → Nat
  | (.string bytes, d) => bytes.length + uptoBulk d + 1
  | (_, d) => uptoBulk d + 1
 end
def uptoSmall : (H : Type) → List (DataW H) → Bool := fun _ ds => decide (uptoBulkAll ds ≤ 1048576)
def OpenSpec.upto (s : _root_.Go.ChangeSpec) : _root_.Go.OpenSpec := { _root_.Go.OpenSpec.ofChange s with cond := some uptoSmall }

/-- 'pylonlaw31.BidtextExamples', WHERE WHAT IT READS IS OF BULK AT MOST 1048576: true; the input reads as it did. -/
def bidtextExamplesUptoRow : OpenClaim := { program := "ytkdbpcenehhopaa", sum := "7af323f42155e835bcd5c60a35dc42c4032cfb97b80e5818a0eabfc149c0af50", func := "pylon/pylonlaw31.BidtextExamples", spec := "bidtextExamples", inPlace := ["internal/abi.NoEscape"], unfollowed := true, recurses := true, apart := false, narrowed := true }
def BidtextExamplesUptoSaid : Prop := bidtextExamplesUptoRow.holds Try.pinned (OpenSpec.upto bidtextExamplesSpec)

/-- 'pylonlaw31.BidtextRoundTrip', WHERE WHAT IT READS IS OF BULK AT MOST 1048576: true; the input reads as it did. -/
def bidtextRoundTripUptoRow : OpenClaim := { program := "ytkdbpcenehhopaa", sum := "7af323f42155e835bcd5c60a35dc42c4032cfb97b80e5818a0eabfc149c0af50", func := "pylon/pylonlaw31.BidtextRoundTrip", spec := "bidtextRoundTrip", inPlace := ["internal/abi.NoEscape"], unfollowed := true, recurses := true, apart := false, narrowed := true }
def BidtextRoundTripUptoSaid : Prop := bidtextRoundTripUptoRow.holds Try.pinned (OpenSpec.upto bidtextRoundTripSpec)

/-- 'pylonlaw31.BidtextSubstring', WHERE WHAT IT READS IS OF BULK AT MOST 1048576: true; the input reads as it did. -/
def bidtextSubstringUptoRow : OpenClaim := { program := "ytkdbpcenehhopaa", sum := "7af323f42155e835bcd5c60a35dc42c4032cfb97b80e5818a0eabfc149c0af50", func := "pylon/pylonlaw31.BidtextSubstring", spec := "bidtextSubstring", inPlace := ["internal/abi.NoEscape"], unfollowed := true, recurses := true, apart := false, narrowed := true }
def BidtextSubstringUptoSaid : Prop := bidtextSubstringUptoRow.holds Try.pinned (OpenSpec.upto bidtextSubstringSpec)

end Rows
end Go.Proofs.Ytkdbpcenehhopaa
