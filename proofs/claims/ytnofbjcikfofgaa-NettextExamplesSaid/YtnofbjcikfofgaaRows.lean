/-
  No cell of these rows narrows 'for every input' (looked for: loops, veiled, ifaces, maps, wideKeys, modest, calm, conditions, laid).
  DERIVED. THE GIVEN ROWS OF THIS SEAT. 5 by the template 'for every input the law returns true; each argument reads behind the call as it read before'; 0 by the template 'total and deterministic' (their statements: YtnofbjcikfofgaaTotals.lean).
  GIVEN WITH THE SEED: the statements are not yours to turn. If you find one false, say at which input.
  Laid BY PROGRAM, IN A SANDBOX (cutbox-rows.mjs): the forced cells as the released guide's own fill.sh prints them over the translation fee107619eddd16b… (all of the seat's roots in one cut). By AI agents, Wed Nov 11 2026. No macro, syntax, notation, axiom, sorry.
-/
import Derived.Test.YtnofbjcikfofgaaChecked
import GoSem.Claim
import GoSem.ClaimJoined
import GoSem.ClaimMapViews
import Derived.JoinedTies
import Derived.KernelRfl
namespace Go.Proofs.Ytnofbjcikfofgaa
/- THE CELL 'sum', in the pinned program and in every row, IS THE sha256 OF THE DUMP (.gsa) THAT YtnofbjcikfofgaaProg.lean LOADS. Nothing in Lean hashes anything: it is a label: what it is worth is what the hold of that sum in a sandbox is worth. -/
noncomputable def Try.pinned : Pinned := { name := "ytnofbjcikfofgaa", sum := "fee107619eddd16b9d43749f36edc1fc9e111816c00a6ebb98174dbeb739a0ca", checked := Try.checked }
namespace Rows
def none {H : Type} : Left H := { results := [], args := [] }

/-- 'pylonlaw22.NettextExamples': WHATEVER THE INPUT: true; the input reads as it did. -/
def nettextExamplesSpec : ChangeSpec := { name := "nettextExamples", fn := fun _ => fun
  | [] => { results := [.lit (.bool true)], args := [] }
  | _ => none }
def nettextExamplesRow : OpenClaim := { program := "ytnofbjcikfofgaa", sum := "fee107619eddd16b9d43749f36edc1fc9e111816c00a6ebb98174dbeb739a0ca", func := "pylon/pylonlaw22.NettextExamples", spec := "nettextExamples", inPlace := ["internal/abi.NoEscape"], unfollowed := true, recurses := true, apart := false }
def NettextExamplesSaid : Prop := nettextExamplesRow.holds Try.pinned (OpenSpec.ofChange nettextExamplesSpec)

/-- ITS FALSE NEIGHBOUR: 'it returns false'. Refute it at one input. -/
def nettextExamplesWrong : ChangeSpec := { name := "nettextExamples", fn := fun _ => fun
  | [] => { results := [.lit (.bool false)], args := [] }
  | _ => none }
def NettextExamplesWrongFalsely : Prop := nettextExamplesRow.holds Try.pinned (OpenSpec.ofChange nettextExamplesWrong)

/-- 'pylonlaw22.NettextRoundTrip': WHATEVER THE INPUT: true; the input reads as it did. -/
def nettextRoundTripSpec : ChangeSpec := { name := "nettextRoundTrip", fn := fun _ => fun
  | [d1, d2, d3, d4] => { results := [.lit (.bool true)], args := [d1, d2, d3, d4] }
  | _ => none }
def nettextRoundTripRow : OpenClaim := { program := "ytnofbjcikfofgaa", sum := "fee107619eddd16b9d43749f36edc1fc9e111816c00a6ebb98174dbeb739a0ca", func := "pylon/pylonlaw22.NettextRoundTrip", spec := "nettextRoundTrip", inPlace := ["internal/abi.NoEscape"], unfollowed := true, recurses := true, apart := false }
def NettextRoundTripSaid : Prop := nettextRoundTripRow.holds Try.pinned (OpenSpec.ofChange nettextRoundTripSpec)

/-- ITS FALSE NEIGHBOUR: 'it returns false'. Refute it at one input. -/
def nettextRoundTripWrong : ChangeSpec := { name := "nettextRoundTrip", fn := fun _ => fun
  | [d1, d2, d3, d4] => { results := [.lit (.bool false)], args := [d1, d2, d3, d4] }
  | _ => none }
def NettextRoundTripWrongFalsely : Prop := nettextRoundTripRow.holds Try.pinned (OpenSpec.ofChange nettextRoundTripWrong)

/-- 'pylonlaw22.NettextSeparators': WHATEVER THE INPUT: true; the input reads as it did. -/
def nettextSeparatorsSpec : ChangeSpec := { name := "nettextSeparators", fn := fun _ => fun
  | [d1, d2, d3] => { results := [.lit (.bool true)], args := [d1, d2, d3] }
  | _ => none }
def nettextSeparatorsRow : OpenClaim := { program := "ytnofbjcikfofgaa", sum := "fee107619eddd16b9d43749f36edc1fc9e111816c00a6ebb98174dbeb739a0ca", func := "pylon/pylonlaw22.NettextSeparators", spec := "nettextSeparators", inPlace := ["internal/abi.NoEscape"], unfollowed := true, recurses := true, apart := false }
def NettextSeparatorsSaid : Prop := nettextSeparatorsRow.holds Try.pinned (OpenSpec.ofChange nettextSeparatorsSpec)

/-- ITS FALSE NEIGHBOUR: 'it returns false'. Refute it at one input. -/
def nettextSeparatorsWrong : ChangeSpec := { name := "nettextSeparators", fn := fun _ => fun
  | [d1, d2, d3] => { results := [.lit (.bool false)], args := [d1, d2, d3] }
  | _ => none }
def NettextSeparatorsWrongFalsely : Prop := nettextSeparatorsRow.holds Try.pinned (OpenSpec.ofChange nettextSeparatorsWrong)

/-- 'pylonlaw22.NettextSubstring': WHATEVER THE INPUT: true; the input reads as it did. -/
def nettextSubstringSpec : ChangeSpec := { name := "nettextSubstring", fn := fun _ => fun
  | [d1, d2, d3, d4, d5] => { results := [.lit (.bool true)], args := [d1, d2, d3, d4, d5] }
  | _ => none }
def nettextSubstringRow : OpenClaim := { program := "ytnofbjcikfofgaa", sum := "fee107619eddd16b9d43749f36edc1fc9e111816c00a6ebb98174dbeb739a0ca", func := "pylon/pylonlaw22.NettextSubstring", spec := "nettextSubstring", inPlace := ["internal/abi.NoEscape"], unfollowed := true, recurses := true, apart := false }
def NettextSubstringSaid : Prop := nettextSubstringRow.holds Try.pinned (OpenSpec.ofChange nettextSubstringSpec)

/-- ITS FALSE NEIGHBOUR: 'it returns false'. Refute it at one input. -/
def nettextSubstringWrong : ChangeSpec := { name := "nettextSubstring", fn := fun _ => fun
  | [d1, d2, d3, d4, d5] => { results := [.lit (.bool false)], args := [d1, d2, d3, d4, d5] }
  | _ => none }
def NettextSubstringWrongFalsely : Prop := nettextSubstringRow.holds Try.pinned (OpenSpec.ofChange nettextSubstringWrong)

/-- 'pylonlaw22.NettextTokens': WHATEVER THE INPUT: true; the input reads as it did. -/
def nettextTokensSpec : ChangeSpec := { name := "nettextTokens", fn := fun _ => fun
  | [d1, d2] => { results := [.lit (.bool true)], args := [d1, d2] }
  | _ => none }
def nettextTokensRow : OpenClaim := { program := "ytnofbjcikfofgaa", sum := "fee107619eddd16b9d43749f36edc1fc9e111816c00a6ebb98174dbeb739a0ca", func := "pylon/pylonlaw22.NettextTokens", spec := "nettextTokens", inPlace := ["internal/abi.NoEscape"], unfollowed := true, recurses := true, apart := false }
def NettextTokensSaid : Prop := nettextTokensRow.holds Try.pinned (OpenSpec.ofChange nettextTokensSpec)

/-- ITS FALSE NEIGHBOUR: 'it returns false'. Refute it at one input. -/
def nettextTokensWrong : ChangeSpec := { name := "nettextTokens", fn := fun _ => fun
  | [d1, d2] => { results := [.lit (.bool false)], args := [d1, d2] }
  | _ => none }
def NettextTokensWrongFalsely : Prop := nettextTokensRow.holds Try.pinned (OpenSpec.ofChange nettextTokensWrong)

/- THE SECOND FORM. 'bulk': how many values and letters a reading holds, each counted each time it is reached (what is shared counts as often as it is met; a slice's spare places count too). A statement '..UptoSaid' is the law's where the arguments, and the package variables that the reading takes, are together of bulk at most 1048576: NARROWER than '..Said'. Prove '..Said' where nothing that the law and all that it calls make is longer than what came in: it says more and counts as full. Else prove '..UptoSaid'. A law counts once. -/
mutual
def uptoBulk {H : Type} : DataW H → Nat
  | .lit (.string bytes) => bytes.length + 1
  | .lit _ => 1
  | .nil => 1
  | .ptr d => uptoBulk d + 1
  | .slice elems spare => uptoBulkAll elems + uptoBulkAll spare + 1
  | .agg parts => uptoBulkAll parts + 1
  | .iface _ d => uptoBulk d + 1
  | .map entries => uptoBulkEntries entries + 1
  | .held _ => 1
def uptoBulkAll {H : Type} : List (DataW H) → Nat
  | [] => 0
  | d :: r => uptoBulk d + uptoBulkAll r
def uptoBulkEntries {H : Type} : List (Lit × DataW H) → Nat
  | [] => 0
  | x :: r => uptoBulkEntry x + uptoBulkEntries r
def uptoBulkEntry {H : Type} : Lit × DataW H → Nat
  | (.string bytes, d) => bytes.length + uptoBulk d + 1
  | (_, d) => uptoBulk d + 1
 end
def uptoSmall : (H : Type) → List (DataW H) → Bool := fun _ ds => decide (uptoBulkAll ds ≤ 1048576)
def OpenSpec.upto (s : _root_.Go.ChangeSpec) : _root_.Go.OpenSpec := { _root_.Go.OpenSpec.ofChange s with cond := some uptoSmall }

/-- 'pylonlaw22.NettextExamples', WHERE WHAT IT READS IS OF BULK AT MOST 1048576: true; the input reads as it did. -/
def nettextExamplesUptoRow : OpenClaim := { program := "ytnofbjcikfofgaa", sum := "fee107619eddd16b9d43749f36edc1fc9e111816c00a6ebb98174dbeb739a0ca", func := "pylon/pylonlaw22.NettextExamples", spec := "nettextExamples", inPlace := ["internal/abi.NoEscape"], unfollowed := true, recurses := true, apart := false, narrowed := true }
def NettextExamplesUptoSaid : Prop := nettextExamplesUptoRow.holds Try.pinned (OpenSpec.upto nettextExamplesSpec)

/-- 'pylonlaw22.NettextRoundTrip', WHERE WHAT IT READS IS OF BULK AT MOST 1048576: true; the input reads as it did. -/
def nettextRoundTripUptoRow : OpenClaim := { program := "ytnofbjcikfofgaa", sum := "fee107619eddd16b9d43749f36edc1fc9e111816c00a6ebb98174dbeb739a0ca", func := "pylon/pylonlaw22.NettextRoundTrip", spec := "nettextRoundTrip", inPlace := ["internal/abi.NoEscape"], unfollowed := true, recurses := true, apart := false, narrowed := true }
def NettextRoundTripUptoSaid : Prop := nettextRoundTripUptoRow.holds Try.pinned (OpenSpec.upto nettextRoundTripSpec)

/-- 'pylonlaw22.NettextSeparators', WHERE WHAT IT READS IS OF BULK AT MOST 1048576: true; the input reads as it did. -/
def nettextSeparatorsUptoRow : OpenClaim := { program := "ytnofbjcikfofgaa", sum := "fee107619eddd16b9d43749f36edc1fc9e111816c00a6ebb98174dbeb739a0ca", func := "pylon/pylonlaw22.NettextSeparators", spec := "nettextSeparators", inPlace := ["internal/abi.NoEscape"], unfollowed := true, recurses := true, apart := false, narrowed := true }
def NettextSeparatorsUptoSaid : Prop := nettextSeparatorsUptoRow.holds Try.pinned (OpenSpec.upto nettextSeparatorsSpec)

/-- 'pylonlaw22.NettextSubstring', WHERE WHAT IT READS IS OF BULK AT MOST 1048576: true; the input reads as it did. -/
def nettextSubstringUptoRow : OpenClaim := { program := "ytnofbjcikfofgaa", sum := "fee107619eddd16b9d43749f36edc1fc9e111816c00a6ebb98174dbeb739a0ca", func := "pylon/pylonlaw22.NettextSubstring", spec := "nettextSubstring", inPlace := ["internal/abi.NoEscape"], unfollowed := true, recurses := true, apart := false, narrowed := true }
def NettextSubstringUptoSaid : Prop := nettextSubstringUptoRow.holds Try.pinned (OpenSpec.upto nettextSubstringSpec)

/-- 'pylonlaw22.NettextTokens', WHERE WHAT IT READS IS OF BULK AT MOST 1048576: true; the input reads as it did. -/
def nettextTokensUptoRow : OpenClaim := { program := "ytnofbjcikfofgaa", sum := "fee107619eddd16b9d43749f36edc1fc9e111816c00a6ebb98174dbeb739a0ca", func := "pylon/pylonlaw22.NettextTokens", spec := "nettextTokens", inPlace := ["internal/abi.NoEscape"], unfollowed := true, recurses := true, apart := false, narrowed := true }
def NettextTokensUptoSaid : Prop := nettextTokensUptoRow.holds Try.pinned (OpenSpec.upto nettextTokensSpec)

end Rows
end Go.Proofs.Ytnofbjcikfofgaa
