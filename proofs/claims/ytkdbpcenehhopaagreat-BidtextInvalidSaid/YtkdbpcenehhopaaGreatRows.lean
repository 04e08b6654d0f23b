/-
  No cell of these rows narrows 'for every input' (looked for: loops, veiled, ifaces, maps, wideKeys, modest, calm, conditions, laid).
  DERIVED. THE GIVEN ROWS OF THIS SEAT. 4 by the template 'for every input the law returns true; each argument reads behind the call as it read before'; 0 by the template 'total and deterministic' (their statements: YtkdbpcenehhopaaGreatTotals.lean).
  GIVEN WITH THE SEED: the statements are not yours to turn. If you find one false, say at which input.
  Laid BY PROGRAM, IN A SANDBOX (cutbox-rows.mjs): the forced cells as the released guide's own fill.sh prints them over the translation 83addfb85c1ee35f… (all of the seat's roots in one cut). By AI agents, Wed Nov 11 2026. No macro, syntax, notation, axiom, sorry.
-/
import Derived.Test.YtkdbpcenehhopaaGreatChecked
import GoSem.Claim
import GoSem.ClaimJoined
import GoSem.ClaimMapViews
import Derived.JoinedTies
import Derived.KernelRfl
namespace Go.Proofs.YtkdbpcenehhopaaGreat
/- THE CELL 'sum', in the pinned program and in every row, IS THE sha256 OF THE DUMP (.gsa) THAT YtkdbpcenehhopaaGreatProg.lean LOADS. Nothing in Lean hashes anything: it is a label: what it is worth is what the hold of that sum in a sandbox is worth. -/
noncomputable def Tryz.pinned : Pinned := { name := "ytkdbpcenehhopaagreat", sum := "83addfb85c1ee35f57419d6e1359bcaf4c551b418e2340f7473cf1b45993631f", checked := Tryz.checked }
namespace Rows
def none {H : Type} : Left H := { results := [], args := [] }

/-- 'pylonlaw31.BidtextInvalid': WHATEVER THE INPUT: true; the input reads as it did. -/
def bidtextInvalidSpec : ChangeSpec := { name := "bidtextInvalid", fn := fun _ => fun
  | [d1, d2] => { results := [.lit (.bool true)], args := [d1, d2] }
  | _ => none }
def bidtextInvalidRow : OpenClaim := { program := "ytkdbpcenehhopaagreat", sum := "83addfb85c1ee35f57419d6e1359bcaf4c551b418e2340f7473cf1b45993631f", func := "pylon/pylonlaw31.BidtextInvalid", spec := "bidtextInvalid", inPlace := ["internal/abi.NoEscape"], unfollowed := true, recurses := true, apart := false }
def BidtextInvalidSaid : Prop := bidtextInvalidRow.holds Tryz.pinned (OpenSpec.ofChange bidtextInvalidSpec)

/-- ITS FALSE NEIGHBOUR: 'it returns false'. Refute it at one input. -/
def bidtextInvalidWrong : ChangeSpec := { name := "bidtextInvalid", fn := fun _ => fun
  | [d1, d2] => { results := [.lit (.bool false)], args := [d1, d2] }
  | _ => none }
def BidtextInvalidWrongFalsely : Prop := bidtextInvalidRow.holds Tryz.pinned (OpenSpec.ofChange bidtextInvalidWrong)

/-- 'pylonlaw31.BidtextTokens': WHATEVER THE INPUT: true; the input reads as it did. -/
def bidtextTokensSpec : ChangeSpec := { name := "bidtextTokens", fn := fun _ => fun
  | [d1, d2] => { results := [.lit (.bool true)], args := [d1, d2] }
  | _ => none }
def bidtextTokensRow : OpenClaim := { program := "ytkdbpcenehhopaagreat", sum := "83addfb85c1ee35f57419d6e1359bcaf4c551b418e2340f7473cf1b45993631f", func := "pylon/pylonlaw31.BidtextTokens", spec := "bidtextTokens", inPlace := ["internal/abi.NoEscape"], unfollowed := true, recurses := true, apart := false }
def BidtextTokensSaid : Prop := bidtextTokensRow.holds Tryz.pinned (OpenSpec.ofChange bidtextTokensSpec)

/-- ITS FALSE NEIGHBOUR: 'it returns false'. Refute it at one input. -/
def bidtextTokensWrong : ChangeSpec := { name := "bidtextTokens", fn := fun _ => fun
  | [d1, d2] => { results := [.lit (.bool false)], args := [d1, d2] }
  | _ => none }
def BidtextTokensWrongFalsely : Prop := bidtextTokensRow.holds Tryz.pinned (OpenSpec.ofChange bidtextTokensWrong)

/-- 'pylonlaw31.BidtextFormatMatches': WHATEVER THE INPUT: true; the input reads as it did. -/
def bidtextFormatMatchesSpec : ChangeSpec := { name := "bidtextFormatMatches", fn := fun _ => fun
  | [d1, d2] => { results := [.lit (.bool true)], args := [d1, d2] }
  | _ => none }
def bidtextFormatMatchesRow : OpenClaim := { program := "ytkdbpcenehhopaagreat", sum := "83addfb85c1ee35f57419d6e1359bcaf4c551b418e2340f7473cf1b45993631f", func := "pylon/pylonlaw31.BidtextFormatMatches", spec := "bidtextFormatMatches", inPlace := ["internal/abi.NoEscape"], unfollowed := true, recurses := true, apart := false }
def BidtextFormatMatchesSaid : Prop := bidtextFormatMatchesRow.holds Tryz.pinned (OpenSpec.ofChange bidtextFormatMatchesSpec)

/-- ITS FALSE NEIGHBOUR: 'it returns false'. Refute it at one input. -/
def bidtextFormatMatchesWrong : ChangeSpec := { name := "bidtextFormatMatches", fn := fun _ => fun
  | [d1, d2] => { results := [.lit (.bool false)], args := [d1, d2] }
  | _ => none }
def BidtextFormatMatchesWrongFalsely : Prop := bidtextFormatMatchesRow.holds Tryz.pinned (OpenSpec.ofChange bidtextFormatMatchesWrong)

/-- 'pylonlaw31.BidtextWhiteSpace': WHATEVER THE INPUT: true; the input reads as it did. -/
def bidtextWhiteSpaceSpec : ChangeSpec := { name := "bidtextWhiteSpace", fn := fun _ => fun
  | [d1, d2, d3] => { results := [.lit (.bool true)], args := [d1, d2, d3] }
  | _ => none }
def bidtextWhiteSpaceRow : OpenClaim := { program := "ytkdbpcenehhopaagreat", sum := "83addfb85c1ee35f57419d6e1359bcaf4c551b418e2340f7473cf1b45993631f", func := "pylon/pylonlaw31.BidtextWhiteSpace", spec := "bidtextWhiteSpace", inPlace := ["internal/abi.NoEscape"], unfollowed := true, recurses := true, apart := false }
def BidtextWhiteSpaceSaid : Prop := bidtextWhiteSpaceRow.holds Tryz.pinned (OpenSpec.ofChange bidtextWhiteSpaceSpec)

/-- ITS FALSE NEIGHBOUR: 'it returns false'. Refute it at one input. -/
def bidtextWhiteSpaceWrong : ChangeSpec := { name := "bidtextWhiteSpace", fn := fun _ => fun
  | [d1, d2, d3] => { results := [.lit (.bool false)], args := [d1, d2, d3] }
  | _ => none }
def BidtextWhiteSpaceWrongFalsely : Prop := bidtextWhiteSpaceRow.holds Tryz.pinned (OpenSpec.ofChange bidtextWhiteSpaceWrong)

/- THE SECOND FORM. 'bulk': how many values and letters a reading holds, each counted each time it is reached (what is shared counts as often as it is met; a slice's spare places count too). A statement '..UptoSaid' is the law's where the arguments, and the package variables that the reading takes, are together of bulk at most 1048576: NARROWER than '..Said'. Prove '..Said' where nothing that the law and all that it calls make is longer than what came in: it says more and counts as full. Else prove '..UptoSaid'. A law counts once. -/
mutual
def uptoBulk {H : Type} : DataW H → Nat
  | .lit (.string bytes) => bytes.length + 1
  | .lit _ => 1
  | .nil => 1
  | .ptr d => uptoBulk d + 1
  | .slice elems spare => uptoBulkAll elems + uptoBulkAll spare + 1
  | .agg parts => uptoBulkAll parts + 1
  | .iface _ d => uptoBulk d + 1
  | .map entries => uptoBulkEntries entries + 1
  | .held _ => 1
def uptoBulkAll {H : Type} : List (DataW H) → Nat
  | [] => 0
  | d :: r => uptoBulk d + uptoBulkAll r
def uptoBulkEntries {H : Type} : List (Lit × DataW H) → Nat
  | [] => 0
  | x :: r => uptoBulkEntry x + uptoBulkEntries r
def uptoBulkEntry {H : Type} : Lit × DataW H → Nat
  | (.string bytes, d) => bytes.length + uptoBulk d + 1
  | (_, d) => uptoBulk d + 1
 end
def uptoSmall : (H : Type) → List (DataW H) → Bool := fun _ ds => decide (uptoBulkAll ds ≤ 1048576)
def OpenSpec.upto (s : _root_.Go.ChangeSpec) : _root_.Go.OpenSpec := { _root_.Go.OpenSpec.ofChange s with cond := some uptoSmall }

/-- 'pylonlaw31.BidtextInvalid', WHERE WHAT IT READS IS OF BULK AT MOST 1048576: true; the input reads as it did. -/
def bidtextInvalidUptoRow : OpenClaim := { program := "ytkdbpcenehhopaagreat", sum := "83addfb85c1ee35f57419d6e1359bcaf4c551b418e2340f7473cf1b45993631f", func := "pylon/pylonlaw31.BidtextInvalid", spec := "bidtextInvalid", inPlace := ["internal/abi.NoEscape"], unfollowed := true, recurses := true, apart := false, narrowed := true }
def BidtextInvalidUptoSaid : Prop := bidtextInvalidUptoRow.holds Tryz.pinned (OpenSpec.upto bidtextInvalidSpec)

/-- 'pylonlaw31.BidtextTokens', WHERE WHAT IT READS IS OF BULK AT MOST 1048576: true; the input reads as it did. -/
def bidtextTokensUptoRow : OpenClaim := { program := "ytkdbpcenehhopaagreat", sum := "83addfb85c1ee35f57419d6e1359bcaf4c551b418e2340f7473cf1b45993631f", func := "pylon/pylonlaw31.BidtextTokens", spec := "bidtextTokens", inPlace := ["internal/abi.NoEscape"], unfollowed := true, recurses := true, apart := false, narrowed := true }
def BidtextTokensUptoSaid : Prop := bidtextTokensUptoRow.holds Tryz.pinned (OpenSpec.upto bidtextTokensSpec)

/-- 'pylonlaw31.BidtextFormatMatches', WHERE WHAT IT READS IS OF BULK AT MOST 1048576: true; the input reads as it did. -/
def bidtextFormatMatchesUptoRow : OpenClaim := { program := "ytkdbpcenehhopaagreat", sum := "83addfb85c1ee35f57419d6e1359bcaf4c551b418e2340f7473cf1b45993631f", func := "pylon/pylonlaw31.BidtextFormatMatches", spec := "bidtextFormatMatches", inPlace := ["internal/abi.NoEscape"], unfollowed := true, recurses := true, apart := false, narrowed := true }
def BidtextFormatMatchesUptoSaid : Prop := bidtextFormatMatchesUptoRow.holds Tryz.pinned (OpenSpec.upto bidtextFormatMatchesSpec)

/-- 'pylonlaw31.BidtextWhiteSpace', WHERE WHAT IT READS IS OF BULK AT MOST 1048576: true; the input reads as it did. -/
def bidtextWhiteSpaceUptoRow : OpenClaim := { program := "ytkdbpcenehhopaagreat", sum := "83addfb85c1ee35f57419d6e1359bcaf4c551b418e2340f7473cf1b45993631f", func := "pylon/pylonlaw31.BidtextWhiteSpace", spec := "bidtextWhiteSpace", inPlace := ["internal/abi.NoEscape"], unfollowed := true, recurses := true, apart := false, narrowed := true }
def BidtextWhiteSpaceUptoSaid : Prop := bidtextWhiteSpaceUptoRow.holds Tryz.pinned (OpenSpec.upto bidtextWhiteSpaceSpec)

end Rows
end Go.Proofs.YtkdbpcenehhopaaGreat
