/-
  No cell of these rows narrows 'for every input' (looked for: loops, veiled, ifaces, maps, wideKeys, modest, calm, conditions, laid).
  DERIVED. THE GIVEN ROWS OF THIS SEAT. 3 by the template 'for every input the law returns true; each argument reads behind the call as it read before'; 0 by the template 'total and deterministic' (their statements: YtjinpfnefeiooaaGreatTotals.lean).
  GIVEN WITH THE SEED: the statements are not yours to turn. If you find one false, say at which input.
  Laid BY PROGRAM, IN A SANDBOX (cutbox-rows.mjs): the forced cells as the released guide's own fill.sh prints them over the translation 1ef48616b80a6381… (all of the seat's roots in one cut). By AI agents, Wed Nov 11 2026. No macro, syntax, notation, axiom, sorry.
-/
import Derived.Test.YtjinpfnefeiooaaGreatChecked
import GoSem.Claim
import GoSem.ClaimJoined
import GoSem.ClaimMapViews
import Derived.JoinedTies
import Derived.KernelRfl
namespace Go.Proofs.YtjinpfnefeiooaaGreat
/- THE CELL 'sum', in the pinned program and in every row, IS THE sha256 OF THE DUMP (.gsa) THAT YtjinpfnefeiooaaGreatProg.lean LOADS. Nothing in Lean hashes anything: it is a label: what it is worth is what the hold of that sum in a sandbox is worth. -/
noncomputable def Tryz.pinned : Pinned := { name := "ytjinpfnefeiooaagreat", sum := "1ef48616b80a6381e6bd2acc3d40165dbf0b000bd754cc65fb37fbf571b7da79", checked := Tryz.checked }
namespace Rows
def none {H : Type} : Left H := { results := [], args := [] }

/-- 'pylonlaw27.PathMatches': WHATEVER THE INPUT: true; the input reads as it did. -/
def pathMatchesSpec : ChangeSpec := { name := "pathMatches", fn := fun _ => fun
  | [d1, d2, d3, d4] => { results := [.lit (.bool true)], args := [d1, d2, d3, d4] }
  | _ => none }
def pathMatchesRow : OpenClaim := { program := "ytjinpfnefeiooaagreat", sum := "1ef48616b80a6381e6bd2acc3d40165dbf0b000bd754cc65fb37fbf571b7da79", func := "pylon/pylonlaw27.PathMatches", spec := "pathMatches", unfollowed := true, recurses := true, apart := false }
def PathMatchesSaid : Prop := pathMatchesRow.holds Tryz.pinned (OpenSpec.ofChange pathMatchesSpec)

/-- ITS FALSE NEIGHBOUR: 'it returns false'. Refute it at one input. -/
def pathMatchesWrong : ChangeSpec := { name := "pathMatches", fn := fun _ => fun
  | [d1, d2, d3, d4] => { results := [.lit (.bool false)], args := [d1, d2, d3, d4] }
  | _ => none }
def PathMatchesWrongFalsely : Prop := pathMatchesRow.holds Tryz.pinned (OpenSpec.ofChange pathMatchesWrong)

/-- 'pylonlaw27.PathBestMatches': WHATEVER THE INPUT: true; the input reads as it did. -/
def pathBestMatchesSpec : ChangeSpec := { name := "pathBestMatches", fn := fun _ => fun
  | [d1, d2] => { results := [.lit (.bool true)], args := [d1, d2] }
  | _ => none }
def pathBestMatchesRow : OpenClaim := { program := "ytjinpfnefeiooaagreat", sum := "1ef48616b80a6381e6bd2acc3d40165dbf0b000bd754cc65fb37fbf571b7da79", func := "pylon/pylonlaw27.PathBestMatches", spec := "pathBestMatches", unfollowed := true, recurses := true, apart := false }
def PathBestMatchesSaid : Prop := pathBestMatchesRow.holds Tryz.pinned (OpenSpec.ofChange pathBestMatchesSpec)

/-- ITS FALSE NEIGHBOUR: 'it returns false'. Refute it at one input. -/
def pathBestMatchesWrong : ChangeSpec := { name := "pathBestMatches", fn := fun _ => fun
  | [d1, d2] => { results := [.lit (.bool false)], args := [d1, d2] }
  | _ => none }
def PathBestMatchesWrongFalsely : Prop := pathBestMatchesRow.holds Tryz.pinned (OpenSpec.ofChange pathBestMatchesWrong)

/-- 'pylonlaw27.PathExamples': WHATEVER THE INPUT: true; the input reads as it did. -/
def pathExamplesSpec : ChangeSpec := { name := "pathExamples", fn := fun _ => fun
  | [] => { results := [.lit (.bool true)], args := [] }
  | _ => none }
def pathExamplesRow : OpenClaim := { program := "ytjinpfnefeiooaagreat", sum := "1ef48616b80a6381e6bd2acc3d40165dbf0b000bd754cc65fb37fbf571b7da79", func := "pylon/pylonlaw27.PathExamples", spec := "pathExamples", unfollowed := true, recurses := true, apart := false }
def PathExamplesSaid : Prop := pathExamplesRow.holds Tryz.pinned (OpenSpec.ofChange pathExamplesSpec)

/-- ITS FALSE NEIGHBOUR: 'it returns false'. Refute it at one input. -/
def pathExamplesWrong : ChangeSpec := { name := "pathExamples", fn := fun _ => fun
  | [] => { results := [.lit (.bool false)], args := [] }
  | _ => none }
def PathExamplesWrongFalsely : Prop := pathExamplesRow.holds Tryz.pinned (OpenSpec.ofChange pathExamplesWrong)

/- THE SECOND FORM. 'bulk': how many values and letters a reading holds, each counted each time it is reached (what is shared counts as often as it is met; a slice's spare places count too). A statement '..UptoSaid' is the law's where the arguments, and the package variables that the reading takes, are together of bulk at most 1048576: NARROWER than '..Said'. Prove '..Said' where nothing that the law and all that it calls make is longer than what came in: it says more and counts as full. Else prove '..UptoSaid'. A law counts once. -/
mutual
def uptoBulk {H : Type} : DataW H → Nat
  | .lit (.string bytes) => bytes.length + 1
  | .lit _ => 1
  | .nil => 1
  | .ptr d => uptoBulk d + 1
  | .slice elems spare => uptoBulkAll elems + uptoBulkAll spare + 1
  | .agg parts => uptoBulkAll parts + 1
  | .iface _ d => uptoBulk d + 1
  | .map entries => uptoBulkEntries entries + 1
  | .held _ => 1
def uptoBulkAll {H : Type} : List (DataW H) → Nat
  | [] => 0
  | d :: r => uptoBulk d + uptoBulkAll r
def uptoBulkEntries {H : Type} : List (Lit × DataW H) → Nat
  | [] => 0
  | x :: r => uptoBulkEntry x + uptoBulkEntries r
def uptoBulkEntry {H : Type} : Lit × DataW H → Nat
  | (.string bytes, d) => bytes.length + uptoBulk d + 1
  | (_, d) => uptoBulk d + 1
 end
def uptoSmall : (H : Type) → List (DataW H) → Bool := fun _ ds => decide (uptoBulkAll ds ≤ 1048576)
def OpenSpec.upto (s : _root_.Go.ChangeSpec) : _root_.Go.OpenSpec := { _root_.Go.OpenSpec.ofChange s with cond := some uptoSmall }

/-- 'pylonlaw27.PathMatches', WHERE WHAT IT READS IS OF BULK AT MOST 1048576: true; the input reads as it did. -/
def pathMatchesUptoRow : OpenClaim := { program := "ytjinpfnefeiooaagreat", sum := "1ef48616b80a6381e6bd2acc3d40165dbf0b000bd754cc65fb37fbf571b7da79", func := "pylon/pylonlaw27.PathMatches", spec := "pathMatches", unfollowed := true, recurses := true, apart := false, narrowed := true }
def PathMatchesUptoSaid : Prop := pathMatchesUptoRow.holds Tryz.pinned (OpenSpec.upto pathMatchesSpec)

/-- 'pylonlaw27.PathBestMatches', WHERE WHAT IT READS IS OF BULK AT MOST 1048576: true; the input reads as it did. -/
def pathBestMatchesUptoRow : OpenClaim := { program := "ytjinpfnefeiooaagreat", sum := "1ef48616b80a6381e6bd2acc3d40165dbf0b000bd754cc65fb37fbf571b7da79", func := "pylon/pylonlaw27.PathBestMatches", spec := "pathBestMatches", unfollowed := true, recurses := true, apart := false, narrowed := true }
def PathBestMatchesUptoSaid : Prop := pathBestMatchesUptoRow.holds Tryz.pinned (OpenSpec.upto pathBestMatchesSpec)

/-- 'pylonlaw27.PathExamples', WHERE WHAT IT READS IS OF BULK AT MOST 1048576: true; the input reads as it did. -/
def pathExamplesUptoRow : OpenClaim := { program := "ytjinpfnefeiooaagreat", sum := "1ef48616b80a6381e6bd2acc3d40165dbf0b000bd754cc65fb37fbf571b7da79", func := "pylon/pylonlaw27.PathExamples", spec := "pathExamples", unfollowed := true, recurses := true, apart := false, narrowed := true }
def PathExamplesUptoSaid : Prop := pathExamplesUptoRow.holds Tryz.pinned (OpenSpec.upto pathExamplesSpec)

end Rows
end Go.Proofs.YtjinpfnefeiooaaGreat
