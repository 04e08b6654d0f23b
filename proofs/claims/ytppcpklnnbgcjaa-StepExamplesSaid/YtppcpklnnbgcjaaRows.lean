/-
  No cell of these rows narrows 'for every input' (looked for: loops, veiled, ifaces, maps, wideKeys, modest, calm, conditions, laid).
  DERIVED. THE GIVEN ROWS OF THIS SEAT. 7 by the template 'for every input the law returns true; each argument reads behind the call as it read before'; 0 by the template 'total and deterministic' (their statements: YtppcpklnnbgcjaaTotals.lean).
  GIVEN WITH THE SEED: the statements are not yours to turn. If you find one false, say at which input.
  Laid BY PROGRAM, IN A SANDBOX (cutbox-rows.mjs): the forced cells as the released guide's own fill.sh prints them over the translation 72db8d6919c2685b… (all of the seat's roots in one cut). By AI agents, Wed Nov 11 2026. No macro, syntax, notation, axiom, sorry.
-/
import Derived.Test.YtppcpklnnbgcjaaChecked
import GoSem.Claim
import GoSem.ClaimJoined
import GoSem.ClaimMapViews
import Derived.JoinedTies
import Derived.KernelRfl
namespace Go.Proofs.Ytppcpklnnbgcjaa
/- THE CELL 'sum', in the pinned program and in every row, IS THE sha256 OF THE DUMP (.gsa) THAT YtppcpklnnbgcjaaProg.lean LOADS. Nothing in Lean hashes anything: it is a label: what it is worth is what the hold of that sum in a sandbox is worth. -/
noncomputable def Try.pinned : Pinned := { name := "ytppcpklnnbgcjaa", sum := "72db8d6919c2685b6f8b849e7fa974c005953eb3fcb0cfed7c39af6e2d2ab376", checked := Try.checked }
namespace Rows
def none {H : Type} : Left H := { results := [], args := [] }

/-- 'pylonlaw23.StepEndpoints': WHATEVER THE INPUT: true; the input reads as it did. -/
def stepEndpointsSpec : ChangeSpec := { name := "stepEndpoints", fn := fun _ => fun
  | [d] => { results := [.lit (.bool true)], args := [d] }
  | _ => none }
def stepEndpointsRow : OpenClaim := { program := "ytppcpklnnbgcjaa", sum := "72db8d6919c2685b6f8b849e7fa974c005953eb3fcb0cfed7c39af6e2d2ab376", func := "pylon/pylonlaw23.StepEndpoints", spec := "stepEndpoints", unfollowed := true, recurses := true, apart := false }
def StepEndpointsSaid : Prop := stepEndpointsRow.holds Try.pinned (OpenSpec.ofChange stepEndpointsSpec)

/-- ITS FALSE NEIGHBOUR: 'it returns false'. Refute it at one input. -/
def stepEndpointsWrong : ChangeSpec := { name := "stepEndpoints", fn := fun _ => fun
  | [d] => { results := [.lit (.bool false)], args := [d] }
  | _ => none }
def StepEndpointsWrongFalsely : Prop := stepEndpointsRow.holds Try.pinned (OpenSpec.ofChange stepEndpointsWrong)

/-- 'pylonlaw23.StepMonotone': WHATEVER THE INPUT: true; the input reads as it did. -/
def stepMonotoneSpec : ChangeSpec := { name := "stepMonotone", fn := fun _ => fun
  | [d1, d2, d3] => { results := [.lit (.bool true)], args := [d1, d2, d3] }
  | _ => none }
def stepMonotoneRow : OpenClaim := { program := "ytppcpklnnbgcjaa", sum := "72db8d6919c2685b6f8b849e7fa974c005953eb3fcb0cfed7c39af6e2d2ab376", func := "pylon/pylonlaw23.StepMonotone", spec := "stepMonotone", unfollowed := true, recurses := true, apart := false }
def StepMonotoneSaid : Prop := stepMonotoneRow.holds Try.pinned (OpenSpec.ofChange stepMonotoneSpec)

/-- ITS FALSE NEIGHBOUR: 'it returns false'. Refute it at one input. -/
def stepMonotoneWrong : ChangeSpec := { name := "stepMonotone", fn := fun _ => fun
  | [d1, d2, d3] => { results := [.lit (.bool false)], args := [d1, d2, d3] }
  | _ => none }
def StepMonotoneWrongFalsely : Prop := stepMonotoneRow.holds Try.pinned (OpenSpec.ofChange stepMonotoneWrong)

/-- 'pylonlaw23.StepConvexity': WHATEVER THE INPUT: true; the input reads as it did. -/
def stepConvexitySpec : ChangeSpec := { name := "stepConvexity", fn := fun _ => fun
  | [d1, d2, d3] => { results := [.lit (.bool true)], args := [d1, d2, d3] }
  | _ => none }
def stepConvexityRow : OpenClaim := { program := "ytppcpklnnbgcjaa", sum := "72db8d6919c2685b6f8b849e7fa974c005953eb3fcb0cfed7c39af6e2d2ab376", func := "pylon/pylonlaw23.StepConvexity", spec := "stepConvexity", unfollowed := true, recurses := true, apart := false }
def StepConvexitySaid : Prop := stepConvexityRow.holds Try.pinned (OpenSpec.ofChange stepConvexitySpec)

/-- ITS FALSE NEIGHBOUR: 'it returns false'. Refute it at one input. -/
def stepConvexityWrong : ChangeSpec := { name := "stepConvexity", fn := fun _ => fun
  | [d1, d2, d3] => { results := [.lit (.bool false)], args := [d1, d2, d3] }
  | _ => none }
def StepConvexityWrongFalsely : Prop := stepConvexityRow.holds Try.pinned (OpenSpec.ofChange stepConvexityWrong)

/-- 'pylonlaw23.StepExamples': WHATEVER THE INPUT: true; the input reads as it did. -/
def stepExamplesSpec : ChangeSpec := { name := "stepExamples", fn := fun _ => fun
  | [] => { results := [.lit (.bool true)], args := [] }
  | _ => none }
def stepExamplesRow : OpenClaim := { program := "ytppcpklnnbgcjaa", sum := "72db8d6919c2685b6f8b849e7fa974c005953eb3fcb0cfed7c39af6e2d2ab376", func := "pylon/pylonlaw23.StepExamples", spec := "stepExamples", unfollowed := true, recurses := true, apart := false }
def StepExamplesSaid : Prop := stepExamplesRow.holds Try.pinned (OpenSpec.ofChange stepExamplesSpec)

/-- ITS FALSE NEIGHBOUR: 'it returns false'. Refute it at one input. -/
def stepExamplesWrong : ChangeSpec := { name := "stepExamples", fn := fun _ => fun
  | [] => { results := [.lit (.bool false)], args := [] }
  | _ => none }
def StepExamplesWrongFalsely : Prop := stepExamplesRow.holds Try.pinned (OpenSpec.ofChange stepExamplesWrong)

/-- 'pylonlaw23.StepOptimalQuantities': WHATEVER THE INPUT: true; the input reads as it did. -/
def stepOptimalQuantitiesSpec : ChangeSpec := { name := "stepOptimalQuantities", fn := fun _ => fun
  | [d1, d2, d3] => { results := [.lit (.bool true)], args := [d1, d2, d3] }
  | _ => none }
def stepOptimalQuantitiesRow : OpenClaim := { program := "ytppcpklnnbgcjaa", sum := "72db8d6919c2685b6f8b849e7fa974c005953eb3fcb0cfed7c39af6e2d2ab376", func := "pylon/pylonlaw23.StepOptimalQuantities", spec := "stepOptimalQuantities", unfollowed := true, recurses := true, apart := false }
def StepOptimalQuantitiesSaid : Prop := stepOptimalQuantitiesRow.holds Try.pinned (OpenSpec.ofChange stepOptimalQuantitiesSpec)

/-- ITS FALSE NEIGHBOUR: 'it returns false'. Refute it at one input. -/
def stepOptimalQuantitiesWrong : ChangeSpec := { name := "stepOptimalQuantities", fn := fun _ => fun
  | [d1, d2, d3] => { results := [.lit (.bool false)], args := [d1, d2, d3] }
  | _ => none }
def StepOptimalQuantitiesWrongFalsely : Prop := stepOptimalQuantitiesRow.holds Try.pinned (OpenSpec.ofChange stepOptimalQuantitiesWrong)

/-- 'pylonlaw23.StepNegation': WHATEVER THE INPUT: true; the input reads as it did. -/
def stepNegationSpec : ChangeSpec := { name := "stepNegation", fn := fun _ => fun
  | [d1, d2, d3] => { results := [.lit (.bool true)], args := [d1, d2, d3] }
  | _ => none }
def stepNegationRow : OpenClaim := { program := "ytppcpklnnbgcjaa", sum := "72db8d6919c2685b6f8b849e7fa974c005953eb3fcb0cfed7c39af6e2d2ab376", func := "pylon/pylonlaw23.StepNegation", spec := "stepNegation", unfollowed := true, recurses := true, apart := false }
def StepNegationSaid : Prop := stepNegationRow.holds Try.pinned (OpenSpec.ofChange stepNegationSpec)

/-- ITS FALSE NEIGHBOUR: 'it returns false'. Refute it at one input. -/
def stepNegationWrong : ChangeSpec := { name := "stepNegation", fn := fun _ => fun
  | [d1, d2, d3] => { results := [.lit (.bool false)], args := [d1, d2, d3] }
  | _ => none }
def StepNegationWrongFalsely : Prop := stepNegationRow.holds Try.pinned (OpenSpec.ofChange stepNegationWrong)

/-- 'pylonlaw23.StepFillingOrder': WHATEVER THE INPUT: true; the input reads as it did. -/
def stepFillingOrderSpec : ChangeSpec := { name := "stepFillingOrder", fn := fun _ => fun
  | [d1, d2] => { results := [.lit (.bool true)], args := [d1, d2] }
  | _ => none }
def stepFillingOrderRow : OpenClaim := { program := "ytppcpklnnbgcjaa", sum := "72db8d6919c2685b6f8b849e7fa974c005953eb3fcb0cfed7c39af6e2d2ab376", func := "pylon/pylonlaw23.StepFillingOrder", spec := "stepFillingOrder", unfollowed := true, recurses := true, apart := false }
def StepFillingOrderSaid : Prop := stepFillingOrderRow.holds Try.pinned (OpenSpec.ofChange stepFillingOrderSpec)

/-- ITS FALSE NEIGHBOUR: 'it returns false'. Refute it at one input. -/
def stepFillingOrderWrong : ChangeSpec := { name := "stepFillingOrder", fn := fun _ => fun
  | [d1, d2] => { results := [.lit (.bool false)], args := [d1, d2] }
  | _ => none }
def StepFillingOrderWrongFalsely : Prop := stepFillingOrderRow.holds Try.pinned (OpenSpec.ofChange stepFillingOrderWrong)

/- THE SECOND FORM. 'bulk': how many values and letters a reading holds, each counted each time it is reached (what is shared counts as often as it is met; a slice's spare places count too). A statement '..UptoSaid' is the law's where the arguments, and the package variables that the reading takes, are together of bulk at most 1048576: NARROWER than '..Said'. Prove '..Said' where nothing that the law and all that it calls make is longer than what came in: it says more and counts as full. Else prove '..UptoSaid'. A law counts once. -/
mutual
def uptoBulk {H : Type} : DataW H → Nat
  | .lit (.string bytes) => bytes.length + 1
  | .lit _ => 1
  | .nil => 1
  | .ptr d => uptoBulk d + 1
  | .slice elems spare => uptoBulkAll elems + uptoBulkAll spare + 1
  | .agg parts => uptoBulkAll parts + 1
  | .iface _ d => uptoBulk d + 1
  | .map entries => uptoBulkEntries entries + 1
  | .held _ => 1
def uptoBulkAll {H : Type} : List (DataW H) → Nat
  | [] => 0
  | d :: r => uptoBulk d + uptoBulkAll r
def uptoBulkEntries {H : Type} : List (Lit × DataW H) → Nat
  | [] => 0
  | x :: r => uptoBulkEntry x + uptoBulkEntries r
def uptoBulkEntry {H : Type} : Lit × DataW H → Nat
  | (.string bytes, d) => bytes.length + uptoBulk d + 1
  | (_, d) => uptoBulk d + 1
 end
def uptoSmall : (H : Type) → List (DataW H) → Bool := fun _ ds => decide (uptoBulkAll ds ≤ 1048576)
def OpenSpec.upto (s : _root_.Go.ChangeSpec) : _root_.Go.OpenSpec := { _root_.Go.OpenSpec.ofChange s with cond := some uptoSmall }

/-- 'pylonlaw23.StepEndpoints', WHERE WHAT IT READS IS OF BULK AT MOST 1048576: true; the input reads as it did. -/
def stepEndpointsUptoRow : OpenClaim := { program := "ytppcpklnnbgcjaa", sum := "72db8d6919c2685b6f8b849e7fa974c005953eb3fcb0cfed7c39af6e2d2ab376", func := "pylon/pylonlaw23.StepEndpoints", spec := "stepEndpoints", unfollowed := true, recurses := true, apart := false, narrowed := true }
def StepEndpointsUptoSaid : Prop := stepEndpointsUptoRow.holds Try.pinned (OpenSpec.upto stepEndpointsSpec)

/-- 'pylonlaw23.StepMonotone', WHERE WHAT IT READS IS OF BULK AT MOST 1048576: true; the input reads as it did. -/
def stepMonotoneUptoRow : OpenClaim := { program := "ytppcpklnnbgcjaa", sum := "72db8d6919c2685b6f8b849e7fa974c005953eb3fcb0cfed7c39af6e2d2ab376", func := "pylon/pylonlaw23.StepMonotone", spec := "stepMonotone", unfollowed := true, recurses := true, apart := false, narrowed := true }
def StepMonotoneUptoSaid : Prop := stepMonotoneUptoRow.holds Try.pinned (OpenSpec.upto stepMonotoneSpec)

/-- 'pylonlaw23.StepConvexity', WHERE WHAT IT READS IS OF BULK AT MOST 1048576: true; the input reads as it did. -/
def stepConvexityUptoRow : OpenClaim := { program := "ytppcpklnnbgcjaa", sum := "72db8d6919c2685b6f8b849e7fa974c005953eb3fcb0cfed7c39af6e2d2ab376", func := "pylon/pylonlaw23.StepConvexity", spec := "stepConvexity", unfollowed := true, recurses := true, apart := false, narrowed := true }
def StepConvexityUptoSaid : Prop := stepConvexityUptoRow.holds Try.pinned (OpenSpec.upto stepConvexitySpec)

/-- 'pylonlaw23.StepExamples', WHERE WHAT IT READS IS OF BULK AT MOST 1048576: true; the input reads as it did. -/
def stepExamplesUptoRow : OpenClaim := { program := "ytppcpklnnbgcjaa", sum := "72db8d6919c2685b6f8b849e7fa974c005953eb3fcb0cfed7c39af6e2d2ab376", func := "pylon/pylonlaw23.StepExamples", spec := "stepExamples", unfollowed := true, recurses := true, apart := false, narrowed := true }
def StepExamplesUptoSaid : Prop := stepExamplesUptoRow.holds Try.pinned (OpenSpec.upto stepExamplesSpec)

/-- 'pylonlaw23.StepOptimalQuantities', WHERE WHAT IT READS IS OF BULK AT MOST 1048576: true; the input reads as it did. -/
def stepOptimalQuantitiesUptoRow : OpenClaim := { program := "ytppcpklnnbgcjaa", sum := "72db8d6919c2685b6f8b849e7fa974c005953eb3fcb0cfed7c39af6e2d2ab376", func := "pylon/pylonlaw23.StepOptimalQuantities", spec := "stepOptimalQuantities", unfollowed := true, recurses := true, apart := false, narrowed := true }
def StepOptimalQuantitiesUptoSaid : Prop := stepOptimalQuantitiesUptoRow.holds Try.pinned (OpenSpec.upto stepOptimalQuantitiesSpec)

/-- 'pylonlaw23.StepNegation', WHERE WHAT IT READS IS OF BULK AT MOST 1048576: true; the input reads as it did. -/
def stepNegationUptoRow : OpenClaim := { program := "ytppcpklnnbgcjaa", sum := "72db8d6919c2685b6f8b849e7fa974c005953eb3fcb0cfed7c39af6e2d2ab376", func := "pylon/pylonlaw23.StepNegation", spec := "stepNegation", unfollowed := true, recurses := true, apart := false, narrowed := true }
def StepNegationUptoSaid : Prop := stepNegationUptoRow.holds Try.pinned (OpenSpec.upto stepNegationSpec)

/-- 'pylonlaw23.StepFillingOrder', WHERE WHAT IT READS IS OF BULK AT MOST 1048576: true; the input reads as it did. -/
def stepFillingOrderUptoRow : OpenClaim := { program := "ytppcpklnnbgcjaa", sum := "72db8d6919c2685b6f8b849e7fa974c005953eb3fcb0cfed7c39af6e2d2ab376", func := "pylon/pylonlaw23.StepFillingOrder", spec := "stepFillingOrder", unfollowed := true, recurses := true, apart := false, narrowed := true }
def StepFillingOrderUptoSaid : Prop := stepFillingOrderUptoRow.holds Try.pinned (OpenSpec.upto stepFillingOrderSpec)

end Rows
end Go.Proofs.Ytppcpklnnbgcjaa
