/-
  No cell of these rows narrows 'for every input' (looked for: loops, veiled, ifaces, maps, wideKeys, modest, calm, conditions, laid).
  DERIVED. THE GIVEN ROWS OF THIS SEAT. 5 by the template 'for every input the law returns true; each argument reads behind the call as it read before'; 0 by the template 'total and deterministic' (their statements: YtjinpfnefeiooaaTotals.lean).
  GIVEN WITH THE SEED: the statements are not yours to turn. If you find one false, say at which input.
  Laid BY PROGRAM, IN A SANDBOX (cutbox-rows.mjs): the forced cells as the released guide's own fill.sh prints them over the translation 4baa8caa66254288… (all of the seat's roots in one cut). By AI agents, Wed Nov 11 2026. No macro, syntax, notation, axiom, sorry.
-/
import Derived.Test.YtjinpfnefeiooaaChecked
import GoSem.Claim
import GoSem.ClaimJoined
import GoSem.ClaimMapViews
import Derived.JoinedTies
import Derived.KernelRfl
namespace Go.Proofs.Ytjinpfnefeiooaa
/- THE CELL 'sum', in the pinned program and in every row, IS THE sha256 OF THE DUMP (.gsa) THAT YtjinpfnefeiooaaProg.lean LOADS. Nothing in Lean hashes anything: it is a label: what it is worth is what the hold of that sum in a sandbox is worth. -/
noncomputable def Try.pinned : Pinned := { name := "ytjinpfnefeiooaa", sum := "4baa8caa66254288e6ff8b2b648ee29b272320e6b9a1ec9720b536cafee7213b", checked := Try.checked }
namespace Rows
def none {H : Type} : Left H := { results := [], args := [] }

/-- 'pylonlaw27.PathHigherCosts': WHATEVER THE INPUT: true; the input reads as it did. -/
def pathHigherCostsSpec : ChangeSpec := { name := "pathHigherCosts", fn := fun _ => fun
  | [d1, d2, d3, d4] => { results := [.lit (.bool true)], args := [d1, d2, d3, d4] }
  | _ => none }
def pathHigherCostsRow : OpenClaim := { program := "ytjinpfnefeiooaa", sum := "4baa8caa66254288e6ff8b2b648ee29b272320e6b9a1ec9720b536cafee7213b", func := "pylon/pylonlaw27.PathHigherCosts", spec := "pathHigherCosts", unfollowed := true, recurses := true, apart := false }
def PathHigherCostsSaid : Prop := pathHigherCostsRow.holds Try.pinned (OpenSpec.ofChange pathHigherCostsSpec)

/-- ITS FALSE NEIGHBOUR: 'it returns false'. Refute it at one input. -/
def pathHigherCostsWrong : ChangeSpec := { name := "pathHigherCosts", fn := fun _ => fun
  | [d1, d2, d3, d4] => { results := [.lit (.bool false)], args := [d1, d2, d3, d4] }
  | _ => none }
def PathHigherCostsWrongFalsely : Prop := pathHigherCostsRow.holds Try.pinned (OpenSpec.ofChange pathHigherCostsWrong)

/-- 'pylonlaw27.PathOptimality': WHATEVER THE INPUT: true; the input reads as it did. -/
def pathOptimalitySpec : ChangeSpec := { name := "pathOptimality", fn := fun _ => fun
  | [d1, d2, d3] => { results := [.lit (.bool true)], args := [d1, d2, d3] }
  | _ => none }
def pathOptimalityRow : OpenClaim := { program := "ytjinpfnefeiooaa", sum := "4baa8caa66254288e6ff8b2b648ee29b272320e6b9a1ec9720b536cafee7213b", func := "pylon/pylonlaw27.PathOptimality", spec := "pathOptimality", unfollowed := true, recurses := true, apart := false }
def PathOptimalitySaid : Prop := pathOptimalityRow.holds Try.pinned (OpenSpec.ofChange pathOptimalitySpec)

/-- ITS FALSE NEIGHBOUR: 'it returns false'. Refute it at one input. -/
def pathOptimalityWrong : ChangeSpec := { name := "pathOptimality", fn := fun _ => fun
  | [d1, d2, d3] => { results := [.lit (.bool false)], args := [d1, d2, d3] }
  | _ => none }
def PathOptimalityWrongFalsely : Prop := pathOptimalityRow.holds Try.pinned (OpenSpec.ofChange pathOptimalityWrong)

/-- 'pylonlaw27.PathDynamicProgramming': WHATEVER THE INPUT: true; the input reads as it did. -/
def pathDynamicProgrammingSpec : ChangeSpec := { name := "pathDynamicProgramming", fn := fun _ => fun
  | [d1, d2, d3] => { results := [.lit (.bool true)], args := [d1, d2, d3] }
  | _ => none }
def pathDynamicProgrammingRow : OpenClaim := { program := "ytjinpfnefeiooaa", sum := "4baa8caa66254288e6ff8b2b648ee29b272320e6b9a1ec9720b536cafee7213b", func := "pylon/pylonlaw27.PathDynamicProgramming", spec := "pathDynamicProgramming", unfollowed := true, recurses := true, apart := false }
def PathDynamicProgrammingSaid : Prop := pathDynamicProgrammingRow.holds Try.pinned (OpenSpec.ofChange pathDynamicProgrammingSpec)

/-- ITS FALSE NEIGHBOUR: 'it returns false'. Refute it at one input. -/
def pathDynamicProgrammingWrong : ChangeSpec := { name := "pathDynamicProgramming", fn := fun _ => fun
  | [d1, d2, d3] => { results := [.lit (.bool false)], args := [d1, d2, d3] }
  | _ => none }
def PathDynamicProgrammingWrongFalsely : Prop := pathDynamicProgrammingRow.holds Try.pinned (OpenSpec.ofChange pathDynamicProgrammingWrong)

/-- 'pylonlaw27.PathHigherPrices': WHATEVER THE INPUT: true; the input reads as it did. -/
def pathHigherPricesSpec : ChangeSpec := { name := "pathHigherPrices", fn := fun _ => fun
  | [d1, d2, d3] => { results := [.lit (.bool true)], args := [d1, d2, d3] }
  | _ => none }
def pathHigherPricesRow : OpenClaim := { program := "ytjinpfnefeiooaa", sum := "4baa8caa66254288e6ff8b2b648ee29b272320e6b9a1ec9720b536cafee7213b", func := "pylon/pylonlaw27.PathHigherPrices", spec := "pathHigherPrices", unfollowed := true, recurses := true, apart := false }
def PathHigherPricesSaid : Prop := pathHigherPricesRow.holds Try.pinned (OpenSpec.ofChange pathHigherPricesSpec)

/-- ITS FALSE NEIGHBOUR: 'it returns false'. Refute it at one input. -/
def pathHigherPricesWrong : ChangeSpec := { name := "pathHigherPrices", fn := fun _ => fun
  | [d1, d2, d3] => { results := [.lit (.bool false)], args := [d1, d2, d3] }
  | _ => none }
def PathHigherPricesWrongFalsely : Prop := pathHigherPricesRow.holds Try.pinned (OpenSpec.ofChange pathHigherPricesWrong)

/-- 'pylonlaw27.PathHourOptimal': WHATEVER THE INPUT: true; the input reads as it did. -/
def pathHourOptimalSpec : ChangeSpec := { name := "pathHourOptimal", fn := fun _ => fun
  | [d1, d2, d3] => { results := [.lit (.bool true)], args := [d1, d2, d3] }
  | _ => none }
def pathHourOptimalRow : OpenClaim := { program := "ytjinpfnefeiooaa", sum := "4baa8caa66254288e6ff8b2b648ee29b272320e6b9a1ec9720b536cafee7213b", func := "pylon/pylonlaw27.PathHourOptimal", spec := "pathHourOptimal", unfollowed := true, recurses := true, apart := false }
def PathHourOptimalSaid : Prop := pathHourOptimalRow.holds Try.pinned (OpenSpec.ofChange pathHourOptimalSpec)

/-- ITS FALSE NEIGHBOUR: 'it returns false'. Refute it at one input. -/
def pathHourOptimalWrong : ChangeSpec := { name := "pathHourOptimal", fn := fun _ => fun
  | [d1, d2, d3] => { results := [.lit (.bool false)], args := [d1, d2, d3] }
  | _ => none }
def PathHourOptimalWrongFalsely : Prop := pathHourOptimalRow.holds Try.pinned (OpenSpec.ofChange pathHourOptimalWrong)

/- THE SECOND FORM. 'bulk': how many values and letters a reading holds, each counted each time it is reached (what is shared counts as often as it is met; a slice's spare places count too). A statement '..UptoSaid' is the law's where the arguments, and the package variables that the reading takes, are together of bulk at most 1048576: NARROWER than '..Said'. Prove '..Said' where nothing that the law and all that it calls make is longer than what came in: it says more and counts as full. Else prove '..UptoSaid'. A law counts once. -/
mutual
def uptoBulk {H : Type} : DataW H → Nat
  | .lit (.string bytes) => bytes.length + 1
  | .lit _ => 1
  | .nil => 1
  | .ptr d => uptoBulk d + 1
  | .slice elems spare => uptoBulkAll elems + uptoBulkAll spare + 1
  | .agg parts => uptoBulkAll parts + 1
  | .iface _ d => uptoBulk d + 1
  | .map entries => uptoBulkEntries entries + 1
  | .held _ => 1
def uptoBulkAll {H : Type} : List (DataW H) → Nat
  | [] => 0
  | d :: r => uptoBulk d + uptoBulkAll r
def uptoBulkEntries {H : Type} : List (Lit × DataW H) → Nat
  | [] => 0
  | x :: r => uptoBulkEntry x + uptoBulkEntries r
def uptoBulkEntry {H : Type} : Lit × DataW H → Nat
  | (.string bytes, d) => bytes.length + uptoBulk d + 1
  | (_, d) => uptoBulk d + 1
 end
def uptoSmall : (H : Type) → List (DataW H) → Bool := fun _ ds => decide (uptoBulkAll ds ≤ 1048576)
def OpenSpec.upto (s : _root_.Go.ChangeSpec) : _root_.Go.OpenSpec := { _root_.Go.OpenSpec.ofChange s with cond := some uptoSmall }

/-- 'pylonlaw27.PathHigherCosts', WHERE WHAT IT READS IS OF BULK AT MOST 1048576: true; the input reads as it did. -/
def pathHigherCostsUptoRow : OpenClaim := { program := "ytjinpfnefeiooaa", sum := "4baa8caa66254288e6ff8b2b648ee29b272320e6b9a1ec9720b536cafee7213b", func := "pylon/pylonlaw27.PathHigherCosts", spec := "pathHigherCosts", unfollowed := true, recurses := true, apart := false, narrowed := true }
def PathHigherCostsUptoSaid : Prop := pathHigherCostsUptoRow.holds Try.pinned (OpenSpec.upto pathHigherCostsSpec)

/-- 'pylonlaw27.PathOptimality', WHERE WHAT IT READS IS OF BULK AT MOST 1048576: true; the input reads as it did. -/
def pathOptimalityUptoRow : OpenClaim := { program := "ytjinpfnefeiooaa", sum := "4baa8caa66254288e6ff8b2b648ee29b272320e6b9a1ec9720b536cafee7213b", func := "pylon/pylonlaw27.PathOptimality", spec := "pathOptimality", unfollowed := true, recurses := true, apart := false, narrowed := true }
def PathOptimalityUptoSaid : Prop := pathOptimalityUptoRow.holds Try.pinned (OpenSpec.upto pathOptimalitySpec)

/-- 'pylonlaw27.PathDynamicProgramming', WHERE WHAT IT READS IS OF BULK AT MOST 1048576: true; the input reads as it did. -/
def pathDynamicProgrammingUptoRow : OpenClaim := { program := "ytjinpfnefeiooaa", sum := "4baa8caa66254288e6ff8b2b648ee29b272320e6b9a1ec9720b536cafee7213b", func := "pylon/pylonlaw27.PathDynamicProgramming", spec := "pathDynamicProgramming", unfollowed := true, recurses := true, apart := false, narrowed := true }
def PathDynamicProgrammingUptoSaid : Prop := pathDynamicProgrammingUptoRow.holds Try.pinned (OpenSpec.upto pathDynamicProgrammingSpec)

/-- 'pylonlaw27.PathHigherPrices', WHERE WHAT IT READS IS OF BULK AT MOST 1048576: true; the input reads as it did. -/
def pathHigherPricesUptoRow : OpenClaim := { program := "ytjinpfnefeiooaa", sum := "4baa8caa66254288e6ff8b2b648ee29b272320e6b9a1ec9720b536cafee7213b", func := "pylon/pylonlaw27.PathHigherPrices", spec := "pathHigherPrices", unfollowed := true, recurses := true, apart := false, narrowed := true }
def PathHigherPricesUptoSaid : Prop := pathHigherPricesUptoRow.holds Try.pinned (OpenSpec.upto pathHigherPricesSpec)

/-- 'pylonlaw27.PathHourOptimal', WHERE WHAT IT READS IS OF BULK AT MOST 1048576: true; the input reads as it did. -/
def pathHourOptimalUptoRow : OpenClaim := { program := "ytjinpfnefeiooaa", sum := "4baa8caa66254288e6ff8b2b648ee29b272320e6b9a1ec9720b536cafee7213b", func := "pylon/pylonlaw27.PathHourOptimal", spec := "pathHourOptimal", unfollowed := true, recurses := true, apart := false, narrowed := true }
def PathHourOptimalUptoSaid : Prop := pathHourOptimalUptoRow.holds Try.pinned (OpenSpec.upto pathHourOptimalSpec)

end Rows
end Go.Proofs.Ytjinpfnefeiooaa
