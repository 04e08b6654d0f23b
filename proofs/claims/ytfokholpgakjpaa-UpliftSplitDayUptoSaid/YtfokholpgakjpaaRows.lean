/-
  No cell of these rows narrows 'for every input' (looked for: loops, veiled, ifaces, maps, wideKeys, modest, calm, conditions, laid).
  DERIVED. THE GIVEN ROWS OF THIS SEAT. 3 by the template 'for every input the law returns true; each argument reads behind the call as it read before'; 0 by the template 'total and deterministic' (their statements: YtfokholpgakjpaaTotals.lean).
  GIVEN WITH THE SEED: the statements are not yours to turn. If you find one false, say at which input.
  Laid BY PROGRAM, IN A SANDBOX (cutbox-rows.mjs): the forced cells as the released guide's own fill.sh prints them over the translation 82cb822e3db5b898… (all of the seat's roots in one cut). By AI agents, Wed Nov 11 2026. No macro, syntax, notation, axiom, sorry.
-/
import Derived.Test.YtfokholpgakjpaaChecked
import GoSem.Claim
import GoSem.ClaimJoined
import GoSem.ClaimMapViews
import Derived.JoinedTies
import Derived.KernelRfl
namespace Go.Proofs.Ytfokholpgakjpaa
/- THE CELL 'sum', in the pinned program and in every row, IS THE sha256 OF THE DUMP (.gsa) THAT YtfokholpgakjpaaProg.lean LOADS. Nothing in Lean hashes anything: it is a label: what it is worth is what the hold of that sum in a sandbox is worth. -/
noncomputable def Try.pinned : Pinned := { name := "ytfokholpgakjpaa", sum := "82cb822e3db5b898386344b57cee3aee54889217a6c5722586d714536df696a2", checked := Try.checked }
namespace Rows
def none {H : Type} : Left H := { results := [], args := [] }

/-- 'pylonlaw37.UpliftRecovers': WHATEVER THE INPUT: true; the input reads as it did. -/
def upliftRecoversSpec : ChangeSpec := { name := "upliftRecovers", fn := fun _ => fun
  | [d1, d2] => { results := [.lit (.bool true)], args := [d1, d2] }
  | _ => none }
def upliftRecoversRow : OpenClaim := { program := "ytfokholpgakjpaa", sum := "82cb822e3db5b898386344b57cee3aee54889217a6c5722586d714536df696a2", func := "pylon/pylonlaw37.UpliftRecovers", spec := "upliftRecovers", unfollowed := true, recurses := true, apart := false }
def UpliftRecoversSaid : Prop := upliftRecoversRow.holds Try.pinned (OpenSpec.ofChange upliftRecoversSpec)

/-- ITS FALSE NEIGHBOUR: 'it returns false'. Refute it at one input. -/
def upliftRecoversWrong : ChangeSpec := { name := "upliftRecovers", fn := fun _ => fun
  | [d1, d2] => { results := [.lit (.bool false)], args := [d1, d2] }
  | _ => none }
def UpliftRecoversWrongFalsely : Prop := upliftRecoversRow.holds Try.pinned (OpenSpec.ofChange upliftRecoversWrong)

/-- 'pylonlaw37.UpliftMonotone': WHATEVER THE INPUT: true; the input reads as it did. -/
def upliftMonotoneSpec : ChangeSpec := { name := "upliftMonotone", fn := fun _ => fun
  | [d1, d2, d3] => { results := [.lit (.bool true)], args := [d1, d2, d3] }
  | _ => none }
def upliftMonotoneRow : OpenClaim := { program := "ytfokholpgakjpaa", sum := "82cb822e3db5b898386344b57cee3aee54889217a6c5722586d714536df696a2", func := "pylon/pylonlaw37.UpliftMonotone", spec := "upliftMonotone", unfollowed := true, recurses := true, apart := false }
def UpliftMonotoneSaid : Prop := upliftMonotoneRow.holds Try.pinned (OpenSpec.ofChange upliftMonotoneSpec)

/-- ITS FALSE NEIGHBOUR: 'it returns false'. Refute it at one input. -/
def upliftMonotoneWrong : ChangeSpec := { name := "upliftMonotone", fn := fun _ => fun
  | [d1, d2, d3] => { results := [.lit (.bool false)], args := [d1, d2, d3] }
  | _ => none }
def UpliftMonotoneWrongFalsely : Prop := upliftMonotoneRow.holds Try.pinned (OpenSpec.ofChange upliftMonotoneWrong)

/-- 'pylonlaw37.UpliftSplitDay': WHATEVER THE INPUT: true; the input reads as it did. -/
def upliftSplitDaySpec : ChangeSpec := { name := "upliftSplitDay", fn := fun _ => fun
  | [d1, d2, d3, d4, d5] => { results := [.lit (.bool true)], args := [d1, d2, d3, d4, d5] }
  | _ => none }
def upliftSplitDayRow : OpenClaim := { program := "ytfokholpgakjpaa", sum := "82cb822e3db5b898386344b57cee3aee54889217a6c5722586d714536df696a2", func := "pylon/pylonlaw37.UpliftSplitDay", spec := "upliftSplitDay", unfollowed := true, recurses := true, apart := false }
def UpliftSplitDaySaid : Prop := upliftSplitDayRow.holds Try.pinned (OpenSpec.ofChange upliftSplitDaySpec)

/-- ITS FALSE NEIGHBOUR: 'it returns false'. Refute it at one input. -/
def upliftSplitDayWrong : ChangeSpec := { name := "upliftSplitDay", fn := fun _ => fun
  | [d1, d2, d3, d4, d5] => { results := [.lit (.bool false)], args := [d1, d2, d3, d4, d5] }
  | _ => none }
def UpliftSplitDayWrongFalsely : Prop := upliftSplitDayRow.holds Try.pinned (OpenSpec.ofChange upliftSplitDayWrong)

/- THE SECOND FORM. 'bulk': how many values and letters a reading holds, each counted each time it is reached (what is shared counts as often as it is met; a slice's spare places count too). A statement '..UptoSaid' is the law's where the arguments, and the package variables that the reading takes, are together of bulk at most 1048576: NARROWER than '..Said'. Prove '..Said' where nothing that the law and all that it calls make is longer than what came in: it says more and counts as full. Else prove '..UptoSaid'. A law counts once. -/
mutual
def uptoBulk {H : Type} : DataW H → Nat
  | .lit (.string bytes) => bytes.length + 1
  | .lit _ => 1
  | .nil => 1
  | .ptr d => uptoBulk d + 1
  | .slice elems spare => uptoBulkAll elems + uptoBulkAll spare + 1
  | .agg parts => uptoBulkAll parts + 1
  | .iface _ d => uptoBulk d + 1
  | .map entries => uptoBulkEntries entries + 1
  | .held _ => 1
def uptoBulkAll {H : Type} : List (DataW H) → Nat
  | [] => 0
  | d :: r => uptoBulk d + uptoBulkAll r
def uptoBulkEntries {H : Type} : List (Lit × DataW H) → Nat
  | [] => 0
  | x :: r => uptoBulkEntry x + uptoBulkEntries r
def uptoBulkEntry {H : Type} : Lit × DataW H → Nat
  | (.string bytes, d) => bytes.length + uptoBulk d + 1
  | (_, d) => uptoBulk d + 1
 end
def uptoSmall : (H : Type) → List (DataW H) → Bool := fun _ ds => decide (uptoBulkAll ds ≤ 1048576)
def OpenSpec.upto (s : _root_.Go.ChangeSpec) : _root_.Go.OpenSpec := { _root_.Go.OpenSpec.ofChange s with cond := some uptoSmall }

/-- 'pylonlaw37.UpliftRecovers', WHERE WHAT IT READS IS OF BULK AT MOST 1048576: true; the input reads as it did. -/
def upliftRecoversUptoRow : OpenClaim := { program := "ytfokholpgakjpaa", sum := "82cb822e3db5b898386344b57cee3aee54889217a6c5722586d714536df696a2", func := "pylon/pylonlaw37.UpliftRecovers", spec := "upliftRecovers", unfollowed := true, recurses := true, apart := false, narrowed := true }
def UpliftRecoversUptoSaid : Prop := upliftRecoversUptoRow.holds Try.pinned (OpenSpec.upto upliftRecoversSpec)

/-- 'pylonlaw37.UpliftMonotone', WHERE WHAT IT READS IS OF BULK AT MOST 1048576: true; the input reads as it did. -/
def upliftMonotoneUptoRow : OpenClaim := { program := "ytfokholpgakjpaa", sum := "82cb822e3db5b898386344b57cee3aee54889217a6c5722586d714536df696a2", func := "pylon/pylonlaw37.UpliftMonotone", spec := "upliftMonotone", unfollowed := true, recurses := true, apart := false, narrowed := true }
def UpliftMonotoneUptoSaid : Prop := upliftMonotoneUptoRow.holds Try.pinned (OpenSpec.upto upliftMonotoneSpec)

/-- 'pylonlaw37.UpliftSplitDay', WHERE WHAT IT READS IS OF BULK AT MOST 1048576: true; the input reads as it did. -/
def upliftSplitDayUptoRow : OpenClaim := { program := "ytfokholpgakjpaa", sum := "82cb822e3db5b898386344b57cee3aee54889217a6c5722586d714536df696a2", func := "pylon/pylonlaw37.UpliftSplitDay", spec := "upliftSplitDay", unfollowed := true, recurses := true, apart := false, narrowed := true }
def UpliftSplitDayUptoSaid : Prop := upliftSplitDayUptoRow.holds Try.pinned (OpenSpec.upto upliftSplitDaySpec)

end Rows
end Go.Proofs.Ytfokholpgakjpaa
