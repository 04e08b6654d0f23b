/- The great region of StepExamples: one order serves. Printed by gen_sx.py. -/
import Derived.Test.YtppcpklnnbgcjaaLexW
import Derived.Test.YtppcpklnnbgcjaaRows
namespace Go.Proofs.Ytppcpklnnbgcjaa
open Go.RowKit

set_option maxRecDepth 100000 in
theorem sx_lexB : lexWB .any ((Try.f6.body.bind (regionOf 18 100)).getD #[]) = true := by kernel_rfl
end Go.Proofs.Ytppcpklnnbgcjaa
