/- Contracts of whole.carrier and of the function that it returns. -/
import Derived.Test.YtppcpklnnbgcjaaCmpW
namespace Go.Proofs.Ytppcpklnnbgcjaa
open Go.RowKit

/-- The function that carrier returns: it holds the block of its carry. -/
abbrev carV (g : Nat) : Value := .func (.func 101) #[] #[.pointer (some ⟨g, 0, none⟩)]

set_option maxHeartbeats 400000 in
theorem carrier_any (c : Nat) (w : World) :
    Calls Try.prog 81 #[.int .u64 c] w fun e w' => e = .returned (carV w.heap.size) ∧ w' = w.alloc (.cells #[.int .u64 (c : Int)] 88) := by
  go_enter Try.func81, Try.ntmps81
  go_wp2_with fail
  go_ret
  exact ⟨rfl, rfl⟩

set_option maxHeartbeats 400000 in
/-- next(x): the low word of x and the carry; the rest is the next carry. -/
theorem next_any (g : Nat) (x c : Nat) (z : Int) (w : World) (hz : z = x) (hx : x + c < 18446744073709551616) (hc : w.cell? ⟨g, 0, none⟩ = some (.int .u64 (c : Int))) (hf : w.frozen? ⟨g, 0, none⟩ = false) :
    Calls Try.prog 101 #[.int .u64 z, .pointer (some ⟨g, 0, none⟩)] w fun e w' => e = .returned (.int .u32 ((x + c) % 4294967296 : Nat)) ∧ w' = w.setCell ⟨g, 0, none⟩ (.int .u64 ((x + c) / 4294967296 : Nat)) := by
  subst hz
  go_enter Try.func101, Try.ntmps101
  go_wp2_with fail
  go_ret
  refine ⟨?_, ?_⟩
  · simp
  · simp
end Go.Proofs.Ytppcpklnnbgcjaa
