/- A part of the proof. -/
import Derived.Test.YtjinpfnefeiooaaGreatStepX
namespace Go.Proofs.YtjinpfnefeiooaaGreat
open Go.RowKit
theorem rlt_of_le_of_lt {a b c : Rat} (h1 : a ≤ b) (h2 : b < c) : a < c := by
 refine Rat.not_le.1 fun h => ?_
 exact Rat.not_le.2 h2 (Rat.le_trans h h1)
abbrev InR (l : List (Int × Int)) : Prop := ∀ x ∈ l, 1 ≤ x.1 ∧ x.1 ≤ 1000000 ∧ -1000000 ≤ x.2 ∧ x.2 ≤ 1000000
section
variable {l : List (Int × Int)} {p q : Rat} (hr : InR l)
include hr
end
end Go.Proofs.YtjinpfnefeiooaaGreat
namespace Go.Proofs.YtjinpfnefeiooaaGreat
open Go.RowKit

def C (q : Rat) : List (Int × Int) → Rat
 | [] => 0
 | x :: r => minQ q x.1 * x.2 + C (q - minQ q x.1) r
def V (lam : Rat) : List (Int × Int) → Rat
 | [] => 0
 | x :: r => minQ 0 (((x.2 : Int) - lam) * (x.1 : Int)) + V lam r
end Go.Proofs.YtjinpfnefeiooaaGreat
namespace Go.Proofs.YtjinpfnefeiooaaGreat
open Go.RowKit

theorem alloc_ok {xs : List (Int × Int)} {q : Rat} : allocE xs q = 0 ↔ crv xs = 0 ∧ 0 ≤ q ∧ q ≤ (sumQ xs : Int) := by
 unfold allocE
 by_cases h : crv xs = 0
 ·rw [if_neg (by simp [h])]
  have ht : total xs = sumQ xs := by unfold total; rw [if_pos h]
  rw [ht]
  by_cases h2 : q < 0 ∨ ((sumQ xs : Int) : Rat) < q
  ·rw [if_pos h2]
   refine ⟨(fun e => by cases e), fun e => ?_⟩
   rcases h2 with h2 | h2
   ·exact absurd h2 (Rat.not_lt.2 e.2.1)
   ·exact absurd h2 (Rat.not_lt.2 e.2.2)
  ·rw [if_neg h2]
   refine ⟨fun _ => ⟨h, Rat.not_lt.1 (fun e => h2 (.inl e)), Rat.not_lt.1 (fun e => h2 (.inr e))⟩, fun _ => rfl⟩
 ·rw [if_pos h]
  exact ⟨fun e => absurd e h, fun e => absurd e.1 h⟩
end Go.Proofs.YtjinpfnefeiooaaGreat
