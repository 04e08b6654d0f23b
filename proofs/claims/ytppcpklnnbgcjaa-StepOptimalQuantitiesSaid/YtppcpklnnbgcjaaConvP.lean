/- Plain facts for the law StepConvexity. -/
import Derived.Test.YtppcpklnnbgcjaaFillP
namespace Go.Proofs.Ytppcpklnnbgcjaa
open Go.RowKit

theorem alloc_ok {xs : List (Int × Int)} {q : Rat} : allocE xs q = 0 ↔ crv xs = 0 ∧ 0 ≤ q ∧ q ≤ (sumQ xs : Int) := by
  unfold allocE
  by_cases h : crv xs = 0
  · rw [if_neg (by simp [h])]
    have ht : total xs = sumQ xs := by unfold total; rw [if_pos h]
    rw [ht]
    by_cases h2 : q < 0 ∨ ((sumQ xs : Int) : Rat) < q
    · rw [if_pos h2]
      refine ⟨(fun e => by cases e), fun e => ?_⟩
      rcases h2 with h2 | h2
      · exact absurd h2 (Rat.not_lt.2 e.2.1)
      · exact absurd h2 (Rat.not_lt.2 e.2.2)
    · rw [if_neg h2]
      refine ⟨fun _ => ⟨h, Rat.not_lt.1 (fun e => h2 (.inl e)), Rat.not_lt.1 (fun e => h2 (.inr e))⟩, fun _ => rfl⟩
  · rw [if_pos h]
    exact ⟨fun e => absurd e h, fun e => absurd e.1 h⟩
theorem costV_C {xs : List (Int × Int)} {q : Rat} (h : allocE xs q = 0) : costV xs q = C q xs := by
  unfold costV
  rw [if_pos h, costTo_C]
theorem half_two : Rat.divInt 1 2 + Rat.divInt 1 2 = 1 := by decide +kernel
theorem mul_half (x : Rat) : Rat.divInt 1 2 * x + Rat.divInt 1 2 * x = x := by rw [← Rat.add_mul, half_two, Rat.one_mul]
theorem crv_ne {xs : List (Int × Int)} (h : crv xs = 0) : xs ≠ [] := by
  rintro rfl
  have := (crv_range h).1
  simp at this
theorem conv_facts {xs : List (Int × Int)} {a b : Rat} (ha : allocE xs a = 0) (hb : allocE xs b = 0) :
    allocE xs (Rat.divInt 1 2 * (a + b)) = 0 ∧ (chk true xs = 0 → ¬ cmpQ (Rat.divInt 1 2 * (costV xs a + costV xs b)) (costV xs (Rat.divInt 1 2 * (a + b))) < 0) ∧ (chk false xs = 0 → ¬ 0 < cmpQ (Rat.divInt 1 2 * (costV xs a + costV xs b)) (costV xs (Rat.divInt 1 2 * (a + b)))) := by
  obtain ⟨h0, a0, a1⟩ := alloc_ok.1 ha
  obtain ⟨_, b0, b1⟩ := alloc_ok.1 hb
  have hz := mul_half (a + b)
  have hc := mul_half (costV xs a + costV xs b)
  generalize Rat.divInt 1 2 * (a + b) = z at *
  generalize Rat.divInt 1 2 * (costV xs a + costV xs b) = k at *
  have hzz : allocE xs z = 0 := alloc_ok.2 ⟨h0, by grind, by grind⟩
  obtain ⟨_, _, hr⟩ := crv_range h0
  rw [costV_C ha, costV_C hb] at hc
  refine ⟨hzz, fun h1 => ?_, fun h1 => ?_⟩
  · rw [cmpQ_neg, costV_C hzz]
    have := C_convex hr (chk_rise h1) a0 a1 b0 b1 hz (crv_ne h0)
    refine Rat.not_lt.2 ?_
    grind
  · rw [cmpQ_pos, costV_C hzz]
    have := C_convex (range_neg hr) (chk_fall h1) a0 (by rw [sumQ_neg]; exact a1) b0 (by rw [sumQ_neg]; exact b1) hz (by simp [crv_ne h0])
    rw [C_neg, C_neg, C_neg] at this
    refine Rat.not_lt.2 ?_
    grind
end Go.Proofs.Ytppcpklnnbgcjaa
