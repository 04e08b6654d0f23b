/- Plain facts for the law StepOptimalQuantities, in the words of its walk. -/
import Derived.Test.YtppcpklnnbgcjaaOptP
import Derived.Test.YtppcpklnnbgcjaaGot
namespace Go.Proofs.Ytppcpklnnbgcjaa
open Go.RowKit

theorem total_sum {xs : List (Int × Int)} (h : crv xs = 0) : total xs = sumQ xs := by unfold total; rw [if_pos h]
theorem costV_at {xs : List (Int × Int)} {q : Rat} (h : crv xs = 0) (h0 : 0 ≤ q) (h1 : q ≤ (total xs : Int)) : costV xs q = C q xs := by
  rw [total_sum h] at h1
  exact costV_C (alloc_ok.2 ⟨h, h0, h1⟩)
theorem opt_facts (bid : Bool) {xs : List (Int × Int)} {p q : Rat} (hc : chk (!bid) xs = 0) (h0 : 0 ≤ q) (h1 : q ≤ (total xs : Int)) :
    0 ≤ wantL (!bid) xs p ∧ wantL (!bid) xs p ≤ wantM (!bid) xs p ∧ wantM (!bid) xs p ≤ total xs ∧
    profit xs p (wantL (!bid) xs p : Int) bid = profit xs p (wantM (!bid) xs p : Int) bid ∧
    ((((wantL (!bid) xs p : Int) : Rat) ≤ q ∧ q ≤ ((wantM (!bid) xs p : Int) : Rat)) → profit xs p q bid = profit xs p (wantL (!bid) xs p : Int) bid) ∧
    (¬ (((wantL (!bid) xs p : Int) : Rat) ≤ q ∧ q ≤ ((wantM (!bid) xs p : Int) : Rat)) → profit xs p q bid < profit xs p (wantL (!bid) xs p : Int) bid) := by
  have hv : crv xs = 0 := (crv_or xs).1 (by cases bid; exact .inl hc; exact .inr hc)
  obtain ⟨_, _, hr⟩ := crv_range hv
  have ht := total_sum hv
  have hw := will_bd (if (!bid) then -1 else 1) p hr
  have eL : wantL (!bid) xs p = leastOf (if (!bid) then -1 else 1) p xs := by unfold wantL; rw [if_pos hc]
  have eM : wantM (!bid) xs p = mostOf (if (!bid) then -1 else 1) p xs := by unfold wantM; rw [if_pos hc]
  have a0 : (0 : Rat) ≤ ((wantL (!bid) xs p : Int) : Rat) := Rat.intCast_nonneg.2 (by rw [eL]; exact hw.1)
  have a1 : ((wantL (!bid) xs p : Int) : Rat) ≤ ((total xs : Int) : Rat) := Rat.intCast_le_intCast.2 (by rw [eL, ht]; omega)
  have b0 : (0 : Rat) ≤ ((wantM (!bid) xs p : Int) : Rat) := Rat.intCast_nonneg.2 (by rw [eM]; omega)
  have b1 : ((wantM (!bid) xs p : Int) : Rat) ≤ ((total xs : Int) : Rat) := Rat.intCast_le_intCast.2 (by rw [eM, ht]; omega)
  refine ⟨by rw [eL]; exact hw.1, by rw [eL, eM]; exact hw.2.1, by rw [eM, ht]; exact hw.2.2, ?_⟩
  unfold profit
  rw [costV_at hv a0 a1, costV_at hv b0 b1, costV_at hv h0 h1]
  rw [ht] at h1
  rw [eL, eM]
  cases bid
  · exact opt_core p hr (chk_rise hc) h0 h1
  · exact opt_bid p hr (chk_fall hc) h0 h1
end Go.Proofs.Ytppcpklnnbgcjaa
