/- Plain facts for the law StepNegation. -/
import Derived.Test.YtppcpklnnbgcjaaNeg
import Derived.Test.YtppcpklnnbgcjaaOptP
namespace Go.Proofs.Ytppcpklnnbgcjaa
open Go.RowKit

theorem negW_in {p : Int} (h1 : -9223372036854775808 < p) (h2 : p ≤ 9223372036854775807) : negW p = -p := IntWalk.wrap64_in _ ⟨by omega, by omega⟩
theorem negW_lo : negW (-9223372036854775808) = -9223372036854775808 := by unfold negW wrap64; decide +kernel
theorem negW_negW {p : Int} (h : I64r p) : negW (negW p) = p := by
  unfold I64r at h
  by_cases e : p = -9223372036854775808
  · subst e; rw [negW_lo, negW_lo]
  · rw [negW_in (p := p) (by omega) (by omega), negW_in (by omega) (by omega)]; omega
theorem stepB_neg {q p : Int} (h : I64r p) : stepB q (negW p) = stepB q p := by
  unfold I64r at h
  unfold stepB
  by_cases e : p = -9223372036854775808
  · subst e; rw [negW_lo]
  · rw [negW_in (p := p) (by omega) (by omega)]
    have e1 : decide (-1000000 ≤ -p) = decide (p ≤ 1000000) := by rw [decide_eq_decide]; omega
    have e2 : decide (-p ≤ 1000000) = decide (-1000000 ≤ p) := by rw [decide_eq_decide]; omega
    rw [e1, e2]
    cases decide (1 ≤ q) <;> cases decide (q ≤ 1000000) <;> cases decide (p ≤ 1000000) <;> cases decide (-1000000 ≤ p) <;> rfl
theorem stepB_in {q p : Int} (h : stepB q p = true) : -1000000 ≤ p ∧ p ≤ 1000000 := by
  simp only [stepB, Bool.and_eq_true, decide_eq_true_eq] at h
  omega
theorem chkFrom_neg (r : Bool) : ∀ (l : List (Int × Int)) (prev : Option Int), (∀ x ∈ l, I64r x.2) → (∀ a, prev = some a → -1000000 ≤ a ∧ a ≤ 1000000) → chkFrom r (negL l) (prev.map negW) = chkFrom (!r) l prev
  | [], _, _, _ => rfl
  | (q, p) :: t, prev, hl, hp => by
    have hx := hl (q, p) (by simp)
    show chkFrom r ((q, negW p) :: negL t) (prev.map negW) = _
    rw [chkFrom_cons, chkFrom_cons, stepB_neg hx]
    by_cases hs : stepB q p = true
    · rw [if_pos hs, if_pos hs]
      obtain ⟨b1, b2⟩ := stepB_in hs
      have hpv : prevOk r (prev.map negW) (negW p) = prevOk (!r) prev p := by
        cases prev with
        | none => rfl
        | some a =>
          obtain ⟨a1, a2⟩ := hp a rfl
          show folB r (negW a) (negW p) = folB (!r) a p
          rw [negW_in (p := a) (by omega) (by omega), negW_in (p := p) (by omega) (by omega)]
          unfold folB
          cases r
          · simp only [Bool.false_eq_true, if_false, Bool.not_false, if_true]
            rw [decide_eq_decide]; omega
          · simp only [if_true, Bool.not_true, Bool.false_eq_true, if_false]
            rw [decide_eq_decide]; omega
      rw [hpv]
      have ih := chkFrom_neg r t (some p) (fun x hx => hl x (by simp [hx])) (fun a ha => by injection ha with ha; subst ha; exact ⟨b1, b2⟩)
      rw [show (some (negW p)) = (some p).map negW from rfl, ih]
    · rw [if_neg hs, if_neg hs]
theorem negL_len (l : List (Int × Int)) : (negL l).length = l.length := by simp [negL]
theorem chk_neg (r : Bool) {l : List (Int × Int)} (hl : ∀ x ∈ l, I64r x.2) : chk r (negL l) = chk (!r) l := by
  unfold chk
  rw [negL_len, show (none : Option Int) = (none : Option Int).map negW from rfl, chkFrom_neg r l none hl (fun a ha => by cases ha)]
  rfl
theorem negL_negL {l : List (Int × Int)} (hl : ∀ x ∈ l, I64r x.2) : negL (negL l) = l := by
  unfold negL
  rw [List.map_map]
  refine (List.map_congr_left fun x hx => ?_).trans (List.map_id l)
  show (x.1, negW (negW x.2)) = x
  rw [negW_negW (hl x hx)]
theorem crv_neg {l : List (Int × Int)} (hl : ∀ x ∈ l, I64r x.2) : crv (negL l) = 0 ↔ crv l = 0 := by
  rw [← crv_or, ← crv_or, chk_neg true hl, chk_neg false hl]
  exact Or.comm
theorem negL_map {l : List (Int × Int)} (h : InRange l) : negL l = l.map fun x => (x.1, -x.2) := by
  unfold negL
  refine List.map_congr_left fun x hx => ?_
  have := h x hx
  rw [negW_in (by omega) (by omega)]
theorem i64_of_range {l : List (Int × Int)} (h : InRange l) : ∀ x ∈ l, I64r x.2 := fun x hx => by
  have := h x hx
  unfold I64r
  omega
theorem neg_curve {xs : List (Int × Int)} (h0 : crv xs = 0) (q p : Rat) : allocE (negL xs) q = allocE xs q ∧ costV (negL xs) q = -costV xs q ∧ wantL true xs p = wantL false (negL xs) (-p) ∧ wantM true xs p = wantM false (negL xs) (-p) := by
  obtain ⟨_, _, hr⟩ := crv_range h0
  have hi := i64_of_range hr
  have hc := (crv_neg hi).2 h0
  have hm := negL_map hr
  have hs : sumQ (negL xs) = sumQ xs := by rw [hm, sumQ_neg]
  have ha : allocE (negL xs) q = allocE xs q := by
    unfold allocE total
    rw [if_pos hc, if_pos h0, hs]
    simp [hc, h0]
  refine ⟨ha, ?_, ?_, ?_⟩
  · unfold costV
    rw [ha]
    by_cases e : allocE xs q = 0
    · rw [if_pos e, if_pos e, costTo_C, costTo_C, hm, C_neg]
    · rw [if_neg e, if_neg e]; rfl
  · unfold wantL
    rw [chk_neg false hi]
    simp only [Bool.not_false, if_true, Bool.false_eq_true, if_false]
    have := least_neg (-p) (negL xs)
    rw [← negL_map (by rw [hm]; exact range_neg hr), negL_negL hi, Rat.neg_neg] at this
    rw [this]
  · unfold wantM
    rw [chk_neg false hi]
    simp only [Bool.not_false, if_true, Bool.false_eq_true, if_false]
    have := most_neg (-p) (negL xs)
    rw [← negL_map (by rw [hm]; exact range_neg hr), negL_negL hi, Rat.neg_neg] at this
    rw [this]
end Go.Proofs.Ytppcpklnnbgcjaa
