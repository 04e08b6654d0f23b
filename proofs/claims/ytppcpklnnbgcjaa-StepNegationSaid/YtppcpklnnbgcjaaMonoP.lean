/- Plain facts: what is wanted at a higher price. -/
import Derived.Test.YtppcpklnnbgcjaaStepC
namespace Go.Proofs.Ytppcpklnnbgcjaa
open Go.RowKit

theorem cmp_is (x p : Rat) : (cmpQ x p = -1 ↔ x < p) ∧ (cmpQ x p = 1 ↔ p < x) ∧ (cmpQ x p = 0 ↔ x = p) := by
  unfold cmpQ
  by_cases h1 : x < p
  · have h2 : ¬ p < x := Rat.not_lt.2 (Rat.le_of_lt h1)
    have h3 : x ≠ p := Rat.ne_of_lt h1
    simp [h1, h2, h3]
  · by_cases h2 : p < x
    · have h3 : x ≠ p := Ne.symm (Rat.ne_of_lt h2)
      simp [h1, h2, h3]
    · have h3 : x = p := Rat.le_antisymm (Rat.not_lt.1 h2) (Rat.not_lt.1 h1)
      simp [h3]
theorem rlt_of_lt_of_le {a b c : Rat} (h1 : a < b) (h2 : b ≤ c) : a < c := by
  refine Rat.not_le.1 fun h => ?_
  exact Rat.not_le.2 h1 (Rat.le_trans h2 h)
theorem rlt_of_le_of_lt {a b c : Rat} (h1 : a ≤ b) (h2 : b < c) : a < c := by
  refine Rat.not_le.1 fun h => ?_
  exact Rat.not_le.2 h2 (Rat.le_trans h h1)
theorem rle_of_not {a b : Rat} (h : ¬ b < a) : a ≤ b := Rat.not_lt.1 h
theorem sum_le (f g : Int × Int → Int) : ∀ {l : List (Int × Int)}, (∀ x ∈ l, f x ≤ g x) → (l.map f).sum ≤ (l.map g).sum
  | [], _ => by simp
  | x :: r, h => by
    have h1 := h x (by simp)
    have h2 := sum_le f g (l := r) fun y hy => h y (by simp [hy])
    simp only [List.map_cons, List.sum_cons]
    omega
theorem least_sum (side : Int) (p : Rat) : ∀ l : List (Int × Int), leastOf side p l = (l.map fun x => if cmpQ (x.2 : Int) p = side then x.1 else 0).sum
  | [] => rfl
  | x :: r => by simp only [leastOf, List.map_cons, List.sum_cons, least_sum side p r]
theorem most_sum (side : Int) (p : Rat) : ∀ l : List (Int × Int), mostOf side p l = (l.map fun x => if cmpQ (x.2 : Int) p = side ∨ cmpQ (x.2 : Int) p = 0 then x.1 else 0).sum
  | [] => rfl
  | x :: r => by simp only [mostOf, List.map_cons, List.sum_cons, most_sum side p r]
theorem pick_le {c d : Prop} [Decidable c] [Decidable d] {q : Int} (hq : 1 ≤ q) (h : c → d) : (if c then q else 0) ≤ (if d then q else 0) := by
  by_cases hc : c
  · rw [if_pos hc, if_pos (h hc)]; omega
  · rw [if_neg hc]
    split <;> omega
abbrev InR (l : List (Int × Int)) : Prop := ∀ x ∈ l, 1 ≤ x.1 ∧ x.1 ≤ 1000000 ∧ -1000000 ≤ x.2 ∧ x.2 ≤ 1000000
section
variable {l : List (Int × Int)} {p q : Rat} (hr : InR l)
include hr
theorem lo_up (h : p ≤ q) : leastOf (-1) p l ≤ leastOf (-1) q l := by
  rw [least_sum, least_sum]
  exact sum_le _ _ fun x hx => pick_le (hr x hx).1 fun e => (cmp_is _ _).1.2 (rlt_of_lt_of_le ((cmp_is _ _).1.1 e) h)
theorem hi_up (h : p ≤ q) : mostOf (-1) p l ≤ mostOf (-1) q l := by
  rw [most_sum, most_sum]
  refine sum_le _ _ fun x hx => pick_le (hr x hx).1 fun e => ?_
  rcases e with e | e
  · exact .inl ((cmp_is _ _).1.2 (rlt_of_lt_of_le ((cmp_is _ _).1.1 e) h))
  · have e2 := (cmp_is _ _).2.2.1 e
    rcases Rat.le_iff_lt_or_eq.1 h with h | h
    · exact .inl ((cmp_is _ _).1.2 (by rw [e2]; exact h))
    · exact .inr ((cmp_is _ _).2.2.2 (by rw [e2]; exact h))
theorem lo_down (h : p ≤ q) : leastOf 1 q l ≤ leastOf 1 p l := by
  rw [least_sum, least_sum]
  exact sum_le _ _ fun x hx => pick_le (hr x hx).1 fun e => (cmp_is _ _).2.1.2 (rlt_of_le_of_lt h ((cmp_is _ _).2.1.1 e))
theorem hi_down (h : p ≤ q) : mostOf 1 q l ≤ mostOf 1 p l := by
  rw [most_sum, most_sum]
  refine sum_le _ _ fun x hx => pick_le (hr x hx).1 fun e => ?_
  rcases e with e | e
  · exact .inl ((cmp_is _ _).2.1.2 (rlt_of_le_of_lt h ((cmp_is _ _).2.1.1 e)))
  · have e2 := (cmp_is _ _).2.2.1 e
    rcases Rat.le_iff_lt_or_eq.1 h with h | h
    · exact .inl ((cmp_is _ _).2.1.2 (by rw [e2]; exact h))
    · exact .inr ((cmp_is _ _).2.2.2 (by rw [e2]; exact h.symm))
theorem hi_lo_up (h : p < q) : mostOf (-1) p l ≤ leastOf (-1) q l := by
  rw [most_sum, least_sum]
  refine sum_le _ _ fun x hx => pick_le (hr x hx).1 fun e => ?_
  refine (cmp_is _ _).1.2 ?_
  rcases e with e | e
  · exact rlt_of_lt_of_le ((cmp_is _ _).1.1 e) (Rat.le_of_lt h)
  · rw [(cmp_is _ _).2.2.1 e]; exact h
theorem hi_lo_down (h : p < q) : mostOf 1 q l ≤ leastOf 1 p l := by
  rw [most_sum, least_sum]
  refine sum_le _ _ fun x hx => pick_le (hr x hx).1 fun e => ?_
  refine (cmp_is _ _).2.1.2 ?_
  rcases e with e | e
  · exact rlt_of_le_of_lt (Rat.le_of_lt h) ((cmp_is _ _).2.1.1 e)
  · rw [(cmp_is _ _).2.2.1 e]; exact h
end
theorem mono_facts {xs : List (Int × Int)} {p q : Rat} (h0 : crv xs = 0) (h : p ≤ q) :
    wantL true xs p ≤ wantL true xs q ∧ wantM true xs p ≤ wantM true xs q ∧ wantL false xs q ≤ wantL false xs p ∧ wantM false xs q ≤ wantM false xs p ∧
    (p ≠ q → (chk true xs = 0 ∧ wantM true xs p ≤ wantL true xs q) ∨ (chk false xs = 0 ∧ wantM false xs q ≤ wantL false xs p)) := by
  obtain ⟨_, _, hr⟩ := crv_range h0
  unfold wantL wantM
  refine ⟨?_, ?_, ?_, ?_, fun hne => ?_⟩
  · split
    · exact lo_up hr h
    · omega
  · split
    · exact hi_up hr h
    · omega
  · split
    · exact lo_down hr h
    · omega
  · split
    · exact hi_down hr h
    · omega
  · have hlt : p < q := Rat.lt_of_le_of_ne h hne
    by_cases h1 : chk true xs = 0
    · exact .inl ⟨h1, by simp only [if_pos h1]; exact hi_lo_up hr hlt⟩
    · have h2 : chk false xs = 0 := by
        unfold crv at h0
        by_cases e : chk false xs = 0
        · exact e
        · rw [if_neg e] at h0; exact absurd h0 h1
      exact .inr ⟨h2, by simp only [if_pos h2]; exact hi_lo_down hr hlt⟩
end Go.Proofs.Ytppcpklnnbgcjaa
