/- Plain facts for the law StepOptimalQuantities: the profit is greatest exactly between the bounds. -/
import Derived.Test.YtppcpklnnbgcjaaConvP
namespace Go.Proofs.Ytppcpklnnbgcjaa
open Go.RowKit

theorem none_wanted {lam : Rat} : ∀ {l : List (Int × Int)}, (∀ y ∈ l, lam < (y.2 : Int)) → leastOf (-1) lam l = 0 ∧ mostOf (-1) lam l = 0
  | [], _ => ⟨rfl, rfl⟩
  | x :: r, h => by
    obtain ⟨h1, h2⟩ := none_wanted (l := r) fun y hy => h y (by simp [hy])
    have hx := h x (by simp)
    have e := (cmp_is ((x.2 : Int) : Rat) lam).2.1.2 hx
    simp only [leastOf, mostOf, h1, h2, e]
    exact ⟨rfl, rfl⟩
theorem both_zero {a b : Rat} (ha : 0 ≤ a) (hb : 0 ≤ b) : a + b = 0 ↔ a = 0 ∧ b = 0 := by
  constructor
  · intro h
    have h1 : a = 0 := Rat.le_antisymm (by grind) ha
    exact ⟨h1, by grind⟩
  · rintro ⟨rfl, rfl⟩
    grind
theorem opt_iff (lam : Rat) : ∀ {l : List (Int × Int)}, InRange l → Rise l → ∀ {q : Rat}, 0 ≤ q → q ≤ (sumQ l : Int) → (((leastOf (-1) lam l : Int) : Rat) ≤ q ∧ q ≤ ((mostOf (-1) lam l : Int) : Rat) ↔ C q l - lam * q = V lam l)
  | [], _, _, q, h0, h1 => by
    have : q = 0 := Rat.le_antisymm (by simpa [sumQ] using h1) h0
    rw [this]
    simp only [leastOf, mostOf, C, V]
    constructor
    · intro _; grind
    · intro _; exact ⟨by simp, by simp⟩
  | x :: r, hl, hp, q, h0, h1 => by
    have hx := hl x (by simp)
    have hr : InRange r := fun y hy => hl y (by simp [hy])
    have hs := sumQ_bd hr
    obtain ⟨g0, g1⟩ := rest_range h0 h1 (by omega)
    obtain ⟨hp1, hp2⟩ := List.pairwise_cons.1 hp
    have ih := opt_iff lam hr hp2 g0 g1
    have hcb := C_bound lam hr g0 g1
    have hb := bound_step (m := minQ q x.1) (x := (x.1 : Int)) (d := (x.2 : Int) - lam) (minQ_nonneg h0 (Rat.intCast_nonneg.2 (by omega))) (minQ_le_right _ _)
    have hw := will_bd (-1) lam hr
    have hx1 : (0 : Rat) < ((x.1 : Int) : Rat) := Rat.intCast_pos.2 (by omega)
    have hsplit : C q (x :: r) - lam * q = V lam (x :: r) ↔ (minQ q x.1 * ((x.2 : Int) - lam) - minQ 0 (((x.2 : Int) - lam) * (x.1 : Int)) = 0 ∧ C (q - minQ q x.1) r - lam * (q - minQ q x.1) = V lam r) := by
      simp only [C, V]
      have := both_zero (a := minQ q x.1 * ((x.2 : Int) - lam) - minQ 0 (((x.2 : Int) - lam) * (x.1 : Int))) (b := C (q - minQ q x.1) r - lam * (q - minQ q x.1) - V lam r) (by grind) (by grind)
      constructor
      · intro e
        have := this.1 (by grind)
        exact ⟨this.1, by grind⟩
      · rintro ⟨e1, e2⟩
        grind
    rw [hsplit, ← ih]
    have hA : ((leastOf (-1) lam (x :: r) : Int) : Rat) = (if cmpQ (x.2 : Int) lam = -1 then ((x.1 : Int) : Rat) else 0) + ((leastOf (-1) lam r : Int) : Rat) := by
      simp only [leastOf, Rat.intCast_add]
      split <;> simp
    have hB : ((mostOf (-1) lam (x :: r) : Int) : Rat) = (if cmpQ (x.2 : Int) lam = -1 ∨ cmpQ (x.2 : Int) lam = 0 then ((x.1 : Int) : Rat) else 0) + ((mostOf (-1) lam r : Int) : Rat) := by
      simp only [mostOf, Rat.intCast_add]
      split <;> simp
    rw [hA, hB]
    have hA0 : (0 : Rat) ≤ ((leastOf (-1) lam r : Int) : Rat) := Rat.intCast_nonneg.2 hw.1
    obtain ⟨c1, c2, c3⟩ := cmp_is ((x.2 : Int) : Rat) lam
    rcases minQ_cases q x.1 with ⟨hle, e⟩ | ⟨hlt, e⟩
    · rw [e]
      by_cases d1 : ((x.2 : Int) : Rat) < lam
      · rw [if_pos (c1.2 d1), if_pos (.inl (c1.2 d1))]
        have hm : minQ 0 ((((x.2 : Int) : Rat) - lam) * (x.1 : Int)) = (((x.2 : Int) : Rat) - lam) * (x.1 : Int) := by
          have h2 : 0 < (lam - ((x.2 : Int) : Rat)) * (x.1 : Int) := Rat.mul_pos (by grind) hx1
          rcases minQ_cases 0 ((((x.2 : Int) : Rat) - lam) * (x.1 : Int)) with ⟨h3, _⟩ | ⟨_, e3⟩
          · exfalso; grind
          · exact e3
        rw [hm]
        constructor
        · rintro ⟨k1, k2⟩
          have : q = ((x.1 : Int) : Rat) := Rat.le_antisymm hle (by grind)
          exact ⟨by rw [this]; grind, by rw [this]; grind, by rw [this]; grind⟩
        · rintro ⟨k1, k2, k3⟩
          have hne : (((x.2 : Int) : Rat) - lam) ≠ 0 := by grind
          have : q = ((x.1 : Int) : Rat) := by
            have h5 : (q - ((x.1 : Int) : Rat)) * (((x.2 : Int) : Rat) - lam) = 0 := by grind
            rcases Rat.mul_eq_zero.1 h5 with h6 | h6
            · grind
            · exact absurd h6 hne
          exact ⟨by grind, by grind⟩
      · have d1' : ¬ cmpQ ((x.2 : Int) : Rat) lam = -1 := fun h => d1 (c1.1 h)
        rw [if_neg d1']
        have hn := none_wanted (lam := lam) (l := r) fun y hy => by
          have := Rat.intCast_lt_intCast.2 (hp1 y hy)
          have h4 := Rat.not_lt.1 d1
          grind
        rw [hn.1, hn.2]
        have hm : minQ 0 ((((x.2 : Int) : Rat) - lam) * (x.1 : Int)) = 0 := by
          have h2 : 0 ≤ (((x.2 : Int) : Rat) - lam) * (x.1 : Int) := Rat.mul_nonneg (by have := Rat.not_lt.1 d1; grind) (Rat.le_of_lt hx1)
          rcases minQ_cases 0 ((((x.2 : Int) : Rat) - lam) * (x.1 : Int)) with ⟨_, e3⟩ | ⟨h3, _⟩
          · exact e3
          · exact absurd h3 (Rat.not_lt.2 h2)
        rw [hm]
        by_cases d2 : ((x.2 : Int) : Rat) = lam
        · rw [if_pos (.inr (c3.2 d2))]
          simp only [Rat.intCast_zero]
          constructor
          · rintro ⟨k1, k2⟩
            exact ⟨by grind, by grind, by grind⟩
          · rintro ⟨k1, k2, k3⟩
            exact ⟨by grind, by grind⟩
        · rw [if_neg (by rintro (h | h); exact d1' h; exact d2 (c3.1 h))]
          simp only [Rat.intCast_zero]
          constructor
          · rintro ⟨k1, k2⟩
            have : q = 0 := Rat.le_antisymm (by grind) h0
            rw [this]
            exact ⟨by grind, by grind, by grind⟩
          · rintro ⟨k1, k2, k3⟩
            have hne : (((x.2 : Int) : Rat) - lam) ≠ 0 := by grind
            have : q = 0 := by
              have h5 : q * (((x.2 : Int) : Rat) - lam) = 0 := by grind
              rcases Rat.mul_eq_zero.1 h5 with h6 | h6
              · exact h6
              · exact absurd h6 hne
            rw [this]
            exact ⟨by grind, by grind⟩
    · rw [e]
      by_cases d1 : ((x.2 : Int) : Rat) < lam
      · rw [if_pos (c1.2 d1), if_pos (.inl (c1.2 d1))]
        have hm : minQ 0 ((((x.2 : Int) : Rat) - lam) * (x.1 : Int)) = (((x.2 : Int) : Rat) - lam) * (x.1 : Int) := by
          have h2 : 0 < (lam - ((x.2 : Int) : Rat)) * (x.1 : Int) := Rat.mul_pos (by grind) hx1
          rcases minQ_cases 0 ((((x.2 : Int) : Rat) - lam) * (x.1 : Int)) with ⟨h3, _⟩ | ⟨_, e3⟩
          · exfalso; grind
          · exact e3
        rw [hm]
        constructor
        · rintro ⟨k1, k2⟩
          exact ⟨by grind, by grind, by grind⟩
        · rintro ⟨k1, k2, k3⟩
          exact ⟨by grind, by grind⟩
      · have d1' : ¬ cmpQ ((x.2 : Int) : Rat) lam = -1 := fun h => d1 (c1.1 h)
        rw [if_neg d1']
        have hn := none_wanted (lam := lam) (l := r) fun y hy => by
          have := Rat.intCast_lt_intCast.2 (hp1 y hy)
          have h4 := Rat.not_lt.1 d1
          grind
        rw [hn.1, hn.2]
        have hm : minQ 0 ((((x.2 : Int) : Rat) - lam) * (x.1 : Int)) = 0 := by
          have h2 : 0 ≤ (((x.2 : Int) : Rat) - lam) * (x.1 : Int) := Rat.mul_nonneg (by have := Rat.not_lt.1 d1; grind) (Rat.le_of_lt hx1)
          rcases minQ_cases 0 ((((x.2 : Int) : Rat) - lam) * (x.1 : Int)) with ⟨_, e3⟩ | ⟨h3, _⟩
          · exact e3
          · exact absurd h3 (Rat.not_lt.2 h2)
        rw [hm]
        simp only [Rat.intCast_zero]
        by_cases d2 : ((x.2 : Int) : Rat) = lam
        · rw [if_pos (.inr (c3.2 d2))]
          constructor
          · rintro ⟨k1, k2⟩
            exfalso; grind
          · rintro ⟨k1, k2, k3⟩
            exfalso; grind
        · rw [if_neg (by rintro (h | h); exact d1' h; exact d2 (c3.1 h))]
          constructor
          · rintro ⟨k1, k2⟩
            exfalso; grind
          · rintro ⟨k1, k2, k3⟩
            exfalso; grind
theorem opt_core (lam : Rat) {l : List (Int × Int)} (hl : InRange l) (hp : Rise l) {q : Rat} (h0 : 0 ≤ q) (h1 : q ≤ (sumQ l : Int)) :
    lam * ((leastOf (-1) lam l : Int) : Rat) - C (leastOf (-1) lam l : Int) l = lam * ((mostOf (-1) lam l : Int) : Rat) - C (mostOf (-1) lam l : Int) l ∧
    ((((leastOf (-1) lam l : Int) : Rat) ≤ q ∧ q ≤ ((mostOf (-1) lam l : Int) : Rat)) → lam * q - C q l = lam * ((leastOf (-1) lam l : Int) : Rat) - C (leastOf (-1) lam l : Int) l) ∧
    (¬ (((leastOf (-1) lam l : Int) : Rat) ≤ q ∧ q ≤ ((mostOf (-1) lam l : Int) : Rat)) → lam * q - C q l < lam * ((leastOf (-1) lam l : Int) : Rat) - C (leastOf (-1) lam l : Int) l) := by
  obtain ⟨w0, w1, w2⟩ := will_bd (-1) lam hl
  have a0 : (0 : Rat) ≤ ((leastOf (-1) lam l : Int) : Rat) := Rat.intCast_nonneg.2 w0
  have ab : ((leastOf (-1) lam l : Int) : Rat) ≤ ((mostOf (-1) lam l : Int) : Rat) := Rat.intCast_le_intCast.2 w1
  have bs : ((mostOf (-1) lam l : Int) : Rat) ≤ ((sumQ l : Int) : Rat) := Rat.intCast_le_intCast.2 w2
  have eA := (opt_iff lam hl hp a0 (Rat.le_trans ab bs)).1 ⟨Rat.le_refl, ab⟩
  have eB := (opt_iff lam hl hp (Rat.le_trans a0 ab) bs).1 ⟨ab, Rat.le_refl⟩
  have eq := opt_iff lam hl hp h0 h1
  have hb := C_bound lam hl h0 h1
  refine ⟨by grind, fun h => ?_, fun h => ?_⟩
  · have := eq.1 h
    grind
  · have h2 : C q l - lam * q ≠ V lam l := fun e => h (eq.2 e)
    have h3 : V lam l < C q l - lam * q := Rat.lt_of_le_of_ne hb (Ne.symm h2)
    grind
theorem cmp_neg (x p : Rat) : cmpQ (-x) (-p) = -cmpQ x p := by
  have h1 : -x < -p ↔ p < x := Rat.neg_lt_neg_iff
  have h2 : -p < -x ↔ x < p := Rat.neg_lt_neg_iff
  unfold cmpQ
  simp only [h1, h2]
  by_cases e1 : x < p
  · have : ¬ p < x := Rat.not_lt.2 (Rat.le_of_lt e1)
    simp [e1, this]
  · by_cases e2 : p < x <;> simp [e1, e2]
theorem least_neg (lam : Rat) : ∀ l : List (Int × Int), leastOf (-1) (-lam) (l.map fun x => (x.1, -x.2)) = leastOf 1 lam l
  | [] => rfl
  | x :: r => by
    simp only [List.map_cons, leastOf, least_neg lam r, Rat.intCast_neg, cmp_neg]
    have : (-cmpQ ((x.2 : Int) : Rat) lam = -1) ↔ (cmpQ ((x.2 : Int) : Rat) lam = 1) := by omega
    simp only [this]
theorem most_neg (lam : Rat) : ∀ l : List (Int × Int), mostOf (-1) (-lam) (l.map fun x => (x.1, -x.2)) = mostOf 1 lam l
  | [] => rfl
  | x :: r => by
    simp only [List.map_cons, mostOf, most_neg lam r, Rat.intCast_neg, cmp_neg]
    have : (-cmpQ ((x.2 : Int) : Rat) lam = -1 ∨ -cmpQ ((x.2 : Int) : Rat) lam = 0) ↔ (cmpQ ((x.2 : Int) : Rat) lam = 1 ∨ cmpQ ((x.2 : Int) : Rat) lam = 0) := by omega
    simp only [this]
theorem opt_bid (lam : Rat) {l : List (Int × Int)} (hl : InRange l) (hp : Rise (l.map fun x => (x.1, -x.2))) {q : Rat} (h0 : 0 ≤ q) (h1 : q ≤ (sumQ l : Int)) :
    -(lam * ((leastOf 1 lam l : Int) : Rat) - C (leastOf 1 lam l : Int) l) = -(lam * ((mostOf 1 lam l : Int) : Rat) - C (mostOf 1 lam l : Int) l) ∧
    ((((leastOf 1 lam l : Int) : Rat) ≤ q ∧ q ≤ ((mostOf 1 lam l : Int) : Rat)) → -(lam * q - C q l) = -(lam * ((leastOf 1 lam l : Int) : Rat) - C (leastOf 1 lam l : Int) l)) ∧
    (¬ (((leastOf 1 lam l : Int) : Rat) ≤ q ∧ q ≤ ((mostOf 1 lam l : Int) : Rat)) → -(lam * q - C q l) < -(lam * ((leastOf 1 lam l : Int) : Rat) - C (leastOf 1 lam l : Int) l)) := by
  have h := opt_core (-lam) (range_neg hl) hp h0 (by rw [sumQ_neg]; exact h1)
  simp only [least_neg, most_neg, C_neg] at h
  obtain ⟨h2, h3, h4⟩ := h
  refine ⟨by grind, fun e => ?_, fun e => ?_⟩
  · have := h3 e
    grind
  · have := h4 e
    grind
end Go.Proofs.Ytppcpklnnbgcjaa
