/- Plain facts: the cost of a quantity, step by step; its supporting lines. -/
import Derived.Test.YtppcpklnnbgcjaaEndP
import Derived.Test.YtppcpklnnbgcjaaMonoP
namespace Go.Proofs.Ytppcpklnnbgcjaa
open Go.RowKit

/-- The cost of q. -/
def C (q : Rat) : List (Int × Int) → Rat
  | [] => 0
  | x :: r => minQ q x.1 * x.2 + C (q - minQ q x.1) r
theorem partAt_zero (q : Rat) (x : Int × Int) (r : List (Int × Int)) : partAt q (x :: r) 0 = minQ q x.1 := rfl
theorem partAt_succ (q : Rat) (x : Int × Int) (r : List (Int × Int)) (i : Nat) : partAt q (x :: r) (i + 1) = partAt (q - minQ q x.1) r i := rfl
theorem costTo_cons (q : Rat) (x : Int × Int) (r : List (Int × Int)) : ∀ k, costTo q (x :: r) (k + 1) = minQ q x.1 * x.2 + costTo (q - minQ q x.1) r k
  | 0 => by
    simp only [costTo, partAt_zero, Rat.zero_add, Rat.add_zero]
    rfl
  | k + 1 => by
    rw [costTo, costTo_cons q x r k, partAt_succ]
    have e : (x :: r).getD (k + 1) (0, 0) = r.getD k (0, 0) := by simp [List.getD]
    rw [e, Rat.add_assoc]
    rfl
theorem costTo_C : ∀ (l : List (Int × Int)) (q : Rat), costTo q l l.length = C q l
  | [], _ => rfl
  | x :: r, q => by
    rw [List.length_cons, costTo_cons, costTo_C r]
    rfl
theorem minQ_le_left (p q : Rat) : minQ p q ≤ p := by
  unfold minQ
  split
  · exact Rat.le_of_lt ‹_›
  · exact Rat.le_refl
theorem minQ_le_right (p q : Rat) : minQ p q ≤ q := by
  unfold minQ
  split
  · exact Rat.le_refl
  · exact Rat.not_lt.1 ‹_›
theorem minQ_nonneg {p q : Rat} (hp : 0 ≤ p) (hq : 0 ≤ q) : 0 ≤ minQ p q := by
  unfold minQ
  split
  · exact hq
  · exact hp
theorem minQ_cases (p q : Rat) : (p ≤ q ∧ minQ p q = p) ∨ (q < p ∧ minQ p q = q) := by
  unfold minQ
  by_cases h : q < p
  · exact .inr ⟨h, if_pos h⟩
  · exact .inl ⟨Rat.not_lt.1 h, if_neg h⟩
/-- What is left lies in the rest of the curve. -/
theorem rest_range {q : Rat} {x : Int × Int} {r : List (Int × Int)} (_h0 : 0 ≤ q) (h1 : q ≤ (sumQ (x :: r) : Int)) (hr : 0 ≤ sumQ r) : 0 ≤ q - minQ q x.1 ∧ q - minQ q x.1 ≤ (sumQ r : Int) := by
  have hs : ((sumQ (x :: r) : Int) : Rat) = (x.1 : Int) + (sumQ r : Int) := by simp only [sumQ, Rat.intCast_add]
  have hr' : (0 : Rat) ≤ ((sumQ r : Int) : Rat) := Rat.intCast_nonneg.2 hr
  rw [hs] at h1
  rcases minQ_cases q x.1 with ⟨h, e⟩ | ⟨h, e⟩ <;> rw [e] <;> constructor <;> grind
/-- The least value of the parts at a price. -/
def V (lam : Rat) : List (Int × Int) → Rat
  | [] => 0
  | x :: r => minQ 0 (((x.2 : Int) - lam) * (x.1 : Int)) + V lam r
theorem bound_step {m x d : Rat} (h0 : 0 ≤ m) (h1 : m ≤ x) : minQ 0 (d * x) ≤ m * d := by
  rcases Rat.le_total (a := 0) (b := d) with h | h
  · exact Rat.le_trans (minQ_le_left _ _) (Rat.mul_nonneg h0 h)
  · refine Rat.le_trans (minQ_le_right _ _) ?_
    have h2 : 0 ≤ (x - m) * (-d) := Rat.mul_nonneg (by grind) (by grind)
    grind
theorem C_bound (lam : Rat) : ∀ {l : List (Int × Int)}, InRange l → ∀ {q : Rat}, 0 ≤ q → q ≤ (sumQ l : Int) → V lam l ≤ C q l - lam * q
  | [], _, q, h0, h1 => by
    have : q = 0 := Rat.le_antisymm (by simpa [sumQ] using h1) h0
    rw [this]
    simp only [V, C]
    grind
  | x :: r, hl, q, h0, h1 => by
    have hx := hl x (by simp)
    have hr : InRange r := fun y hy => hl y (by simp [hy])
    have hs := sumQ_bd hr
    obtain ⟨g0, g1⟩ := rest_range h0 h1 (by omega)
    have ih := C_bound lam hr g0 g1
    have hb := bound_step (m := minQ q x.1) (x := (x.1 : Int)) (d := (x.2 : Int) - lam) (minQ_nonneg h0 (Rat.intCast_nonneg.2 (by omega))) (minQ_le_right _ _)
    simp only [V, C]
    generalize minQ q x.1 = m at *
    generalize minQ 0 (((x.2 : Int) - lam) * (x.1 : Int)) = k at *
    grind
abbrev Rise (l : List (Int × Int)) : Prop := List.Pairwise (fun a b => a.2 < b.2) l
theorem V_zero {lam : Rat} : ∀ {l : List (Int × Int)}, InRange l → (∀ y ∈ l, lam ≤ (y.2 : Int)) → V lam l = 0
  | [], _, _ => rfl
  | x :: r, hl, h => by
    have hx := hl x (by simp)
    have h1 := h x (by simp)
    simp only [V]
    rw [V_zero (fun y hy => hl y (by simp [hy])) (fun y hy => h y (by simp [hy]))]
    have h2 : 0 ≤ ((x.2 : Int) - lam) * (x.1 : Int) := Rat.mul_nonneg (by grind) (Rat.intCast_nonneg.2 (by omega))
    rcases minQ_cases 0 (((x.2 : Int) - lam) * (x.1 : Int)) with ⟨_, e⟩ | ⟨h3, _⟩
    · rw [e]; grind
    · exact absurd h3 (Rat.not_lt.2 h2)
/-- At some price the quantity is the best. -/
theorem C_touch : ∀ {l : List (Int × Int)}, InRange l → Rise l → ∀ {q : Rat}, 0 ≤ q → q ≤ (sumQ l : Int) → l ≠ [] → ∃ y ∈ l, C q l - ((y.2 : Int) : Rat) * q = V ((y.2 : Int) : Rat) l
  | x :: r, hl, hp, q, h0, h1, _ => by
    have hx := hl x (by simp)
    have hr : InRange r := fun y hy => hl y (by simp [hy])
    have hs := sumQ_bd hr
    obtain ⟨g0, g1⟩ := rest_range h0 h1 (by omega)
    obtain ⟨hp1, hp2⟩ := List.pairwise_cons.1 hp
    rcases minQ_cases q x.1 with ⟨hle, e⟩ | ⟨hlt, e⟩
    · refine ⟨x, by simp, ?_⟩
      have hz : C 0 r = 0 := by rw [← costTo_C]; exact cost_zero hr _ (Nat.le_refl _)
      simp only [C, V]
      rw [e, show q - q = 0 by grind, hz, V_zero hr (fun y hy => Rat.intCast_le_intCast.2 (by have := hp1 y hy; omega))]
      have hm : minQ 0 ((((x.2 : Int) : Rat) - (x.2 : Int)) * (x.1 : Int)) = 0 := by
        rw [show (((x.2 : Int) : Rat) - (x.2 : Int)) * (x.1 : Int) = 0 by grind]
        rcases minQ_cases 0 0 with ⟨_, e⟩ | ⟨_, e⟩ <;> exact e
      rw [hm]
      grind
    · rw [e] at g0 g1
      have hne : r ≠ [] := by
        rintro rfl
        simp only [sumQ] at g1
        grind
      obtain ⟨y, hy, ih⟩ := C_touch hr hp2 g0 g1 hne
      refine ⟨y, by simp [hy], ?_⟩
      have hyx := hp1 y hy
      have hd : ((x.2 : Int) : Rat) - (y.2 : Int) ≤ 0 := by
        have := Rat.intCast_le_intCast.2 (show x.2 ≤ y.2 by omega)
        grind
      have hm : minQ 0 ((((x.2 : Int) : Rat) - (y.2 : Int)) * (x.1 : Int)) = (((x.2 : Int) : Rat) - (y.2 : Int)) * (x.1 : Int) := by
        have h2 : 0 ≤ (-(((x.2 : Int) : Rat) - (y.2 : Int))) * (x.1 : Int) := Rat.mul_nonneg (by grind) (Rat.intCast_nonneg.2 (by omega))
        rcases minQ_cases 0 ((((x.2 : Int) : Rat) - (y.2 : Int)) * (x.1 : Int)) with ⟨h3, e3⟩ | ⟨_, e3⟩
        · rw [e3]; grind
        · exact e3
      simp only [C, V]
      rw [e, hm]
      grind
theorem C_neg : ∀ (l : List (Int × Int)) (q : Rat), C q (l.map fun x => (x.1, -x.2)) = -C q l
  | [], _ => rfl
  | x :: r, q => by
    simp only [List.map_cons, C, C_neg r, Rat.intCast_neg]
    grind
theorem sumQ_neg : ∀ l : List (Int × Int), sumQ (l.map fun x => (x.1, -x.2)) = sumQ l
  | [] => rfl
  | x :: r => by simp only [List.map_cons, sumQ, sumQ_neg r]
theorem range_neg {l : List (Int × Int)} (h : InRange l) : InRange (l.map fun x => (x.1, -x.2)) := fun y hy => by
  obtain ⟨x, hx, rfl⟩ := List.mem_map.1 hy
  have := h x hx
  simp only
  omega
theorem chk_pair : ∀ {rise : Bool} {l : List (Int × Int)} {prev : Option Int}, chkFrom rise l prev = 0 → List.Pairwise (fun a b => if rise then a.2 < b.2 else b.2 < a.2) l ∧ ∀ a, prev = some a → ∀ y ∈ l, if rise then a < y.2 else y.2 < a
  | rise, [], prev, _ => ⟨List.Pairwise.nil, fun _ _ y hy => by cases hy⟩
  | rise, (q, p) :: r, prev, h => by
    rw [chkFrom_cons] at h
    by_cases hs : stepB q p = true
    · rw [if_pos hs] at h
      by_cases hm : prevOk rise prev p = true
      · rw [if_pos hm] at h
        obtain ⟨h1, h2⟩ := chk_pair h
        have h3 := h2 p rfl
        refine ⟨List.pairwise_cons.2 ⟨fun y hy => h3 y hy, h1⟩, fun a ha y hy => ?_⟩
        subst ha
        have h4 : if rise then a < p else p < a := by
          unfold prevOk folB at hm
          cases rise <;> simpa using hm
        rcases List.mem_cons.1 hy with rfl | hy
        · exact h4
        · have h5 := h3 y hy
          cases rise <;> simp at h4 h5 ⊢ <;> omega
      · rw [if_neg hm] at h; cases h
    · rw [if_neg hs] at h; cases h
theorem chk_rise {l : List (Int × Int)} (h : chk true l = 0) : Rise l := by
  unfold chk at h
  split at h
  · cases h
  · split at h
    · cases h
    · have := (chk_pair h).1
      simpa using this
theorem chk_fall {l : List (Int × Int)} (h : chk false l = 0) : Rise (l.map fun x => (x.1, -x.2)) := by
  unfold chk at h
  split at h
  · cases h
  · split at h
    · cases h
    · have h1 := (chk_pair h).1
      refine List.pairwise_map.2 (h1.imp fun {a b} hab => ?_)
      simp at hab
      simp only
      omega
/-- Convexity. -/
theorem C_convex {l : List (Int × Int)} (hl : InRange l) (hp : Rise l) {a b z : Rat} (ha0 : 0 ≤ a) (ha1 : a ≤ (sumQ l : Int)) (hb0 : 0 ≤ b) (hb1 : b ≤ (sumQ l : Int)) (hz : z + z = a + b) (hne : l ≠ []) : C z l + C z l ≤ C a l + C b l := by
  obtain ⟨y, _, e⟩ := C_touch hl hp (q := z) (by grind) (by grind) hne
  have h1 := C_bound ((y.2 : Int) : Rat) hl ha0 ha1
  have h2 := C_bound ((y.2 : Int) : Rat) hl hb0 hb1
  have h3 : ((y.2 : Int) : Rat) * (z + z) = ((y.2 : Int) : Rat) * (a + b) := by rw [hz]
  grind
end Go.Proofs.Ytppcpklnnbgcjaa
