/- Plain facts: the cost of nothing and of the whole curve. -/
import Derived.Test.YtppcpklnnbgcjaaStepC
namespace Go.Proofs.Ytppcpklnnbgcjaa
open Go.RowKit

def sumP : List (Int × Int) → Int
  | [] => 0
  | x :: r => x.1 * x.2 + sumP r
theorem sumP_append (l r : List (Int × Int)) : sumP (l ++ r) = sumP l + sumP r := by
  induction l with
  | nil => simp [sumP]
  | cons x l ih => simp [sumP, ih]; omega
abbrev InRange (l : List (Int × Int)) : Prop := ∀ x ∈ l, 1 ≤ x.1 ∧ x.1 ≤ 1000000 ∧ -1000000 ≤ x.2 ∧ x.2 ≤ 1000000
theorem minQ_int (a b : Int) (h : b ≤ a) : minQ (a : Rat) (b : Rat) = b := by
  unfold minQ
  by_cases e : (b : Rat) < (a : Rat)
  · rw [if_pos e]
  · rw [if_neg e]
    have : a = b := by
      have := mt Rat.intCast_lt_intCast.2 e
      omega
    rw [this]
theorem minQ_zero {b : Int} (h : 0 ≤ b) : minQ 0 (b : Rat) = 0 := by
  unfold minQ
  rw [if_neg]
  rw [Rat.not_lt]
  exact Rat.intCast_le_intCast.2 h
theorem rest_sum : ∀ (l r : List (Int × Int)), InRange (l ++ r) → restR (sumQ (l ++ r) : Int) l = (sumQ r : Int)
  | [], r, _ => rfl
  | x :: l, r, h => by
    have h2 : InRange (l ++ r) := fun y hy => h y (by simp [List.mem_append.1 hy])
    have hb := sumQ_bd h2
    simp only [List.cons_append, restR, sumQ]
    rw [minQ_int _ _ (by omega), ← Rat.intCast_sub, show x.1 + sumQ (l ++ r) - x.1 = sumQ (l ++ r) by omega]
    exact rest_sum l r h2
theorem part_sum {xs : List (Int × Int)} (h : InRange xs) {k : Nat} (hk : k < xs.length) : partAt (sumQ xs : Int) xs k = ((xs.getD k (0, 0)).1 : Int) := by
  have e := List.take_append_drop k xs
  have h1 := rest_sum (xs.take k) (xs.drop k) (by rw [e]; exact h)
  rw [e] at h1
  unfold partAt
  rw [h1]
  have hd : xs.drop k = xs.getD k (0, 0) :: xs.drop (k + 1) := by rw [List.drop_eq_getElem_cons hk]; simp [List.getD, hk]
  rw [hd]
  have hb := sumQ_bd (l := xs.drop (k + 1)) fun y hy => h y (List.mem_of_mem_drop hy)
  exact minQ_int _ _ (by simp only [sumQ]; omega)
theorem cost_sum {xs : List (Int × Int)} (h : InRange xs) : ∀ k, k ≤ xs.length → costTo (sumQ xs : Int) xs k = (sumP (xs.take k) : Int)
  | 0, _ => rfl
  | k + 1, hk => by
    rw [costTo, cost_sum h k (by omega), part_sum h (by omega), take_snoc xs (0, 0) (by omega), sumP_append]
    simp only [sumP, Int.add_zero, Rat.intCast_add, Rat.intCast_mul]
theorem rest_zero : ∀ {l : List (Int × Int)}, InRange l → restR 0 l = 0
  | [], _ => rfl
  | x :: l, h => by
    have h1 := h x (by simp)
    simp only [restR]
    rw [minQ_zero (by omega), Rat.sub_self]
    exact rest_zero fun y hy => h y (by simp [hy])
theorem cost_zero {xs : List (Int × Int)} (h : InRange xs) : ∀ k, k ≤ xs.length → costTo 0 xs k = 0
  | 0, _ => rfl
  | k + 1, hk => by
    have hm : xs.getD k (0, 0) ∈ xs := by simp [List.getD, show k < xs.length by omega]
    have h1 := h _ hm
    rw [costTo, cost_zero h k (by omega), partAt, rest_zero fun y hy => h y (List.mem_of_mem_take hy), minQ_zero (by omega), Rat.zero_mul, Rat.add_zero]
theorem end_zero {xs : List (Int × Int)} (h : crv xs = 0) : allocE xs 0 = 0 ∧ costV xs 0 = 0 := by
  obtain ⟨_, _, hr⟩ := crv_range h
  have ht := total_bd xs
  have he : allocE xs 0 = 0 := by
    unfold allocE
    rw [if_neg (by simp [h]), if_neg]
    rintro (e | e)
    · exact Rat.lt_irrefl e
    · have := Rat.intCast_lt_intCast (b := 0) |>.1 (by simpa using e)
      omega
  refine ⟨he, ?_⟩
  unfold costV
  rw [if_pos he]
  exact cost_zero hr _ (Nat.le_refl _)
theorem end_full {xs : List (Int × Int)} (h : crv xs = 0) : allocE xs (sumQ xs : Int) = 0 ∧ costV xs (sumQ xs : Int) = (sumP xs : Int) := by
  obtain ⟨_, _, hr⟩ := crv_range h
  have hb := sumQ_bd hr
  have he : allocE xs (sumQ xs : Int) = 0 := by
    unfold allocE
    rw [if_neg (by simp [h]), if_neg]
    unfold total
    rw [if_pos h]
    rintro (e | e)
    · have := Rat.intCast_lt_intCast (b := 0) |>.1 (by simpa using e)
      omega
    · exact Rat.lt_irrefl e
  refine ⟨he, ?_⟩
  unfold costV
  rw [if_pos he, cost_sum hr _ (Nat.le_refl _), List.take_length]
theorem sumP_bd : ∀ {l : List (Int × Int)}, InRange l → (sumP l).natAbs ≤ 1000000000000 * l.length
  | [], _ => by simp [sumP]
  | x :: r, h => by
    have h1 := h x (by simp)
    have h2 := sumP_bd (l := r) fun y hy => h y (by simp [hy])
    simp only [sumP, List.length_cons]
    have h3 : (x.1 * x.2).natAbs ≤ 1000000 * 1000000 := by
      rw [Int.natAbs_mul]
      exact Nat.mul_le_mul (by omega) (by omega)
    omega
end Go.Proofs.Ytppcpklnnbgcjaa
