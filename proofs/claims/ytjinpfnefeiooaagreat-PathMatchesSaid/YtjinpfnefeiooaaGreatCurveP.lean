/- A part of the proof. -/
import Derived.Test.YtjinpfnefeiooaaGreatStepX
namespace Go.Proofs.YtjinpfnefeiooaaGreat
open Go.RowKit

def sumP : List (Int × Int) → Int
 | [] => 0
 | x :: r => x.1 * x.2 + sumP r
theorem sumP_append (l r : List (Int × Int)) : sumP (l ++ r) = sumP l + sumP r := by
 induction l with
 | nil => simp [sumP]
 | cons x l ih => simp [sumP, ih]; omega
abbrev InRange (l : List (Int × Int)) : Prop := ∀ x ∈ l, 1 ≤ x.1 ∧ x.1 ≤ 1000000 ∧ -1000000 ≤ x.2 ∧ x.2 ≤ 1000000
theorem minQ_int (a b : Int) (h : b ≤ a) : minQ (a : Rat) (b : Rat) = b := by
 unfold minQ
 by_cases e : (b : Rat) < (a : Rat)
 ·rw [if_pos e]
 ·rw [if_neg e]
  have : a = b := by
   have := mt Rat.intCast_lt_intCast.2 e
   omega
  rw [this]
theorem minQ_zero {b : Int} (h : 0 ≤ b) : minQ 0 (b : Rat) = 0 := by
 unfold minQ
 rw [if_neg]
 rw [Rat.not_lt]
 exact Rat.intCast_le_intCast.2 h
theorem rest_sum : ∀ (l r : List (Int × Int)), InRange (l ++ r) → restR (sumQ (l ++ r) : Int) l = (sumQ r : Int)
 | [], r, _ => rfl
 | x :: l, r, h => by
  have h2 : InRange (l ++ r) := fun y hy => h y (by simp [List.mem_append.1 hy])
  have hb := sumQ_bd h2
  simp only [List.cons_append, restR, sumQ]
  rw [minQ_int _ _ (by omega), ← Rat.intCast_sub, show x.1 + sumQ (l ++ r) - x.1 = sumQ (l ++ r) by omega]
  exact rest_sum l r h2
theorem part_sum {xs : List (Int × Int)} (h : InRange xs) {k : Nat} (hk : k < xs.length) : partAt (sumQ xs : Int) xs k = ((xs.getD k (0, 0)).1 : Int) := by
 have e := List.take_append_drop k xs
 have h1 := rest_sum (xs.take k) (xs.drop k) (by rw [e]; exact h)
 rw [e] at h1
 unfold partAt
 rw [h1]
 have hd : xs.drop k = xs.getD k (0, 0) :: xs.drop (k + 1) := by rw [List.drop_eq_getElem_cons hk]; simp [List.getD, hk]
 rw [hd]
 have hb := sumQ_bd (l := xs.drop (k + 1)) fun y hy => h y (List.mem_of_mem_drop hy)
 exact minQ_int _ _ (by simp only [sumQ]; omega)
theorem cost_sum {xs : List (Int × Int)} (h : InRange xs) : ∀ k, k ≤ xs.length → costTo (sumQ xs : Int) xs k = (sumP (xs.take k) : Int)
 | 0, _ => rfl
 | k + 1, hk => by
  rw [costTo, cost_sum h k (by omega), part_sum h (by omega), take_snoc xs (0, 0) (by omega), sumP_append]
  simp only [sumP, Int.add_zero, Rat.intCast_add, Rat.intCast_mul]
theorem rest_zero : ∀ {l : List (Int × Int)}, InRange l → restR 0 l = 0
 | [], _ => rfl
 | x :: l, h => by
  have h1 := h x (by simp)
  simp only [restR]
  rw [minQ_zero (by omega), Rat.sub_self]
  exact rest_zero fun y hy => h y (by simp [hy])
theorem cost_zero {xs : List (Int × Int)} (h : InRange xs) : ∀ k, k ≤ xs.length → costTo 0 xs k = 0
 | 0, _ => rfl
 | k + 1, hk => by
  have hm : xs.getD k (0, 0) ∈ xs := by simp [List.getD, show k < xs.length by omega]
  have h1 := h _ hm
  rw [costTo, cost_zero h k (by omega), partAt, rest_zero fun y hy => h y (List.mem_of_mem_take hy), minQ_zero (by omega), Rat.zero_mul, Rat.add_zero]
end Go.Proofs.YtjinpfnefeiooaaGreat
namespace Go.Proofs.YtjinpfnefeiooaaGreat
open Go.RowKit

theorem cmp_is (x p : Rat) : (cmpQ x p = -1 ↔ x < p) ∧ (cmpQ x p = 1 ↔ p < x) ∧ (cmpQ x p = 0 ↔ x = p) := by
 unfold cmpQ
 by_cases h1 : x < p
 ·have h2 : ¬ p < x := Rat.not_lt.2 (Rat.le_of_lt h1)
  have h3 : x ≠ p := Rat.ne_of_lt h1
  simp [h1, h2, h3]
 ·by_cases h2 : p < x
  ·have h3 : x ≠ p := Ne.symm (Rat.ne_of_lt h2)
   simp [h1, h2, h3]
  ·have h3 : x = p := Rat.le_antisymm (Rat.not_lt.1 h2) (Rat.not_lt.1 h1)
   simp [h3]
theorem rlt_of_lt_of_le {a b c : Rat} (h1 : a < b) (h2 : b ≤ c) : a < c := by
 refine Rat.not_le.1 fun h => ?_
 exact Rat.not_le.2 h1 (Rat.le_trans h2 h)
theorem rlt_of_le_of_lt {a b c : Rat} (h1 : a ≤ b) (h2 : b < c) : a < c := by
 refine Rat.not_le.1 fun h => ?_
 exact Rat.not_le.2 h2 (Rat.le_trans h h1)
theorem sum_le (f g : Int × Int → Int) : ∀ {l : List (Int × Int)}, (∀ x ∈ l, f x ≤ g x) → (l.map f).sum ≤ (l.map g).sum
 | [], _ => by simp
 | x :: r, h => by
  have h1 := h x (by simp)
  have h2 := sum_le f g (l := r) fun y hy => h y (by simp [hy])
  simp only [List.map_cons, List.sum_cons]
  omega
theorem least_sum (side : Int) (p : Rat) : ∀ l : List (Int × Int), leastOf side p l = (l.map fun x => if cmpQ (x.2 : Int) p = side then x.1 else 0).sum
 | [] => rfl
 | x :: r => by simp only [leastOf, List.map_cons, List.sum_cons, least_sum side p r]
theorem most_sum (side : Int) (p : Rat) : ∀ l : List (Int × Int), mostOf side p l = (l.map fun x => if cmpQ (x.2 : Int) p = side ∨ cmpQ (x.2 : Int) p = 0 then x.1 else 0).sum
 | [] => rfl
 | x :: r => by simp only [mostOf, List.map_cons, List.sum_cons, most_sum side p r]
theorem pick_le {c d : Prop} [Decidable c] [Decidable d] {q : Int} (hq : 1 ≤ q) (h : c → d) : (if c then q else 0) ≤ (if d then q else 0) := by
 by_cases hc : c
 ·rw [if_pos hc, if_pos (h hc)]; omega
 ·rw [if_neg hc]
  split <;> omega
abbrev InR (l : List (Int × Int)) : Prop := ∀ x ∈ l, 1 ≤ x.1 ∧ x.1 ≤ 1000000 ∧ -1000000 ≤ x.2 ∧ x.2 ≤ 1000000
section
variable {l : List (Int × Int)} {p q : Rat} (hr : InR l)
include hr
theorem hi_up (h : p ≤ q) : mostOf (-1) p l ≤ mostOf (-1) q l := by
 rw [most_sum, most_sum]
 refine sum_le _ _ fun x hx => pick_le (hr x hx).1 fun e => ?_
 rcases e with e | e
 ·exact .inl ((cmp_is _ _).1.2 (rlt_of_lt_of_le ((cmp_is _ _).1.1 e) h))
 ·have e2 := (cmp_is _ _).2.2.1 e
  rcases Rat.le_iff_lt_or_eq.1 h with h | h
  ·exact .inl ((cmp_is _ _).1.2 (by rw [e2]; exact h))
  ·exact .inr ((cmp_is _ _).2.2.2 (by rw [e2]; exact h))
end
end Go.Proofs.YtjinpfnefeiooaaGreat
namespace Go.Proofs.YtjinpfnefeiooaaGreat
open Go.RowKit

def C (q : Rat) : List (Int × Int) → Rat
 | [] => 0
 | x :: r => minQ q x.1 * x.2 + C (q - minQ q x.1) r
theorem partAt_zero (q : Rat) (x : Int × Int) (r : List (Int × Int)) : partAt q (x :: r) 0 = minQ q x.1 := rfl
theorem partAt_succ (q : Rat) (x : Int × Int) (r : List (Int × Int)) (i : Nat) : partAt q (x :: r) (i + 1) = partAt (q - minQ q x.1) r i := rfl
theorem costTo_cons (q : Rat) (x : Int × Int) (r : List (Int × Int)) : ∀ k, costTo q (x :: r) (k + 1) = minQ q x.1 * x.2 + costTo (q - minQ q x.1) r k
 | 0 => by
  simp only [costTo, partAt_zero, Rat.zero_add, Rat.add_zero]
  rfl
 | k + 1 => by
  rw [costTo, costTo_cons q x r k, partAt_succ]
  have e : (x :: r).getD (k + 1) (0, 0) = r.getD k (0, 0) := by simp [List.getD]
  rw [e, Rat.add_assoc]
  rfl
theorem costTo_C : ∀ (l : List (Int × Int)) (q : Rat), costTo q l l.length = C q l
 | [], _ => rfl
 | x :: r, q => by
  rw [List.length_cons, costTo_cons, costTo_C r]
  rfl
theorem minQ_le_left (p q : Rat) : minQ p q ≤ p := by
 unfold minQ
 split
 ·exact Rat.le_of_lt ‹_›
 ·exact Rat.le_refl
theorem minQ_le_right (p q : Rat) : minQ p q ≤ q := by
 unfold minQ
 split
 ·exact Rat.le_refl
 ·exact Rat.not_lt.1 ‹_›
theorem minQ_nonneg {p q : Rat} (hp : 0 ≤ p) (hq : 0 ≤ q) : 0 ≤ minQ p q := by
 unfold minQ
 split
 ·exact hq
 ·exact hp
theorem minQ_cases (p q : Rat) : (p ≤ q ∧ minQ p q = p) ∨ (q < p ∧ minQ p q = q) := by
 unfold minQ
 by_cases h : q < p
 ·exact .inr ⟨h, if_pos h⟩
 ·exact .inl ⟨Rat.not_lt.1 h, if_neg h⟩
theorem rest_range {q : Rat} {x : Int × Int} {r : List (Int × Int)} (_h0 : 0 ≤ q) (h1 : q ≤ (sumQ (x :: r) : Int)) (hr : 0 ≤ sumQ r) : 0 ≤ q - minQ q x.1 ∧ q - minQ q x.1 ≤ (sumQ r : Int) := by
 have hs : ((sumQ (x :: r) : Int) : Rat) = (x.1 : Int) + (sumQ r : Int) := by simp only [sumQ, Rat.intCast_add]
 have hr' : (0 : Rat) ≤ ((sumQ r : Int) : Rat) := Rat.intCast_nonneg.2 hr
 rw [hs] at h1
 rcases minQ_cases q x.1 with ⟨h, e⟩ | ⟨h, e⟩ <;> rw [e] <;> constructor <;> grind
def V (lam : Rat) : List (Int × Int) → Rat
 | [] => 0
 | x :: r => minQ 0 (((x.2 : Int) - lam) * (x.1 : Int)) + V lam r
theorem bound_step {m x d : Rat} (h0 : 0 ≤ m) (h1 : m ≤ x) : minQ 0 (d * x) ≤ m * d := by
 rcases Rat.le_total (a := 0) (b := d) with h | h
 ·exact Rat.le_trans (minQ_le_left _ _) (Rat.mul_nonneg h0 h)
 ·refine Rat.le_trans (minQ_le_right _ _) ?_
  have h2 : 0 ≤ (x - m) * (-d) := Rat.mul_nonneg (by grind) (by grind)
  grind
theorem C_bound (lam : Rat) : ∀ {l : List (Int × Int)}, InRange l → ∀ {q : Rat}, 0 ≤ q → q ≤ (sumQ l : Int) → V lam l ≤ C q l - lam * q
 | [], _, q, h0, h1 => by
  have : q = 0 := Rat.le_antisymm (by simpa [sumQ] using h1) h0
  rw [this]
  simp only [V, C]
  grind
 | x :: r, hl, q, h0, h1 => by
  have hx := hl x (by simp)
  have hr : InRange r := fun y hy => hl y (by simp [hy])
  have hs := sumQ_bd hr
  obtain ⟨g0, g1⟩ := rest_range h0 h1 (by omega)
  have ih := C_bound lam hr g0 g1
  have hb := bound_step (m := minQ q x.1) (x := (x.1 : Int)) (d := (x.2 : Int) - lam) (minQ_nonneg h0 (Rat.intCast_nonneg.2 (by omega))) (minQ_le_right _ _)
  simp only [V, C]
  generalize minQ q x.1 = m at *
  generalize minQ 0 (((x.2 : Int) - lam) * (x.1 : Int)) = k at *
  grind
abbrev Rise (l : List (Int × Int)) : Prop := List.Pairwise (fun a b => a.2 < b.2) l
theorem V_zero {lam : Rat} : ∀ {l : List (Int × Int)}, InRange l → (∀ y ∈ l, lam ≤ (y.2 : Int)) → V lam l = 0
 | [], _, _ => rfl
 | x :: r, hl, h => by
  have hx := hl x (by simp)
  have h1 := h x (by simp)
  simp only [V]
  rw [V_zero (fun y hy => hl y (by simp [hy])) (fun y hy => h y (by simp [hy]))]
  have h2 : 0 ≤ ((x.2 : Int) - lam) * (x.1 : Int) := Rat.mul_nonneg (by grind) (Rat.intCast_nonneg.2 (by omega))
  rcases minQ_cases 0 (((x.2 : Int) - lam) * (x.1 : Int)) with ⟨_, e⟩ | ⟨h3, _⟩
  ·rw [e]; grind
  ·exact absurd h3 (Rat.not_lt.2 h2)
theorem C_touch : ∀ {l : List (Int × Int)}, InRange l → Rise l → ∀ {q : Rat}, 0 ≤ q → q ≤ (sumQ l : Int) → l ≠ [] → ∃ y ∈ l, C q l - ((y.2 : Int) : Rat) * q = V ((y.2 : Int) : Rat) l
 | x :: r, hl, hp, q, h0, h1, _ => by
  have hx := hl x (by simp)
  have hr : InRange r := fun y hy => hl y (by simp [hy])
  have hs := sumQ_bd hr
  obtain ⟨g0, g1⟩ := rest_range h0 h1 (by omega)
  obtain ⟨hp1, hp2⟩ := List.pairwise_cons.1 hp
  rcases minQ_cases q x.1 with ⟨hle, e⟩ | ⟨hlt, e⟩
  ·refine ⟨x, by simp, ?_⟩
   have hz : C 0 r = 0 := by rw [← costTo_C]; exact cost_zero hr _ (Nat.le_refl _)
   simp only [C, V]
   rw [e, show q - q = 0 by grind, hz, V_zero hr (fun y hy => Rat.intCast_le_intCast.2 (by have := hp1 y hy; omega))]
   have hm : minQ 0 ((((x.2 : Int) : Rat) - (x.2 : Int)) * (x.1 : Int)) = 0 := by
    rw [show (((x.2 : Int) : Rat) - (x.2 : Int)) * (x.1 : Int) = 0 by grind]
    rcases minQ_cases 0 0 with ⟨_, e⟩ | ⟨_, e⟩ <;> exact e
   rw [hm]
   grind
  ·rw [e] at g0 g1
   have hne : r ≠ [] := by
    rintro rfl
    simp only [sumQ] at g1
    grind
   obtain ⟨y, hy, ih⟩ := C_touch hr hp2 g0 g1 hne
   refine ⟨y, by simp [hy], ?_⟩
   have hyx := hp1 y hy
   have hd : ((x.2 : Int) : Rat) - (y.2 : Int) ≤ 0 := by
    have := Rat.intCast_le_intCast.2 (show x.2 ≤ y.2 by omega)
    grind
   have hm : minQ 0 ((((x.2 : Int) : Rat) - (y.2 : Int)) * (x.1 : Int)) = (((x.2 : Int) : Rat) - (y.2 : Int)) * (x.1 : Int) := by
    have h2 : 0 ≤ (-(((x.2 : Int) : Rat) - (y.2 : Int))) * (x.1 : Int) := Rat.mul_nonneg (by grind) (Rat.intCast_nonneg.2 (by omega))
    rcases minQ_cases 0 ((((x.2 : Int) : Rat) - (y.2 : Int)) * (x.1 : Int)) with ⟨h3, e3⟩ | ⟨_, e3⟩
    ·rw [e3]; grind
    ·exact e3
   simp only [C, V]
   rw [e, hm]
   grind
theorem chk_pair : ∀ {rise : Bool} {l : List (Int × Int)} {prev : Option Int}, chkFrom rise l prev = 0 → List.Pairwise (fun a b => if rise then a.2 < b.2 else b.2 < a.2) l ∧ ∀ a, prev = some a → ∀ y ∈ l, if rise then a < y.2 else y.2 < a
 | rise, [], prev, _ => ⟨List.Pairwise.nil, fun _ _ y hy => by cases hy⟩
 | rise, (q, p) :: r, prev, h => by
  rw [chkFrom_cons] at h
  by_cases hs : stepB q p = true
  ·rw [if_pos hs] at h
   by_cases hm : prevOk rise prev p = true
   ·rw [if_pos hm] at h
    obtain ⟨h1, h2⟩ := chk_pair h
    have h3 := h2 p rfl
    refine ⟨List.pairwise_cons.2 ⟨fun y hy => h3 y hy, h1⟩, fun a ha y hy => ?_⟩
    subst ha
    have h4 : if rise then a < p else p < a := by
     unfold prevOk folB at hm
     cases rise <;> simpa using hm
    rcases List.mem_cons.1 hy with rfl | hy
    ·exact h4
    ·have h5 := h3 y hy
     cases rise <;> simp at h4 h5 ⊢ <;> omega
   ·rw [if_neg hm] at h; cases h
  ·rw [if_neg hs] at h; cases h
theorem chk_rise {l : List (Int × Int)} (h : chk true l = 0) : Rise l := by
 unfold chk at h
 split at h
 ·cases h
 ·split at h
  ·cases h
  ·have := (chk_pair h).1
   simpa using this
end Go.Proofs.YtjinpfnefeiooaaGreat
namespace Go.Proofs.YtjinpfnefeiooaaGreat
open Go.RowKit

theorem alloc_ok {xs : List (Int × Int)} {q : Rat} : allocE xs q = 0 ↔ crv xs = 0 ∧ 0 ≤ q ∧ q ≤ (sumQ xs : Int) := by
 unfold allocE
 by_cases h : crv xs = 0
 ·rw [if_neg (by simp [h])]
  have ht : total xs = sumQ xs := by unfold total; rw [if_pos h]
  rw [ht]
  by_cases h2 : q < 0 ∨ ((sumQ xs : Int) : Rat) < q
  ·rw [if_pos h2]
   refine ⟨(fun e => by cases e), fun e => ?_⟩
   rcases h2 with h2 | h2
   ·exact absurd h2 (Rat.not_lt.2 e.2.1)
   ·exact absurd h2 (Rat.not_lt.2 e.2.2)
  ·rw [if_neg h2]
   refine ⟨fun _ => ⟨h, Rat.not_lt.1 (fun e => h2 (.inl e)), Rat.not_lt.1 (fun e => h2 (.inr e))⟩, fun _ => rfl⟩
 ·rw [if_pos h]
  exact ⟨fun e => absurd e h, fun e => absurd e.1 h⟩
theorem costV_C {xs : List (Int × Int)} {q : Rat} (h : allocE xs q = 0) : costV xs q = C q xs := by
 unfold costV
 rw [if_pos h, costTo_C]
end Go.Proofs.YtjinpfnefeiooaaGreat
namespace Go.Proofs.YtjinpfnefeiooaaGreat
open Go.RowKit

theorem none_wanted {lam : Rat} : ∀ {l : List (Int × Int)}, (∀ y ∈ l, lam < (y.2 : Int)) → leastOf (-1) lam l = 0 ∧ mostOf (-1) lam l = 0
 | [], _ => ⟨rfl, rfl⟩
 | x :: r, h => by
  obtain ⟨h1, h2⟩ := none_wanted (l := r) fun y hy => h y (by simp [hy])
  have hx := h x (by simp)
  have e := (cmp_is ((x.2 : Int) : Rat) lam).2.1.2 hx
  simp only [leastOf, mostOf, h1, h2, e]
  exact ⟨rfl, rfl⟩
theorem both_zero {a b : Rat} (ha : 0 ≤ a) (hb : 0 ≤ b) : a + b = 0 ↔ a = 0 ∧ b = 0 := by
 constructor
 ·intro h
  have h1 : a = 0 := Rat.le_antisymm (by grind) ha
  exact ⟨h1, by grind⟩
 ·rintro ⟨rfl, rfl⟩
  grind
theorem opt_iff (lam : Rat) : ∀ {l : List (Int × Int)}, InRange l → Rise l → ∀ {q : Rat}, 0 ≤ q → q ≤ (sumQ l : Int) → (((leastOf (-1) lam l : Int) : Rat) ≤ q ∧ q ≤ ((mostOf (-1) lam l : Int) : Rat) ↔ C q l - lam * q = V lam l)
 | [], _, _, q, h0, h1 => by
  have : q = 0 := Rat.le_antisymm (by simpa [sumQ] using h1) h0
  rw [this]
  simp only [leastOf, mostOf, C, V]
  constructor
  ·intro _; grind
  ·intro _; exact ⟨by simp, by simp⟩
 | x :: r, hl, hp, q, h0, h1 => by
  have hx := hl x (by simp)
  have hr : InRange r := fun y hy => hl y (by simp [hy])
  have hs := sumQ_bd hr
  obtain ⟨g0, g1⟩ := rest_range h0 h1 (by omega)
  obtain ⟨hp1, hp2⟩ := List.pairwise_cons.1 hp
  have ih := opt_iff lam hr hp2 g0 g1
  have hcb := C_bound lam hr g0 g1
  have hb := bound_step (m := minQ q x.1) (x := (x.1 : Int)) (d := (x.2 : Int) - lam) (minQ_nonneg h0 (Rat.intCast_nonneg.2 (by omega))) (minQ_le_right _ _)
  have hw := will_bd (-1) lam hr
  have hx1 : (0 : Rat) < ((x.1 : Int) : Rat) := Rat.intCast_pos.2 (by omega)
  have hsplit : C q (x :: r) - lam * q = V lam (x :: r) ↔ (minQ q x.1 * ((x.2 : Int) - lam) - minQ 0 (((x.2 : Int) - lam) * (x.1 : Int)) = 0 ∧ C (q - minQ q x.1) r - lam * (q - minQ q x.1) = V lam r) := by
   simp only [C, V]
   have := both_zero (a := minQ q x.1 * ((x.2 : Int) - lam) - minQ 0 (((x.2 : Int) - lam) * (x.1 : Int))) (b := C (q - minQ q x.1) r - lam * (q - minQ q x.1) - V lam r) (by grind) (by grind)
   constructor
   ·intro e
    have := this.1 (by grind)
    exact ⟨this.1, by grind⟩
   ·rintro ⟨e1, e2⟩
    grind
  rw [hsplit, ← ih]
  have hA : ((leastOf (-1) lam (x :: r) : Int) : Rat) = (if cmpQ (x.2 : Int) lam = -1 then ((x.1 : Int) : Rat) else 0) + ((leastOf (-1) lam r : Int) : Rat) := by
   simp only [leastOf, Rat.intCast_add]
   split <;> simp
  have hB : ((mostOf (-1) lam (x :: r) : Int) : Rat) = (if cmpQ (x.2 : Int) lam = -1 ∨ cmpQ (x.2 : Int) lam = 0 then ((x.1 : Int) : Rat) else 0) + ((mostOf (-1) lam r : Int) : Rat) := by
   simp only [mostOf, Rat.intCast_add]
   split <;> simp
  rw [hA, hB]
  have hA0 : (0 : Rat) ≤ ((leastOf (-1) lam r : Int) : Rat) := Rat.intCast_nonneg.2 hw.1
  obtain ⟨c1, c2, c3⟩ := cmp_is ((x.2 : Int) : Rat) lam
  rcases minQ_cases q x.1 with ⟨hle, e⟩ | ⟨hlt, e⟩
  ·rw [e]
   by_cases d1 : ((x.2 : Int) : Rat) < lam
   ·rw [if_pos (c1.2 d1), if_pos (.inl (c1.2 d1))]
    have hm : minQ 0 ((((x.2 : Int) : Rat) - lam) * (x.1 : Int)) = (((x.2 : Int) : Rat) - lam) * (x.1 : Int) := by
     have h2 : 0 < (lam - ((x.2 : Int) : Rat)) * (x.1 : Int) := Rat.mul_pos (by grind) hx1
     rcases minQ_cases 0 ((((x.2 : Int) : Rat) - lam) * (x.1 : Int)) with ⟨h3, _⟩ | ⟨_, e3⟩
     ·exfalso; grind
     ·exact e3
    rw [hm]
    constructor
    ·rintro ⟨k1, k2⟩
     have : q = ((x.1 : Int) : Rat) := Rat.le_antisymm hle (by grind)
     exact ⟨by rw [this]; grind, by rw [this]; grind, by rw [this]; grind⟩
    ·rintro ⟨k1, k2, k3⟩
     have hne : (((x.2 : Int) : Rat) - lam) ≠ 0 := by grind
     have : q = ((x.1 : Int) : Rat) := by
      have h5 : (q - ((x.1 : Int) : Rat)) * (((x.2 : Int) : Rat) - lam) = 0 := by grind
      rcases Rat.mul_eq_zero.1 h5 with h6 | h6
      ·grind
      ·exact absurd h6 hne
     exact ⟨by grind, by grind⟩
   ·have d1' : ¬ cmpQ ((x.2 : Int) : Rat) lam = -1 := fun h => d1 (c1.1 h)
    rw [if_neg d1']
    have hn := none_wanted (lam := lam) (l := r) fun y hy => by
     have := Rat.intCast_lt_intCast.2 (hp1 y hy)
     have h4 := Rat.not_lt.1 d1
     grind
    rw [hn.1, hn.2]
    have hm : minQ 0 ((((x.2 : Int) : Rat) - lam) * (x.1 : Int)) = 0 := by
     have h2 : 0 ≤ (((x.2 : Int) : Rat) - lam) * (x.1 : Int) := Rat.mul_nonneg (by have := Rat.not_lt.1 d1; grind) (Rat.le_of_lt hx1)
     rcases minQ_cases 0 ((((x.2 : Int) : Rat) - lam) * (x.1 : Int)) with ⟨_, e3⟩ | ⟨h3, _⟩
     ·exact e3
     ·exact absurd h3 (Rat.not_lt.2 h2)
    rw [hm]
    by_cases d2 : ((x.2 : Int) : Rat) = lam
    ·rw [if_pos (.inr (c3.2 d2))]
     simp only [Rat.intCast_zero]
     constructor
     ·rintro ⟨k1, k2⟩
      exact ⟨by grind, by grind, by grind⟩
     ·rintro ⟨k1, k2, k3⟩
      exact ⟨by grind, by grind⟩
    ·rw [if_neg (by rintro (h | h); exact d1' h; exact d2 (c3.1 h))]
     simp only [Rat.intCast_zero]
     constructor
     ·rintro ⟨k1, k2⟩
      have : q = 0 := Rat.le_antisymm (by grind) h0
      rw [this]
      exact ⟨by grind, by grind, by grind⟩
     ·rintro ⟨k1, k2, k3⟩
      have hne : (((x.2 : Int) : Rat) - lam) ≠ 0 := by grind
      have : q = 0 := by
       have h5 : q * (((x.2 : Int) : Rat) - lam) = 0 := by grind
       rcases Rat.mul_eq_zero.1 h5 with h6 | h6
       ·exact h6
       ·exact absurd h6 hne
      rw [this]
      exact ⟨by grind, by grind⟩
  ·rw [e]
   by_cases d1 : ((x.2 : Int) : Rat) < lam
   ·rw [if_pos (c1.2 d1), if_pos (.inl (c1.2 d1))]
    have hm : minQ 0 ((((x.2 : Int) : Rat) - lam) * (x.1 : Int)) = (((x.2 : Int) : Rat) - lam) * (x.1 : Int) := by
     have h2 : 0 < (lam - ((x.2 : Int) : Rat)) * (x.1 : Int) := Rat.mul_pos (by grind) hx1
     rcases minQ_cases 0 ((((x.2 : Int) : Rat) - lam) * (x.1 : Int)) with ⟨h3, _⟩ | ⟨_, e3⟩
     ·exfalso; grind
     ·exact e3
    rw [hm]
    constructor
    ·rintro ⟨k1, k2⟩
     exact ⟨by grind, by grind, by grind⟩
    ·rintro ⟨k1, k2, k3⟩
     exact ⟨by grind, by grind⟩
   ·have d1' : ¬ cmpQ ((x.2 : Int) : Rat) lam = -1 := fun h => d1 (c1.1 h)
    rw [if_neg d1']
    have hn := none_wanted (lam := lam) (l := r) fun y hy => by
     have := Rat.intCast_lt_intCast.2 (hp1 y hy)
     have h4 := Rat.not_lt.1 d1
     grind
    rw [hn.1, hn.2]
    have hm : minQ 0 ((((x.2 : Int) : Rat) - lam) * (x.1 : Int)) = 0 := by
     have h2 : 0 ≤ (((x.2 : Int) : Rat) - lam) * (x.1 : Int) := Rat.mul_nonneg (by have := Rat.not_lt.1 d1; grind) (Rat.le_of_lt hx1)
     rcases minQ_cases 0 ((((x.2 : Int) : Rat) - lam) * (x.1 : Int)) with ⟨_, e3⟩ | ⟨h3, _⟩
     ·exact e3
     ·exact absurd h3 (Rat.not_lt.2 h2)
    rw [hm]
    simp only [Rat.intCast_zero]
    by_cases d2 : ((x.2 : Int) : Rat) = lam
    ·rw [if_pos (.inr (c3.2 d2))]
     constructor
     ·rintro ⟨k1, k2⟩
      exfalso; grind
     ·rintro ⟨k1, k2, k3⟩
      exfalso; grind
    ·rw [if_neg (by rintro (h | h); exact d1' h; exact d2 (c3.1 h))]
     constructor
     ·rintro ⟨k1, k2⟩
      exfalso; grind
     ·rintro ⟨k1, k2, k3⟩
      exfalso; grind
theorem opt_core (lam : Rat) {l : List (Int × Int)} (hl : InRange l) (hp : Rise l) {q : Rat} (h0 : 0 ≤ q) (h1 : q ≤ (sumQ l : Int)) :
  lam * ((leastOf (-1) lam l : Int) : Rat) - C (leastOf (-1) lam l : Int) l = lam * ((mostOf (-1) lam l : Int) : Rat) - C (mostOf (-1) lam l : Int) l ∧
  ((((leastOf (-1) lam l : Int) : Rat) ≤ q ∧ q ≤ ((mostOf (-1) lam l : Int) : Rat)) → lam * q - C q l = lam * ((leastOf (-1) lam l : Int) : Rat) - C (leastOf (-1) lam l : Int) l) ∧
  (¬ (((leastOf (-1) lam l : Int) : Rat) ≤ q ∧ q ≤ ((mostOf (-1) lam l : Int) : Rat)) → lam * q - C q l < lam * ((leastOf (-1) lam l : Int) : Rat) - C (leastOf (-1) lam l : Int) l) := by
 obtain ⟨w0, w1, w2⟩ := will_bd (-1) lam hl
 have a0 : (0 : Rat) ≤ ((leastOf (-1) lam l : Int) : Rat) := Rat.intCast_nonneg.2 w0
 have ab : ((leastOf (-1) lam l : Int) : Rat) ≤ ((mostOf (-1) lam l : Int) : Rat) := Rat.intCast_le_intCast.2 w1
 have bs : ((mostOf (-1) lam l : Int) : Rat) ≤ ((sumQ l : Int) : Rat) := Rat.intCast_le_intCast.2 w2
 have eA := (opt_iff lam hl hp a0 (Rat.le_trans ab bs)).1 ⟨Rat.le_refl, ab⟩
 have eB := (opt_iff lam hl hp (Rat.le_trans a0 ab) bs).1 ⟨ab, Rat.le_refl⟩
 have eq := opt_iff lam hl hp h0 h1
 have hb := C_bound lam hl h0 h1
 refine ⟨by grind, fun h => ?_, fun h => ?_⟩
 ·have := eq.1 h
  grind
 ·have h2 : C q l - lam * q ≠ V lam l := fun e => h (eq.2 e)
  have h3 : V lam l < C q l - lam * q := Rat.lt_of_le_of_ne hb (Ne.symm h2)
  grind
end Go.Proofs.YtjinpfnefeiooaaGreat
