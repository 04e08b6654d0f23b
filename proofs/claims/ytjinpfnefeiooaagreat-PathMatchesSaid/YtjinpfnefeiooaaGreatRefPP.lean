/- A part of the proof. -/
import Derived.Test.YtjinpfnefeiooaaGreatRefP
import Derived.Test.YtjinpfnefeiooaaGreatPathR
namespace Go.Proofs.YtjinpfnefeiooaaGreat
open Go.RowKit

def Cand (u : U) (k : Nat) (q : Int) : Prop := q = u.mn ∨ ∃ j, j ≤ k ∧ q = sumQ (u.steps.take j) ∧ u.mn < q
def HInv (u : U) (p : Rat) (k : Nat) (b : Int) : Prop := Cand u k b ∧ ∀ q, Cand u k q → u.ownV p q < u.ownV p b ∨ u.ownV p q = u.ownV p b ∧ b ≤ q
theorem Cand.succ {u : U} {k : Nat} {q : Int} (h : Cand u k q) : Cand u (k + 1) q := by
 rcases h with h | ⟨j, h1, h2, h3⟩
 ·exact .inl h
 ·exact .inr ⟨j, by omega, h2, h3⟩
theorem Cand.cases {u : U} {k : Nat} {q : Int} (h : Cand u (k + 1) q) : Cand u k q ∨ q = sumQ (u.steps.take (k + 1)) ∧ u.mn < q := by
 rcases h with h | ⟨j, h1, h2, h3⟩
 ·exact .inl (.inl h)
 ·by_cases e : j = k + 1
  ·subst e; exact .inr ⟨h2, h3⟩
  ·exact .inl (.inr ⟨j, by omega, h2, h3⟩)
theorem hinv_start {u : U} (h : 0 ≤ u.mn) (p : Rat) : HInv u p 0 u.mn := by
 refine ⟨.inl rfl, fun q hq => ?_⟩
 rcases hq with rfl | ⟨j, h1, h2, h3⟩
 ·exact .inr ⟨rfl, by omega⟩
 ·obtain rfl : j = 0 := by omega
  simp [sumQ] at h2
  omega
theorem hinv_low {u : U} {p : Rat} {k : Nat} {b : Int} (h : HInv u p k b) (hs : sumQ (u.steps.take (k + 1)) ≤ u.mn) : HInv u p (k + 1) b := by
 refine ⟨h.1.succ, fun q hq => ?_⟩
 rcases hq.cases with hq | ⟨h1, h2⟩
 ·exact h.2 q hq
 ·omega
theorem hinv_up {u : U} {p : Rat} {k : Nat} {b : Int} (h : HInv u p k b) (hs : u.mn < sumQ (u.steps.take (k + 1))) (hg : u.ownV p b < u.ownV p (sumQ (u.steps.take (k + 1)))) : HInv u p (k + 1) (sumQ (u.steps.take (k + 1))) := by
 refine ⟨.inr ⟨k + 1, Nat.le_refl _, rfl, hs⟩, fun q hq => ?_⟩
 rcases hq.cases with hq | ⟨h1, h2⟩
 ·left
  rcases h.2 q hq with h3 | ⟨h3, -⟩
  ·grind
  ·rw [h3]; exact hg
 ·right
  rw [h1]
  exact ⟨rfl, Int.le_refl _⟩
theorem hinv_keep {u : U} {p : Rat} {k : Nat} {b : Int} (h : HInv u p k b) (hs : u.mn < sumQ (u.steps.take (k + 1))) (hg : ¬ u.ownV p b < u.ownV p (sumQ (u.steps.take (k + 1)))) (hm : ∀ j, j ≤ k → sumQ (u.steps.take j) ≤ sumQ (u.steps.take (k + 1))) : HInv u p (k + 1) b := by
 refine ⟨h.1.succ, fun q hq => ?_⟩
 rcases hq.cases with hq | ⟨h1, h2⟩
 ·exact h.2 q hq
 ·subst h1
  have hle := Rat.not_lt.1 hg
  by_cases he : u.ownV p (sumQ (u.steps.take (k + 1))) = u.ownV p b
  ·right
   refine ⟨he, ?_⟩
   rcases h.1 with e | ⟨j, h3, h4, h5⟩
   ·omega
   ·rw [h4]; exact hm j h3
  ·left
   rcases Rat.le_iff_lt_or_eq.1 hle with h3 | h3
   ·exact h3
   ·exact absurd h3 he
theorem sums_mono {xs : List (Int × Int)} (hr : ∀ x ∈ xs, 1 ≤ x.1 ∧ x.1 ≤ 1000000 ∧ -1000000 ≤ x.2 ∧ x.2 ≤ 1000000) {i j : Nat} (h : i ≤ j) : sumQ (xs.take i) ≤ sumQ (xs.take j) := by
 have e : xs.take j = xs.take i ++ (xs.take j).drop i := by
  have h1 := (List.take_append_drop i (xs.take j)).symm
  rw [List.take_take, Nat.min_eq_left h] at h1
  exact h1
 rw [e, sumQ_append]
 have := (sumQ_bd (l := (xs.take j).drop i) fun y hy => hr y (List.mem_of_mem_take (List.mem_of_mem_drop hy))).1
 omega
theorem least_none {p : Rat} : ∀ {l : List (Int × Int)}, (∀ x ∈ l, p ≤ (x.2 : Int)) → leastOf (-1) p l = 0
 | [], _ => rfl
 | x :: r, h => by
  have h1 := h x (by simp)
  have h2 := least_none (l := r) fun y hy => h y (by simp [hy])
  simp only [leastOf, h2]
  rw [if_neg (fun e => by have := ((cmp_is _ _).1).1 e; exact absurd this (Rat.not_lt.2 h1))]
  rfl
theorem least_prefix {p : Rat} : ∀ {l : List (Int × Int)}, List.Pairwise (fun a b => a.2 < b.2) l → ∃ j, j ≤ l.length ∧ leastOf (-1) p l = sumQ (l.take j)
 | [], _ => ⟨0, Nat.le_refl _, rfl⟩
 | x :: r, h => by
  rw [List.pairwise_cons] at h
  by_cases hx : ((x.2 : Int) : Rat) < p
  ·obtain ⟨j, h1, h2⟩ := least_prefix (p := p) h.2
   refine ⟨j + 1, by simpa using h1, ?_⟩
   simp only [leastOf, List.take_succ_cons, sumQ, h2]
   rw [if_pos (((cmp_is _ _).1).2 hx)]
  ·refine ⟨0, by omega, ?_⟩
   have h3 : leastOf (-1) p r = 0 := least_none fun y hy => Rat.le_trans (Rat.not_lt.1 hx) (Rat.intCast_le_intCast.2 (Int.le_of_lt (h.1 y hy)))
   simp only [leastOf, h3]
   rw [if_neg (fun e => hx (((cmp_is _ _).1).1 e))]
   rfl
theorem hinv_end {u : U} (hok : u.ok = true) {p : Rat} {b : Int} (h : HInv u p u.steps.length b) : b = u.hq p ∧ u.ownV p b = u.hp p := by
 have hc := U.chk0 hok
 have hv := crv_of_chk hc
 obtain ⟨-, -, hr⟩ := crv_range hv
 have ht : u.top = sumQ u.steps := by unfold U.top; rw [if_pos hc, total_is hv]
 have hrng : ∀ q, Cand u u.steps.length q → u.mn ≤ q ∧ q ≤ u.top := fun q hq => by
  have hm := U.okm hok
  rw [total_is hv] at hm
  rcases hq with rfl | ⟨j, h1, h2, h3⟩
  ·rw [ht]; omega
  ·have h4 := sums_mono hr h1
   rw [List.take_length] at h4
   rw [ht]
   omega
 have hopt : ∀ q, Cand u u.steps.length q → u.ownV p q ≤ u.hp p ∧ (u.ownV p q = u.hp p → u.hq p ≤ q) := fun q hq => by
  obtain ⟨a, b⟩ := hour_opt hok p (q := ((q : Int) : Rat)) (Rat.intCast_le_intCast.2 (hrng q hq).1) (Rat.intCast_le_intCast.2 (hrng q hq).2)
  exact ⟨a, fun e => Rat.intCast_le_intCast.1 (b e)⟩
 have hcand : Cand u u.steps.length (u.hq p) := by
  have hw : wantL true u.steps p = leastOf (-1) p u.steps := by unfold wantL; rw [if_pos hc]; rfl
  have hpw : List.Pairwise (fun a b : Int × Int => a.2 < b.2) u.steps := by
   have h1 := hc
   unfold chk at h1
   split at h1
   ·omega
   ·split at h1
    ·omega
    ·simpa using (chk_pair h1).1
  obtain ⟨j, h1, h2⟩ := least_prefix (p := p) hpw
  unfold U.hq
  rw [hw, h2]
  by_cases hle : sumQ (u.steps.take j) ≤ u.mn
  ·exact .inl (by omega)
  ·exact .inr ⟨j, h1, by omega, by omega⟩
 have hself : u.ownV p (u.hq p) = u.hp p := by unfold U.ownV U.hp; grind
 rcases h.2 _ hcand with h1 | ⟨h1, h2⟩
 ·have := (hopt b h.1).1
  rw [hself] at h1
  exact absurd h1 (Rat.not_lt.2 this)
 ·rw [hself] at h1
  exact ⟨Int.le_antisymm h2 ((hopt b h.1).2 h1.symm), h1.symm⟩
end Go.Proofs.YtjinpfnefeiooaaGreat
