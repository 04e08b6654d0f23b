/- Plain facts for the law StepFillingOrder. -/
import Derived.Test.YtppcpklnnbgcjaaConvP
namespace Go.Proofs.Ytppcpklnnbgcjaa
open Go.RowKit

/-- What is taken in all from the first k steps. -/
def takenTo (q : Rat) (xs : List (Int × Int)) : Nat → Rat
  | 0 => 0
  | k + 1 => takenTo q xs k + partAt q xs k
theorem rest_nonneg : ∀ {l : List (Int × Int)} {q : Rat}, InRange l → 0 ≤ q → 0 ≤ restR q l
  | [], _, _, h => h
  | x :: r, q, hl, h => by
    have hx := hl x (by simp)
    show 0 ≤ restR (q - minQ q (x.1 : Int)) r
    refine rest_nonneg (l := r) (fun y hy => hl y (by simp [hy])) ?_
    have := minQ_le_left q (x.1 : Int)
    grind
theorem rest_left : ∀ {l : List (Int × Int)} {q : Rat}, InRange l → 0 ≤ q → q ≤ (sumQ l : Int) → restR q l = 0
  | [], q, _, h0, h1 => by
    show q = 0
    exact Rat.le_antisymm (by simpa [sumQ] using h1) h0
  | x :: r, q, hl, h0, h1 => by
    have hr : InRange r := fun y hy => hl y (by simp [hy])
    have hs := sumQ_bd hr
    obtain ⟨g0, g1⟩ := rest_range h0 h1 (by omega)
    show restR (q - minQ q (x.1 : Int)) r = 0
    exact rest_left (l := r) hr g0 g1
theorem part_facts {xs : List (Int × Int)} {q : Rat} (hr : InRange xs) (h0 : 0 ≤ q) {i : Nat} (hi : i < xs.length) : 0 ≤ partAt q xs i ∧ partAt q xs i ≤ ((xs.getD i (0, 0)).1 : Int) := by
  have hm : xs.getD i (0, 0) ∈ xs := by simp [List.getD, hi]
  have hq := hr _ hm
  have hn := rest_nonneg (l := xs.take i) (fun y hy => hr y (List.mem_of_mem_take hy)) h0
  exact ⟨minQ_nonneg hn (Rat.intCast_nonneg.2 (by omega)), minQ_le_right _ _⟩
theorem taken_rest {xs : List (Int × Int)} {q : Rat} : ∀ k, k ≤ xs.length → takenTo q xs k = q - restR q (xs.take k)
  | 0, _ => by simp [takenTo, restR]; grind
  | k + 1, hk => by
    rw [takenTo, taken_rest k (by omega), rest_succ (show k < xs.length by omega)]
    grind
theorem part_full {xs : List (Int × Int)} {q : Rat} (_hr : InRange xs) {i : Nat} (hi : i + 1 < xs.length) (hp : 0 < partAt q xs (i + 1)) : partAt q xs i = ((xs.getD i (0, 0)).1 : Int) := by
  have h1 : partAt q xs (i + 1) ≤ restR q (xs.take (i + 1)) := minQ_le_left _ _
  rw [rest_succ (show i < xs.length by omega)] at h1
  have hc : partAt q xs i = minQ (restR q (xs.take i)) ((xs.getD i (0, 0)).1 : Int) := rfl
  rcases minQ_cases (restR q (xs.take i)) ((xs.getD i (0, 0)).1 : Int) with ⟨_, e⟩ | ⟨_, e⟩
  · rw [e] at hc
    rw [hc] at h1
    grind
  · rw [hc, e]
theorem taken_all {xs : List (Int × Int)} {q : Rat} (h : allocE xs q = 0) : takenTo q xs xs.length = q := by
  obtain ⟨h0, a0, a1⟩ := alloc_ok.1 h
  obtain ⟨_, _, hr⟩ := crv_range h0
  rw [taken_rest xs.length (Nat.le_refl _), List.take_length, rest_left hr a0 a1]
  grind
end Go.Proofs.Ytppcpklnnbgcjaa
