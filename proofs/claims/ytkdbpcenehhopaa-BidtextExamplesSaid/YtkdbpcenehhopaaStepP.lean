/- Plain words for offer and bid curves: what the checks answer on a list of steps. -/
import Derived.Below
namespace Go.Proofs.Ytkdbpcenehhopaa
open Go.RowKit

/-- Does price b follow price a, in a rising or a falling curve? -/
def folB (rise : Bool) (a b : Int) : Bool := if rise then decide (a < b) else decide (b < a)
/-- A step's numbers are in range. -/
def stepB (q p : Int) : Bool := decide (1 ≤ q) && decide (q ≤ 1000000) && decide (-1000000 ≤ p) && decide (p ≤ 1000000)
/-- The check from a step on, behind a step of price prev. -/
def chkFrom (rise : Bool) : List (Int × Int) → Option Int → Int
  | [], _ => 0
  | (q, p) :: r, prev => if stepB q p then (if (match prev with | none => true | some a => folB rise a p) then chkFrom rise r (some p) else 3) else 1
def chk (rise : Bool) (l : List (Int × Int)) : Int := if l.length = 0 then 4 else if 3 < l.length then 5 else chkFrom rise l none
def prevOk (rise : Bool) (prev : Option Int) (p : Int) : Bool := match prev with | none => true | some a => folB rise a p
theorem chkFrom_cons (rise : Bool) (q p : Int) (r : List (Int × Int)) (prev : Option Int) : chkFrom rise ((q, p) :: r) prev = if stepB q p then (if prevOk rise prev p then chkFrom rise r (some p) else 3) else 1 := rfl
/-- The check of a curve of either direction. -/
def crv (l : List (Int × Int)) : Int := if chk false l = 0 then 0 else chk true l
def sumQ : List (Int × Int) → Int
  | [] => 0
  | x :: r => x.1 + sumQ r
/-- The total quantity, 0 for no curve. -/
def total (l : List (Int × Int)) : Int := if crv l = 0 then sumQ l else 0
theorem sumQ_append (l r : List (Int × Int)) : sumQ (l ++ r) = sumQ l + sumQ r := by
  induction l with
  | nil => simp [sumQ]
  | cons x l ih => simp [sumQ, ih]; omega
theorem chkFrom_range {rise : Bool} : ∀ {l : List (Int × Int)} {prev : Option Int}, chkFrom rise l prev = 0 → ∀ x ∈ l, 1 ≤ x.1 ∧ x.1 ≤ 1000000 ∧ -1000000 ≤ x.2 ∧ x.2 ≤ 1000000
  | (q, p) :: r, prev, h, x, hx => by
    rw [chkFrom_cons] at h
    by_cases hs : stepB q p = true
    · rw [if_pos hs] at h
      by_cases hm : prevOk rise prev p = true
      · rw [if_pos hm] at h
        rcases List.mem_cons.1 hx with rfl | hx
        · simp only [stepB, Bool.and_eq_true, decide_eq_true_eq] at hs
          omega
        · exact chkFrom_range h x hx
      · rw [if_neg hm] at h; omega
    · rw [if_neg hs] at h; omega
theorem chk_range {rise : Bool} {l : List (Int × Int)} (h : chk rise l = 0) : 1 ≤ l.length ∧ l.length ≤ 3 ∧ ∀ x ∈ l, 1 ≤ x.1 ∧ x.1 ≤ 1000000 ∧ -1000000 ≤ x.2 ∧ x.2 ≤ 1000000 := by
  unfold chk at h
  by_cases h0 : l.length = 0
  · rw [if_pos h0] at h; omega
  · rw [if_neg h0] at h
    by_cases h3 : 3 < l.length
    · rw [if_pos h3] at h; omega
    · rw [if_neg h3] at h
      exact ⟨by omega, by omega, chkFrom_range h⟩
theorem crv_range {l : List (Int × Int)} (h : crv l = 0) : 1 ≤ l.length ∧ l.length ≤ 3 ∧ ∀ x ∈ l, 1 ≤ x.1 ∧ x.1 ≤ 1000000 ∧ -1000000 ≤ x.2 ∧ x.2 ≤ 1000000 := by
  unfold crv at h
  by_cases h0 : chk false l = 0
  · exact chk_range h0
  · rw [if_neg h0] at h; exact chk_range h
theorem crv_of_chk {l : List (Int × Int)} (h : chk true l = 0) : crv l = 0 := by
  unfold crv; split <;> simp_all
theorem sumQ_bd : ∀ {l : List (Int × Int)}, (∀ x ∈ l, 1 ≤ x.1 ∧ x.1 ≤ 1000000 ∧ -1000000 ≤ x.2 ∧ x.2 ≤ 1000000) → 0 ≤ sumQ l ∧ sumQ l ≤ 1000000 * l.length
  | [], _ => by simp [sumQ]
  | x :: r, h => by
    have h1 := h x (by simp)
    have h2 := sumQ_bd (l := r) fun y hy => h y (by simp [hy])
    simp only [sumQ, List.length_cons]
    omega
theorem total_bd (l : List (Int × Int)) : 0 ≤ total l ∧ total l ≤ 3000000 := by
  unfold total
  by_cases h : crv l = 0
  · rw [if_pos h]
    obtain ⟨_, h2, h3⟩ := crv_range h
    have := sumQ_bd h3
    omega
  · rw [if_neg h]; omega
theorem take_snoc {α : Type} (l : List α) (d : α) {k : Nat} (h : k < l.length) : l.take (k + 1) = l.take k ++ [l.getD k d] := by
  rw [List.take_succ_eq_append_getElem h]
  simp [List.getD, h]
def prevOf (l : List (Int × Int)) : Nat → Option Int
  | 0 => none
  | k + 1 => some (l.getD k (0, 0)).2
theorem chkFrom_next {rise : Bool} {l : List (Int × Int)} {k : Nat} (hk : k < l.length) :
    chkFrom rise (l.drop k) (prevOf l k) = if stepB (l.getD k (0, 0)).1 (l.getD k (0, 0)).2 then (if (match prevOf l k with | none => true | some a => folB rise a (l.getD k (0, 0)).2) then chkFrom rise (l.drop (k + 1)) (prevOf l (k + 1)) else 3) else 1 := by
  rw [List.drop_eq_getElem_cons hk]
  have hg : l.getD k (0, 0) = l[k] := by simp [List.getD, hk]
  simp only [hg, prevOf]
  rfl

/-- The slice with address A and length n holds the steps xs. -/
def StepsAt (w : World) (A : Option Addr) (n : Nat) (xs : List (Int × Int)) : Prop :=
  xs.length = n ∧ (0 < n → ∃ b off, A = some ⟨b, off, none⟩ ∧ b < w.heap.size ∧ ∀ i, i < n → w.cell? ⟨b, off + i * 2, none⟩ = some (.int .i64 (xs.getD i (0, 0)).1) ∧ w.cell? ⟨b, off + i * 2 + 1, none⟩ = some (.int .i64 (xs.getD i (0, 0)).2))
theorem StepsAt.below {w w' : World} {A : Option Addr} {n : Nat} {xs : List (Int × Int)} (h : StepsAt w A n xs) (hb : Below w.heap.size w w') : StepsAt w' A n xs := by
  refine ⟨h.1, fun hn => ?_⟩
  obtain ⟨b, off, ha, hlt, hc⟩ := h.2 hn
  exact ⟨b, off, ha, Nat.lt_of_lt_of_le hlt hb.size, fun i hi => ⟨(hb.cell (p := ⟨b, off + i * 2, none⟩) hlt).trans (hc i hi).1, (hb.cell (p := ⟨b, off + i * 2 + 1, none⟩) hlt).trans (hc i hi).2⟩⟩
end Go.Proofs.Ytkdbpcenehhopaa
