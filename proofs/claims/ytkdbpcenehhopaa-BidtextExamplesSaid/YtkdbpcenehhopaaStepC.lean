/- Contract of step.Allocate. Contract of step.Cost. Contracts of step.willing, SupplyAt, DemandAt. -/
import Derived.Test.YtkdbpcenehhopaaAllocP
import Derived.Test.YtkdbpcenehhopaaStepA
import Derived.Test.YtkdbpcenehhopaaMulW
namespace Go.Proofs.Ytkdbpcenehhopaa
open Go.RowKit

theorem info_q : (Try.prog.info? 72).map (fun i => (i.zero, i.size, i.bytes)) = some (some (.agg #[.bool false, .slice none 0 0, .bool false, .slice none 0 0]), 4, 64) := by kernel_rfl
theorem row4_made (w : World) (k : Nat) (zs : Array Value) (t : TypeId) : Row4 (w.alloc (.cells (madeCells zs (k * 4)) t)) w.heap.size k := by
  have hb : Blk (w.alloc (.cells (madeCells zs (k * 4)) t)) w.heap.size t (madeCells zs (k * 4)) := Blk.new w t _
  refine ⟨by simp, fun j hj => ?_, fun j => hb.frozen j⟩
  rw [hb.cell j]
  have : j < (madeCells zs (k * 4)).size := by rw [size_madeCells]; exact hj
  exact ⟨_, Array.getElem?_eq_getElem this⟩
theorem Cell4.put4 {w : World} {k : Nat} {u0 u1 u2 u3 : Value} (h : Cell4 w k u0 u1 u2 u3) (v0 v1 v2 v3 : Value) : Cell4 (put4 w k 0 v0 v1 v2 v3) k v0 v1 v2 v3 := by
  have hp := put4_here (w := w) (g := k) (off := 0) v0 v1 v2 v3 ⟨_, h.1.1⟩ ⟨_, h.1.2.1⟩ ⟨_, h.1.2.2.1⟩ ⟨_, h.1.2.2.2⟩
  refine ⟨hp, ⟨?_, ?_, ?_, ?_⟩, by rw [put4_size]; exact h.2.2⟩ <;> rw [put4_frozen]
  · exact h.2.1.1
  · exact h.2.1.2.1
  · exact h.2.1.2.2.1
  · exact h.2.1.2.2.2
theorem Cell4.far4 {w : World} {k g off : Nat} {u0 u1 u2 u3 : Value} (h : Cell4 w k u0 u1 u2 u3) (hg : g ≠ k) (v0 v1 v2 v3 : Value) : Cell4 (Go.Proofs.Ytkdbpcenehhopaa.put4 w g off v0 v1 v2 v3) k u0 u1 u2 u3 := by
  refine ⟨⟨?_, ?_, ?_, ?_⟩, ⟨?_, ?_, ?_, ?_⟩, by rw [put4_size]; exact h.2.2⟩
  · rw [put4_far _ _ _ _ (.inl hg)]; exact h.1.1
  · rw [put4_far _ _ _ _ (.inl hg)]; exact h.1.2.1
  · rw [put4_far _ _ _ _ (.inl hg)]; exact h.1.2.2.1
  · rw [put4_far _ _ _ _ (.inl hg)]; exact h.1.2.2.2
  · rw [put4_frozen]; exact h.2.1.1
  · rw [put4_frozen]; exact h.2.1.2.1
  · rw [put4_frozen]; exact h.2.1.2.2.1
  · rw [put4_frozen]; exact h.2.1.2.2.2

/-- What Allocate answers. -/
def RetAlloc (w : World) (xs : List (Int × Int)) (q : Rat) (e : Ending) (w' : World) : Prop := Ext w w' ∧ ∃ v, e = .returned (.tuple #[v, .int .i64 (allocE xs q)]) ∧ (allocE xs q ≠ 0 → v = .slice none 0 0) ∧ (allocE xs q = 0 → ∃ g, v = .slice (some ⟨g, 0, none⟩) xs.length xs.length ∧ w.heap.size ≤ g ∧ PartsAt w' w.heap.size g xs.length xs.length (partAt q xs))
theorem ret_e {v : Value} {a b : Int} (h : a = b) : Ending.returned (.tuple #[v, .int .i64 a]) = .returned (.tuple #[v, .int .i64 b]) := by rw [h]
theorem sign_neg_iff (q : Rat) : q.num.sign < 0 ↔ q < 0 := by
  rw [Int.sign_neg_iff, ← Rat.not_le, ← Rat.num_nonneg]
  omega

end Go.Proofs.Ytkdbpcenehhopaa

namespace Go.Proofs.Ytkdbpcenehhopaa
open Go.RowKit

/-- The cost of q, 0 where there is none. -/
def costV (xs : List (Int × Int)) (q : Rat) : Rat := if allocE xs q = 0 then costTo q xs xs.length else 0
/-- What Cost answers. -/
def RetCost (w : World) (xs : List (Int × Int)) (q : Rat) (e : Ending) (w' : World) : Prop := ∃ s A n c t B m d, e = .returned (.tuple #[.agg #[.bool s, .slice A n c, .bool t, .slice B m d], .int .i64 (allocE xs q)]) ∧ QCan w' w.heap.size s A n c t B m d (costV xs q) ∧ Ext w w'
theorem ret_qe {v : Value} {a b : Int} (h : a = b) : Ending.returned (.tuple #[v, .int .i64 a]) = .returned (.tuple #[v, .int .i64 b]) := by rw [h]
theorem qcan_zero (w : World) (B0 : Nat) : QCan w B0 false none 0 0 false none 0 0 0 := ⟨zcan_zero _ _, zcan_zero _ _⟩
theorem allocE_range {xs : List (Int × Int)} {q : Rat} (h : allocE xs q = 0) : crv xs = 0 := by
  unfold allocE at h
  by_cases e : crv xs = 0
  · exact e
  · rw [if_pos e] at h
    exact h
theorem sz_costV {xs : List (Int × Int)} {q : Rat} (hq : Sz 1000 q) : Sz 8024 (costV xs q) := by
  unfold costV
  split
  · obtain ⟨_, h3, hr⟩ := crv_range (allocE_range ‹_›)
    have := pow2_le h3
    exact (sz_cost hq hr xs.length (Nat.le_refl _)).mono (by omega)
  · exact sz_zero.mono (by omega)

end Go.Proofs.Ytkdbpcenehhopaa

namespace Go.Proofs.Ytkdbpcenehhopaa
open Go.RowKit

/-- The steps on one side of a price. -/
def leastOf (side : Int) (p : Rat) : List (Int × Int) → Int
  | [] => 0
  | x :: r => (if cmpQ (x.2 : Int) p = side then x.1 else 0) + leastOf side p r
/-- .. and those at it. -/
def mostOf (side : Int) (p : Rat) : List (Int × Int) → Int
  | [] => 0
  | x :: r => (if cmpQ (x.2 : Int) p = side ∨ cmpQ (x.2 : Int) p = 0 then x.1 else 0) + mostOf side p r
theorem leastOf_append (side : Int) (p : Rat) (l r : List (Int × Int)) : leastOf side p (l ++ r) = leastOf side p l + leastOf side p r := by
  induction l with
  | nil => simp [leastOf]
  | cons x l ih => simp only [List.cons_append, leastOf, ih]; omega
theorem mostOf_append (side : Int) (p : Rat) (l r : List (Int × Int)) : mostOf side p (l ++ r) = mostOf side p l + mostOf side p r := by
  induction l with
  | nil => simp [mostOf]
  | cons x l ih => simp only [List.cons_append, mostOf, ih]; omega
theorem will_bd (side : Int) (p : Rat) : ∀ {l : List (Int × Int)}, (∀ x ∈ l, 1 ≤ x.1 ∧ x.1 ≤ 1000000 ∧ -1000000 ≤ x.2 ∧ x.2 ≤ 1000000) → 0 ≤ leastOf side p l ∧ leastOf side p l ≤ mostOf side p l ∧ mostOf side p l ≤ sumQ l
  | [], _ => by simp [leastOf, mostOf, sumQ]
  | x :: r, h => by
    have h1 := h x (by simp)
    have h2 := will_bd side p (l := r) fun y hy => h y (by simp [hy])
    simp only [leastOf, mostOf, sumQ]
    by_cases e1 : cmpQ (x.2 : Int) p = side
    · rw [if_pos e1, if_pos (.inl e1)]; omega
    · rw [if_neg e1]
      split <;> omega

theorem ret_iie {a a' b b' c c' : Int} (h1 : a = a') (h2 : b = b') (h3 : c = c') : Ending.returned (.tuple #[.int .i64 a, .int .i64 b, .int .i64 c]) = .returned (.tuple #[.int .i64 a', .int .i64 b', .int .i64 c']) := by rw [h1, h2, h3]
/-- The quantities that a curve wants at a price. -/
def wantL (rise : Bool) (xs : List (Int × Int)) (p : Rat) : Int := if chk rise xs = 0 then leastOf (if rise then -1 else 1) p xs else 0
def wantM (rise : Bool) (xs : List (Int × Int)) (p : Rat) : Int := if chk rise xs = 0 then mostOf (if rise then -1 else 1) p xs else 0

end Go.Proofs.Ytkdbpcenehhopaa
