/- The builtin max of two lengths, as one step. -/
import Derived.Test.YtfokholpgakjpaaUpL
import Derived.Test.YtfokholpgakjpaaUpA
namespace Go.Proofs.Ytfokholpgakjpaa
open Go.RowKit

theorem run_maxU (P : Program) (w : World) (ats : Array TypeId) (ty : TypeId) (l m : Nat) : (Builtin.max_ ats ty #[.int .i64 (l : Int), .int .i64 (m : Int)]).run P w = .ok (.int .i64 ((max l m : Nat) : Int)) w := by
  have : (if (m : Int) > (l : Int) then (m : Int) else (l : Int)) = ((max l m : Nat) : Int) := by split <;> omega
  rw [← this]
  rfl
theorem wpList_maxU {P : Program} (w : World) {ops : Array Oper} {rest : List Oper} {o : Oper} {a : Act} {Q : Exit → Act → World → Prop} (hgd : o.guard = none) (x y : Operand) (t1 t2 : TypeId)
    (ho : o.op = .call { callee := .builtin .max, args := #[x, y], argTypes := #[t1, t2] }) (l m N : Nat) (hx : a.eval x = .int .i64 l) (hy : a.eval y = .int .i64 m) (hN : max l m = N)
    (h : wpList P ops Q rest (a.put o.dst (.int .i64 N)) w) : wpList P ops Q (o :: rest) a w := by
  subst hN
  refine wpList_plain hgd fun K hK => ?_
  unfold Oper.wp execOp
  simp only [ho, resolve, invoke, builtin, Sem.run_bind, Sem.run_pure, Result.andThen_ok, List.map_toArray, List.map_cons, List.map_nil, hx, hy, run_maxU]
  exact hK _ _ h
/-- Two slices of rationals behind one another. -/
theorem lrows2 {K : Nat} {w : World} {P1 : Option Addr} {k1 c1 : Nat} {cs : List Rat} {P2 : Option Addr} {k2 c2 : Nat} {rs : List Rat} (t : TypeId) (hK : K ≤ 1048576) (h1 : QsK K w P1 k1 cs) (h2 : QsK K w P2 k2 rs) (l1 : k1 ≤ maxLen) (l2 : k2 ≤ maxLen) :
    LRows (w.alloc (.cells #[.slice P1 k1 c1, .slice P2 k2 c2] t)) w.heap.size 2 (fun i => if i = 0 then P1 else P2) (fun i => if i = 0 then k1 else k2) (fun i => if i = 0 then c1 else c2) := by
  have hE : Ext w (w.alloc (.cells #[.slice P1 k1 c1, .slice P2 k2 c2] t)) := Ext.al Ext.rfl' _
  have hb := Blk.new w t #[.slice P1 k1 c1, .slice P2 k2 c2]
  intro i hi
  have : i = 0 ∨ i = 1 := by omega
  rcases this with rfl | rfl
  · exact ⟨by rw [hb.cell]; rfl, (h1.ext hE).lenRow hK, l1⟩
  · exact ⟨by rw [hb.cell]; rfl, (h2.ext hE).lenRow hK, l2⟩
theorem lrows1 {K : Nat} {w : World} {P1 : Option Addr} {k1 c1 : Nat} {cs : List Rat} (t : TypeId) (hK : K ≤ 1048576) (h1 : QsK K w P1 k1 cs) (l1 : k1 ≤ maxLen) :
    LRows (w.alloc (.cells #[.slice P1 k1 c1] t)) w.heap.size 1 (fun _ => P1) (fun _ => k1) (fun _ => c1) := by
  have hE : Ext w (w.alloc (.cells #[.slice P1 k1 c1] t)) := Ext.al Ext.rfl' _
  have hb := Blk.new w t #[.slice P1 k1 c1]
  intro i hi
  obtain rfl : i = 0 := by omega
  exact ⟨by rw [hb.cell]; rfl, (h1.ext hE).lenRow hK, l1⟩
/-- What a payment does. -/
theorem made_ge (c r : Rat) : 0 ≤ maxQ (c - r) 0 := by
  unfold maxQ
  split
  · exact Rat.le_refl
  · rename_i h; exact Rat.not_lt.1 h
theorem made_has (c r : Rat) : c ≤ r + maxQ (c - r) 0 := by
  unfold maxQ
  split <;> grind
theorem made_pos {c r : Rat} (h : 0 < maxQ (c - r) 0) : r + maxQ (c - r) 0 = c := by
  unfold maxQ at h ⊢
  split
  · rename_i h2; rw [if_pos h2] at h; exact absurd h (by decide)
  · grind
theorem made_zero {c r : Rat} (h : c ≤ r) : maxQ (c - r) 0 = 0 := by
  unfold maxQ
  split
  · rfl
  · grind
theorem made_less {c r m : Rat} (h : 0 ≤ m) : maxQ (c - (r + m)) 0 ≤ maxQ (c - r) 0 ∧ maxQ (c - r) 0 - maxQ (c - (r + m)) 0 ≤ m ∧ maxQ ((c + m) - (r + m)) 0 = maxQ (c - r) 0 := by
  unfold maxQ
  refine ⟨?_, ?_, ?_⟩
  · split <;> split <;> grind
  · split <;> split <;> grind
  · rw [show c + m - (r + m) = c - r by grind]
theorem sign_lt (q : Rat) : q.num.sign < 0 ↔ q < 0 := sign_neg_iff q
theorem sign_gt (q : Rat) : 0 < q.num.sign ↔ 0 < q := by
  rw [Int.sign_pos_iff]
  have h1 := Rat.num_nonneg (q := q)
  have h2 := Rat.num_eq_zero (q := q)
  constructor
  · intro h
    have a := h1.1 (by omega)
    have b : q ≠ 0 := fun e => by
      have := h2.2 e
      omega
    exact Rat.lt_of_le_of_ne a (Ne.symm b)
  · intro h
    have a := h1.2 (Rat.le_of_lt h)
    have b : q.num ≠ 0 := fun e => by
      have := h2.1 e
      rw [this] at h
      exact absurd h (by decide)
    omega
end Go.Proofs.Ytfokholpgakjpaa
