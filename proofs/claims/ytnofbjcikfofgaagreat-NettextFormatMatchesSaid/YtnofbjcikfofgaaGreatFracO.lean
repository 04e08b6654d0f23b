/- The closures of frac.operations. Printed by gen_clos.py. Contract of frac.operations. Contract of frac.calculate. Printed by gen_calc.py. -/
import Derived.Test.YtnofbjcikfofgaaGreatFracP
import Derived.Test.YtnofbjcikfofgaaGreatZOps
import Derived.Maps.Own
namespace Go.Proofs.YtnofbjcikfofgaaGreat
open Go.RowKit

/-- What an operation answers: a numerator and a denominator. -/
def RetPair (w : World) (zn zd : Int) (e : Ending) (w' : World) : Prop := ∃ (s : Bool) (A : Option Addr) (n c : Nat) (t : Bool) (B : Option Addr) (m d : Nat), e = .returned (.tuple #[.agg #[.bool s, .slice A n c], .agg #[.bool t, .slice B m d]]) ∧ ZCan w' w.heap.size s A n c zn ∧ ZCan w' w.heap.size t B m d zd ∧ n ≤ 268435456 ∧ m ≤ 268435456 ∧ Ext w w'
theorem natAbs_add_lt {a b : Int} {k l : Nat} (ha : a.natAbs < 4294967296 ^ k) (hb : b.natAbs < 4294967296 ^ l) : (a + b).natAbs < 4294967296 ^ (k + l + 1) := by
  have h1 := pow_le (show k ≤ k + l by omega)
  have h2 := pow_le (show l ≤ k + l by omega)
  have hs : 4294967296 ^ (k + l + 1) = 4294967296 ^ (k + l) * 4294967296 := Nat.pow_succ ..
  rw [hs]
  generalize 4294967296 ^ (k + l) = P at *
  omega
theorem natAbs_sub_lt {a b : Int} {k l : Nat} (ha : a.natAbs < 4294967296 ^ k) (hb : b.natAbs < 4294967296 ^ l) : (a - b).natAbs < 4294967296 ^ (k + l + 1) := by
  rw [Int.sub_eq_add_neg]
  exact natAbs_add_lt ha (by rw [Int.natAbs_neg]; exact hb)
theorem box6 (w : World) (v0 v1 u0 u1 r0 r1 s0 s1 p0 p1 q0 q1 : Value) (t : TypeId) :
    Cell2 ((((((w.alloc (.cells #[v0, v1] t)).alloc (.cells #[u0, u1] t)).alloc (.cells #[r0, r1] t)).alloc (.cells #[s0, s1] t)).alloc (.cells #[p0, p1] t)).alloc (.cells #[q0, q1] t)) (w.heap.size) v0 v1 ∧
    Cell2 ((((((w.alloc (.cells #[v0, v1] t)).alloc (.cells #[u0, u1] t)).alloc (.cells #[r0, r1] t)).alloc (.cells #[s0, s1] t)).alloc (.cells #[p0, p1] t)).alloc (.cells #[q0, q1] t)) (w.heap.size + 1) u0 u1 ∧
    Cell2 ((((((w.alloc (.cells #[v0, v1] t)).alloc (.cells #[u0, u1] t)).alloc (.cells #[r0, r1] t)).alloc (.cells #[s0, s1] t)).alloc (.cells #[p0, p1] t)).alloc (.cells #[q0, q1] t)) (w.heap.size + 1 + 1) r0 r1 ∧
    Cell2 ((((((w.alloc (.cells #[v0, v1] t)).alloc (.cells #[u0, u1] t)).alloc (.cells #[r0, r1] t)).alloc (.cells #[s0, s1] t)).alloc (.cells #[p0, p1] t)).alloc (.cells #[q0, q1] t)) (w.heap.size + 1 + 1 + 1) s0 s1 ∧
    Cell2 ((((((w.alloc (.cells #[v0, v1] t)).alloc (.cells #[u0, u1] t)).alloc (.cells #[r0, r1] t)).alloc (.cells #[s0, s1] t)).alloc (.cells #[p0, p1] t)).alloc (.cells #[q0, q1] t)) (w.heap.size + 1 + 1 + 1 + 1) p0 p1 ∧
    Cell2 ((((((w.alloc (.cells #[v0, v1] t)).alloc (.cells #[u0, u1] t)).alloc (.cells #[r0, r1] t)).alloc (.cells #[s0, s1] t)).alloc (.cells #[p0, p1] t)).alloc (.cells #[q0, q1] t)) (w.heap.size + 1 + 1 + 1 + 1 + 1) q0 q1 ∧
    Ext w ((((((w.alloc (.cells #[v0, v1] t)).alloc (.cells #[u0, u1] t)).alloc (.cells #[r0, r1] t)).alloc (.cells #[s0, s1] t)).alloc (.cells #[p0, p1] t)).alloc (.cells #[q0, q1] t)) := by
  refine ⟨?_, ?_, ?_, ?_, ?_, ?_, ?_⟩
  · exact ((((((Cell2.new w (w.heap.size) (by simp) v0 v1 t).ext (Ext.al Ext.rfl' _)).ext (Ext.al Ext.rfl' _)).ext (Ext.al Ext.rfl' _)).ext (Ext.al Ext.rfl' _)).ext (Ext.al Ext.rfl' _))
  · exact (((((Cell2.new (w.alloc (.cells #[v0, v1] t)) (w.heap.size + 1) (by simp) u0 u1 t).ext (Ext.al Ext.rfl' _)).ext (Ext.al Ext.rfl' _)).ext (Ext.al Ext.rfl' _)).ext (Ext.al Ext.rfl' _))
  · exact ((((Cell2.new ((w.alloc (.cells #[v0, v1] t)).alloc (.cells #[u0, u1] t)) (w.heap.size + 1 + 1) (by simp) r0 r1 t).ext (Ext.al Ext.rfl' _)).ext (Ext.al Ext.rfl' _)).ext (Ext.al Ext.rfl' _))
  · exact (((Cell2.new (((w.alloc (.cells #[v0, v1] t)).alloc (.cells #[u0, u1] t)).alloc (.cells #[r0, r1] t)) (w.heap.size + 1 + 1 + 1) (by simp) s0 s1 t).ext (Ext.al Ext.rfl' _)).ext (Ext.al Ext.rfl' _))
  · exact ((Cell2.new ((((w.alloc (.cells #[v0, v1] t)).alloc (.cells #[u0, u1] t)).alloc (.cells #[r0, r1] t)).alloc (.cells #[s0, s1] t)) (w.heap.size + 1 + 1 + 1 + 1) (by simp) p0 p1 t).ext (Ext.al Ext.rfl' _))
  · exact (Cell2.new (((((w.alloc (.cells #[v0, v1] t)).alloc (.cells #[u0, u1] t)).alloc (.cells #[r0, r1] t)).alloc (.cells #[s0, s1] t)).alloc (.cells #[p0, p1] t)) (w.heap.size + 1 + 1 + 1 + 1 + 1) (by simp) q0 q1 t)
  · exact (Ext.al (Ext.al (Ext.al (Ext.al (Ext.al (Ext.al Ext.rfl' _) _) _) _) _) _)

end Go.Proofs.YtnofbjcikfofgaaGreat

namespace Go.Proofs.YtnofbjcikfofgaaGreat
open Go.RowKit

/-- An element of the table reads as itself. -/
def RV (v : Value) : Option (DataW Value × List MemPlace) := some (.held v, [])
theorem wpList_insert_own {P : Program} (w : World) {ops : Array Oper} {rest : List Oper} {o : Oper} {a : Act} {Q : Exit → Act → World → Prop}
    (hg : o.guard = none) (m x v : Operand) (t : TypeId) (hop : o.op = Op.insert t m x v)
    (k e : TypeId) (K : Go.Maps.Keyed P k) (ht : P.underlying t = some (.map k e)) (b n : Nat) (D : DataW Value)
    (hm : a.eval m = .map (some b)) (hown : w.ownsMap P k RV b n D) (hn : n < maxLen) (key val : Value) (kl : Lit) (hx : a.eval x = key) (hv : a.eval v = val) (hkey : keyOf P k key = some kl)
    (hK : ∀ w', w'.ownsMap P k RV b (n + 1) (D.put kl (.held val)) → w.grownBy w' (some b) → wpList P ops Q rest (a.put o.dst undef) w') :
    wpList P ops Q (o :: rest) a w := by
  refine wpList_plain hg fun K' hK' => ?_
  obtain ⟨w', hrun, r1, r2⟩ := hown.update K ht hn hkey (show RV val = some (.held val, []) from rfl)
  unfold Oper.wp
  simp [execOp, hop, hm, hx, hv, hrun, Result.andThen]
  exact hK' _ _ (hK w' r1 r2)
theorem byteKeyed : Go.Maps.Keyed Tryz.prog 5 := Go.Maps.int_keyed (q := .u8) (by kernel_rfl)
/-- The table's element for a sign. -/
def opAt (f : Nat) : Value := .agg #[.func (.func f) #[] #[]]

end Go.Proofs.YtnofbjcikfofgaaGreat

namespace Go.Proofs.YtnofbjcikfofgaaGreat
open Go.RowKit

theorem boxQ3 (w : World) (v0 v1 v2 v3 u0 u1 u2 u3 : Value) (t : TypeId) :
    Cell4 (((w.alloc (.cells #[v0, v1, v2, v3] t)).alloc (.cells #[u0, u1, u2, u3] t)).alloc (.cells #[.bool false, .slice none 0 0, .bool false, .slice none 0 0] t)) w.heap.size v0 v1 v2 v3 ∧
    Cell4 (((w.alloc (.cells #[v0, v1, v2, v3] t)).alloc (.cells #[u0, u1, u2, u3] t)).alloc (.cells #[.bool false, .slice none 0 0, .bool false, .slice none 0 0] t)) (w.heap.size + 1) u0 u1 u2 u3 ∧
    Cell4 (((w.alloc (.cells #[v0, v1, v2, v3] t)).alloc (.cells #[u0, u1, u2, u3] t)).alloc (.cells #[.bool false, .slice none 0 0, .bool false, .slice none 0 0] t)) (w.heap.size + 1 + 1) (.bool false) (.slice none 0 0) (.bool false) (.slice none 0 0) ∧
    Ext w (((w.alloc (.cells #[v0, v1, v2, v3] t)).alloc (.cells #[u0, u1, u2, u3] t)).alloc (.cells #[.bool false, .slice none 0 0, .bool false, .slice none 0 0] t)) :=
  ⟨((Cell4.new w _ rfl v0 v1 v2 v3 t).ext (Ext.al Ext.rfl' _)).ext (Ext.al Ext.rfl' _), (Cell4.new _ _ (by simp) u0 u1 u2 u3 t).ext (Ext.al Ext.rfl' _), Cell4.new _ _ (by simp) _ _ _ _ t, Ext.al (Ext.al (Ext.al Ext.rfl' _) _) _⟩
theorem two2 (w : World) (v0 v1 u0 u1 : Value) (t : TypeId) :
    Cell2 ((w.alloc (.cells #[v0, v1] t)).alloc (.cells #[u0, u1] t)) w.heap.size v0 v1 ∧ Cell2 ((w.alloc (.cells #[v0, v1] t)).alloc (.cells #[u0, u1] t)) (w.heap.size + 1) u0 u1 ∧ Ext w ((w.alloc (.cells #[v0, v1] t)).alloc (.cells #[u0, u1] t)) :=
  ⟨(Cell2.new w _ rfl v0 v1 t).ext (Ext.al Ext.rfl' _), Cell2.new _ _ (by simp) u0 u1 t, Ext.al (Ext.al Ext.rfl' _) _⟩
theorem divInt_sub' (n₁ n₂ : Int) {d₁ d₂ : Int} (z₁ : 0 < d₁) (z₂ : 0 < d₂) : Rat.divInt n₁ d₁ - Rat.divInt n₂ d₂ = Rat.divInt (n₁ * d₂ - n₂ * d₁) (d₁ * d₂) := Rat.divInt_sub_divInt _ _ (by omega) (by omega)
theorem divInt_add' (n₁ n₂ : Int) {d₁ d₂ : Int} (z₁ : 0 < d₁) (z₂ : 0 < d₂) : Rat.divInt n₁ d₁ + Rat.divInt n₂ d₂ = Rat.divInt (n₁ * d₂ + n₂ * d₁) (d₁ * d₂) := Rat.divInt_add_divInt _ _ (by omega) (by omega)

end Go.Proofs.YtnofbjcikfofgaaGreat
