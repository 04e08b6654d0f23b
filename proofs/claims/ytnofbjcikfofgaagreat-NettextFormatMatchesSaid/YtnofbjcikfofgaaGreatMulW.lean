/- The contract of whole.mulWords. -/
import Derived.Test.YtnofbjcikfofgaaGreatClonX
namespace Go.Proofs.YtnofbjcikfofgaaGreat
open Go.RowKit

theorem natOf_set {xs : List Nat} {j : Nat} (hj : j < xs.length) (v : Nat) : natOf (xs.set j v) + 4294967296 ^ j * xs.getD j 0 = natOf xs + 4294967296 ^ j * v := by
  have e1 : xs = xs.take j ++ xs.getD j 0 :: xs.drop (j + 1) := by rw [← drop_cons hj, List.take_append_drop]
  have e2 : xs.set j v = xs.take j ++ v :: xs.drop (j + 1) := List.set_eq_take_append_cons_drop.trans (by rw [if_pos hj])
  have hl : (xs.take j).length = j := by rw [List.length_take]; omega
  have n1 : natOf xs = natOf (xs.take j) + 4294967296 ^ j * (xs.getD j 0 + 4294967296 * natOf (xs.drop (j + 1))) := by
    conv => lhs; rw [e1]
    rw [natOf_append, hl]; rfl
  have n2 : natOf (xs.set j v) = natOf (xs.take j) + 4294967296 ^ j * (v + 4294967296 * natOf (xs.drop (j + 1))) := by rw [e2, natOf_append, hl]; rfl
  rw [n1, n2, Nat.mul_add, Nat.mul_add]
  omega
theorem getD_zeros (k j : Nat) : (List.replicate k 0).getD j 0 = 0 := by
  rcases Nat.lt_or_ge j k with h | h
  · simp [List.getD, h]
  · simp [List.getD, h]
theorem getD_set_other {xs : List Nat} {j i v : Nat} (h : i ≠ j) : (xs.set j v).getD i 0 = xs.getD i 0 := by
  simp [List.getD, Ne.symm h]
/-- The product's next word and carry. -/
theorem mul_step {P0 Pk : List Nat} {i k x c : Nat} {ys : List Nat} (hk : natOf Pk + 4294967296 ^ (i + k) * c = natOf P0 + 4294967296 ^ i * (x * natOf (ys.take k))) (hj : i + k < Pk.length) :
    natOf (Pk.set (i + k) ((Pk.getD (i + k) 0 + x * ys.getD k 0 + c) % 4294967296)) + 4294967296 ^ (i + k + 1) * ((Pk.getD (i + k) 0 + x * ys.getD k 0 + c) / 4294967296) = natOf P0 + 4294967296 ^ i * (x * natOf (ys.take (k + 1))) := by
  have h1 := natOf_set hj ((Pk.getD (i + k) 0 + x * ys.getD k 0 + c) % 4294967296)
  rw [natOf_take_succ, Nat.mul_add x, Nat.mul_add]
  have e : 4294967296 ^ i * (x * (4294967296 ^ k * ys.getD k 0)) = 4294967296 ^ (i + k) * (x * ys.getD k 0) := by
    rw [Nat.pow_add, ← Nat.mul_assoc x, Nat.mul_comm x, Nat.mul_assoc, Nat.mul_assoc]
  rw [e, Nat.pow_succ, Nat.mul_assoc]
  generalize natOf (Pk.set (i + k) ((Pk.getD (i + k) 0 + x * ys.getD k 0 + c) % 4294967296)) = N1 at *
  generalize Pk.getD (i + k) 0 = p at *
  generalize x * ys.getD k 0 = q at *
  generalize 4294967296 ^ i * (x * natOf (ys.take k)) = T at *
  generalize (4294967296 : Nat) ^ (i + k) = R at *
  have h2 : (p + q + c) % 4294967296 + 4294967296 * ((p + q + c) / 4294967296) = p + q + c := Nat.mod_add_div _ _
  have h3 : R * ((p + q + c) % 4294967296) + R * (4294967296 * ((p + q + c) / 4294967296)) = R * p + R * q + R * c := by rw [← Nat.mul_add, h2, Nat.mul_add, Nat.mul_add]
  omega
theorem words_mul_le {x y : Nat} (hx : x < 4294967296) (hy : y < 4294967296) : x * y ≤ 18446744065119617025 := Nat.le_trans (Nat.mul_le_mul (show x ≤ 4294967295 by omega) (show y ≤ 4294967295 by omega)) (by decide)

/-- The row that make([]uint32, n) lays. -/
theorem make_full (k : Nat) (hk : k ≤ 4294967296) (z : Int) (hz : z = k) (w : World) : (Instr.makeSlice 47 (.int .i64 z) (.int .i64 z)).run Tryz.prog w = .ok (.slice (some ⟨w.heap.size, 0, none⟩) k k) (w.alloc (.cells (madeCells #[.int .u32 0] k) 117)) := by
  subst hz
  obtain ⟨i0, hi, hz0, hz1, hz2⟩ := info_parts info_u32
  have hr := run_make (P := Tryz.prog) w 47 117 i0 _ Tryz.underlying47 hi hz0 .i64 .i64 k k (by omega) (by omega) (by rw [hz2]; omega) (by omega)
  simp only [Int.toNat_natCast, hz1, Nat.mul_one] at hr
  exact hr
theorem own_made (w : World) (B k : Nat) (hB : B ≤ w.heap.size) (hk : k ≤ 4294967296) : (w.alloc (.cells (madeCells #[.int .u32 0] k) 117)).ownsRow B 117 1 (.slice (some ⟨w.heap.size, 0, none⟩) k k) k (u32s (List.replicate k 0)) := by
  have h := World.ownsRow_lit (base := B) (e := 117) (size := 1) w (madeCells #[.int .u32 0] k) k hB (by simp [maxLen]; omega) (by simp [size_madeCells])
  rw [toList_madeCells_one] at h
  simpa [u32s] using h
/-- A row of words of the call's own. -/
abbrev OwnW (w : World) (B g n c : Nat) (xs : List Nat) : Prop := w.ownsRow B 117 1 (.slice (some ⟨g, 0, none⟩) n c) n (u32s xs)
theorem OwnW.len {w : World} {B g n c : Nat} {xs : List Nat} (h : OwnW w B g n c xs) : xs.length = n := by have := h.1; simpa [u32s] using this
theorem OwnW.cell {w : World} {B g n c : Nat} {xs : List Nat} (h : OwnW w B g n c xs) {j : Nat} (hj : j < n) : w.cell? ⟨g, j, none⟩ = some (.int .u32 (xs.getD j 0 : Nat)) := by
  rw [h.cellAt j (by omega)]
  have := h.len
  simp [u32s, List.getD, show j < xs.length by omega]
theorem OwnW.frozen {w : World} {B g n c : Nat} {xs : List Nat} (h : OwnW w B g n c xs) (j : Nat) : w.frozen? ⟨g, j, none⟩ = false := h.frozenAt j
theorem OwnW.put {w : World} {B g n c : Nat} {xs : List Nat} (h : OwnW w B g n c xs) (j v : Nat) : OwnW (w.setCell ⟨g, j, none⟩ (.int .u32 (v : Int))) B g n c (xs.set j v) := by
  have := (h.stored j (.int .u32 (v : Int))).1
  show World.ownsRow _ _ _ _ _ _ (List.map _ (xs.set j v))
  rw [List.map_set]
  exact this
theorem OwnW.far {w : World} {B g n c : Nat} {xs : List Nat} (h : OwnW w B g n c xs) {p : Addr} (hp : p.block ≠ g) (v : Value) : OwnW (w.setCell p v) B g n c xs :=
  own_keep h fun k hk => Below.heap_setCell w p v k (by have : g = k := by simpa [Value.ownBlock] using hk
                                                        omega)
theorem OwnW.ext {w w' : World} {B g n c : Nat} {xs : List Nat} (h : OwnW w B g n c xs) (hb : Ext w w') : OwnW w' B g n c xs := own_keep h fun k hk => hb.block k (own_lt h hk).1
theorem OwnW.lt {w : World} {B g n c : Nat} {xs : List Nat} (h : OwnW w B g n c xs) : g < w.heap.size ∧ B ≤ g := own_lt h rfl

theorem boxed_far {W : World} {B : Nat} {t : TypeId} {v : Value} (h : Boxed W B t v) {p : Addr} (hne : B ≠ p.block) (u : Value) : Boxed (W.setCell p u) B t v := (Below.heap_setCell W p u B hne).trans h

end Go.Proofs.YtnofbjcikfofgaaGreat
