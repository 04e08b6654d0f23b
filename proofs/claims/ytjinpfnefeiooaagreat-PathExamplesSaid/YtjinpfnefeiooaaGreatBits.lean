/- A part of the proof. -/
import Derived.Test.YtjinpfnefeiooaaGreatWordsC
namespace Go.Proofs.YtjinpfnefeiooaaGreat
open Go.RowKit

theorem ofInt_toInt {a : Int} (h : I64r a) : (BitVec.ofInt 64 a).toInt = a := by
 rw [BitVec.toInt_ofInt, Int.bmod_def]
 obtain ⟨h1, h2⟩ := h
 simp only [Nat.reducePow]
 omega
theorem wrap_toNat (v : BitVec 64) : IntKind.i64.wrap (v.toNat : Int) = v.toInt := by
 rw [IntKind.wrap_i64, BitVec.toInt_eq_toNat_cond]
 have := v.isLt
 simp only [Nat.reducePow] at *
 split <;> omega
theorem xor_sign {a b : Int} (ha : I64r a) (hb : I64r b) : I64r (bits .xor .i64 a b) ∧ (bits .xor .i64 a b < 0 ↔ ¬ ((a < 0) ↔ (b < 0))) := by
 have e : bits .xor .i64 a b = (BitVec.ofInt 64 a ^^^ BitVec.ofInt 64 b).toInt := by
  rw [← wrap_toNat]; rfl
 rw [e]
 constructor
 ·generalize BitVec.ofInt 64 a ^^^ BitVec.ofInt 64 b = v
  have h1 := BitVec.le_toInt v
  have h2 := BitVec.toInt_lt (x := v)
  simp only [Nat.reduceSub, Int.reducePow] at h1 h2
  exact ⟨by omega, by omega⟩
 ·have h0 := BitVec.msb_eq_toInt (x := BitVec.ofInt 64 a ^^^ BitVec.ofInt 64 b)
  have h1 := BitVec.msb_eq_toInt (x := BitVec.ofInt 64 a)
  have h2 := BitVec.msb_eq_toInt (x := BitVec.ofInt 64 b)
  rw [ofInt_toInt ha] at h1
  rw [ofInt_toInt hb] at h2
  rw [BitVec.msb_xor, h1, h2] at h0
  by_cases x : a < 0 <;> by_cases y : b < 0 <;> simp [x, y] at h0 ⊢ <;> omega
theorem and_sign {a b : Int} (ha : I64r a) (hb : I64r b) : bits .and .i64 a b < 0 ↔ (a < 0 ∧ b < 0) := by
 have e : bits .and .i64 a b = (BitVec.ofInt 64 a &&& BitVec.ofInt 64 b).toInt := by
  rw [← wrap_toNat]; rfl
 rw [e]
 have h0 := BitVec.msb_eq_toInt (x := BitVec.ofInt 64 a &&& BitVec.ofInt 64 b)
 have h1 := BitVec.msb_eq_toInt (x := BitVec.ofInt 64 a)
 have h2 := BitVec.msb_eq_toInt (x := BitVec.ofInt 64 b)
 rw [ofInt_toInt ha] at h1
 rw [ofInt_toInt hb] at h2
 rw [BitVec.msb_and, h1, h2] at h0
 by_cases x : a < 0 <;> by_cases y : b < 0 <;> simp [x, y] at h0 ⊢ <;> omega
theorem wrap64_r (n : Int) : I64r (wrap64 n) := by unfold wrap64 I64r; omega
theorem add_over {x y : Int} (hx : I64r x) (hy : I64r y) : 0 ≤ bits .and .i64 (bits .xor .i64 x (wrap64 (x + y))) (bits .xor .i64 y (wrap64 (x + y))) ↔ I64r (x + y) := by
 have hs := wrap64_r (x + y)
 have h1 := xor_sign hx hs
 have h2 := xor_sign hy hs
 have h3 := and_sign h1.1 h2.1
 rw [← Int.not_lt, h3, h1.2, h2.2]
 obtain ⟨a1, a2⟩ := hx
 obtain ⟨b1, b2⟩ := hy
 unfold I64r wrap64
 constructor <;> intro h <;> omega
theorem sub_over {x y : Int} (hx : I64r x) (hy : I64r y) : 0 ≤ bits .and .i64 (bits .xor .i64 x y) (bits .xor .i64 x (wrap64 (x - y))) ↔ I64r (x - y) := by
 have hs := wrap64_r (x - y)
 have h1 := xor_sign hx hy
 have h2 := xor_sign hx hs
 have h3 := and_sign h1.1 h2.1
 rw [← Int.not_lt, h3, h1.2, h2.2]
 obtain ⟨a1, a2⟩ := hx
 obtain ⟨b1, b2⟩ := hy
 unfold I64r wrap64
 constructor <;> intro h <;> omega
theorem wrap64_of {n : Int} (h : I64r n) : wrap64 n = n := by obtain ⟨h1, h2⟩ := h; unfold wrap64; omega
end Go.Proofs.YtjinpfnefeiooaaGreat
