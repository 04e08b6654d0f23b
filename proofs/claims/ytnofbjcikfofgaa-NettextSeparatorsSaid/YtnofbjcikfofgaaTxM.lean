/- The contract of whole.Format: the decimal text of an integer. -/
import Derived.Test.YtnofbjcikfofgaaTxV
import Derived.Test.YtnofbjcikfofgaaTxS
import Derived.Lib.SlBytesRow
namespace Go.Proofs.Ytnofbjcikfofgaa
open Go.RowKit

/-- The k lowest digits, the lowest first. -/
def leD : Nat → Nat → Bs
  | 0, _ => []
  | k + 1, m => digC m :: leD k (m / 10)
theorem leD_len : ∀ (k m : Nat), (leD k m).length = k
  | 0, _ => rfl
  | k + 1, m => by rw [leD, List.length_cons, leD_len k]
theorem leD_snoc : ∀ (k m : Nat), leD (k + 1) m = leD k m ++ [digC (m / 10 ^ k)]
  | 0, m => by simp [leD]
  | k + 1, m => by
    have := leD_snoc k (m / 10)
    rw [leD, this, leD, List.cons_append, Nat.div_div_eq_div_mul, Nat.pow_succ, Nat.mul_comm (10 ^ k)]
theorem fmtN_le : ∀ (k m : Nat), (10 ^ k ≤ m ∨ k = 0) → m < 10 ^ (k + 1) → fmtN m = (leD (k + 1) m).reverse
  | 0, m, _, h => by
    rw [fmtN_small (by simpa using h)]
    simp [leD]
  | k + 1, m, h1, h2 => by
    have h3 : 10 ^ (k + 1) ≤ m := h1.resolve_right (by omega)
    have h4 : 10 ≤ m := Nat.le_trans (by rw [Nat.pow_succ]; have := Nat.pow_pos (n := k) (show 0 < 10 by omega); omega) h3
    have := fmtN_le k (m / 10) (.inl ((Nat.le_div_iff_mul_le (by omega)).2 (by rw [← Nat.pow_succ]; exact h3))) (Nat.div_lt_of_lt_mul (by rw [Nat.mul_comm, ← Nat.pow_succ]; exact h2))
    rw [fmtN_big h4, this]
    rw [show leD (k + 1 + 1) m = digC m :: leD (k + 1) (m / 10) from rfl, List.reverse_cons]
theorem digC_mod (m k : Nat) (h : 0 < k) : digC (m % 10 ^ k) = digC m := by
  unfold digC
  obtain ⟨j, rfl⟩ : ∃ j, k = j + 1 := ⟨k - 1, by omega⟩
  rw [Nat.pow_succ, Nat.mul_comm, Nat.mod_mul_right_mod]
/-- The digit of the remainder is the digit of the number. -/
theorem digit_eq (m K i : Nat) (h : i < 9) : digC ((m / 10 ^ K) % 1000000000 / 10 ^ i) = digC (m / 10 ^ (K + i)) := by
  have h9 : (1000000000 : Nat) = 10 ^ i * 10 ^ (9 - i) := by rw [← Nat.pow_add, show i + (9 - i) = 9 by omega]
  rw [h9, Nat.mod_mul_right_div_self, digC_mod _ _ (by omega), Nat.div_div_eq_div_mul, ← Nat.pow_add]
theorem digC_zero {m K : Nat} : digC (m / 10 ^ K) = 48 ↔ (m / 10 ^ K) % 10 = 0 := by
  constructor
  · intro h
    have := digC_toNat (m / 10 ^ K)
    rw [h] at this
    have e3 : (48 : UInt8).toNat = 48 := rfl
    omega
  · intro h
    unfold digC
    rw [h]
    rfl
theorem WW.trim {w : World} {b off n : Nat} {qs : List Nat} (h : WW w b off n qs) : WW w b off (wordsOf (natOf qs)).length (wordsOf (natOf qs)) := by
  have ht := h.words.trim
  refine ⟨ht.1, ht.2.1, h.2.2.1, fun i hi => ?_, h.2.2.2.2⟩
  obtain ⟨b', off', e, _, hc⟩ := ht.2.2 (by omega)
  injection e with e
  injection e with e1 e2
  subst e1 e2
  exact hc i hi
/-- Bytes that the call owns: nil, or a row of its own. -/
def RowB (w : World) (B : Nat) (v : Value) (n : Nat) (l : Bs) : Prop := w.ownsRow B 5 1 v n (l.map encU)
theorem RowB.own {w : World} {B n : Nat} {v : Value} {l : Bs} (h : RowB w B v n l) (hn : 0 < n) : ∃ g c, v = .slice (some ⟨g, 0, none⟩) n c ∧ OwnB w B g n c l := by
  rcases h.2 with ⟨rfl, rfl⟩ | ⟨g, cap, cur, rfl, hg, _⟩
  · omega
  · exact ⟨g, cap, rfl, h⟩
theorem RowB.ge {w : World} {B n : Nat} {v : Value} {l : Bs} (h : RowB w B v n l) {k : Nat} (hk : v.ownBlock = some k) : B ≤ k ∧ k < w.heap.size := by have := own_lt h hk; exact ⟨this.2, this.1⟩
theorem OwnB.cell {w : World} {B g n c : Nat} {l : Bs} (h : OwnB w B g n c l) {i : Nat} (hi : i < n) : w.cell? ⟨g, i, none⟩ = some (.int .u8 ((l.getD i 0).toNat : Int)) := by
  have hl := h.len
  have := (h.holds i (by simp; omega)).1
  rw [Nat.zero_add] at this
  rw [this]
  simp [encU, List.getD, show i < l.length by omega]
theorem OwnB.take {w : World} {B g n c : Nat} {l : Bs} (h : OwnB w B g n c l) {k : Nat} (hk : k ≤ n) : OwnB w B g k c (l.take k) := by
  obtain ⟨cur, hB, hb, hnc, hcm, hcs, ht⟩ := h.blk
  have hl := h.len
  refine ⟨by simp; omega, .inr ⟨g, c, cur, rfl, hB, hb, by omega, hcm, by omega, ?_⟩⟩
  rw [Nat.mul_one, List.map_take, ← ht, List.take_take, show min k n = k by omega]
theorem OwnB.bytes {w : World} {B g n c : Nat} {l : Bs} (h : OwnB w B g n c l) : Lib.Bytes w g 0 (bs l) := fun i hi => by
  have hl := h.len
  rw [bs_size] at hi
  rw [Nat.zero_add, h.cell (by omega)]
  simp [List.getD, bs, hi]
  rfl
theorem info_u8 : (Try.prog.info? 5).map (fun i => (i.zero, i.size, i.bytes)) = some (some (.int .u8 0), 1, 1) := by kernel_rfl
theorem iter_bound {m n j : Nat} (h : m < 4294967296 ^ n) (h2 : 10 ^ (9 * j) ≤ m) : j + 1 ≤ 32 * n := by
  have e1 : (4294967296 : Nat) ^ n = 2 ^ (32 * n) := by rw [Nat.pow_mul]
  have e2 : (2 : Nat) ^ j ≤ 10 ^ (9 * j) := by
    rw [Nat.pow_mul]
    exact Nat.pow_le_pow_left (by decide) j
  have h3 : (2 : Nat) ^ j < 2 ^ (32 * n) := by rw [← e1]; omega
  have := (Nat.pow_lt_pow_iff_right (a := 2) (by omega)).1 h3
  omega
theorem RowB.lenV {w : World} {B n : Nat} {v : Value} {l : Bs} (h : RowB w B v n l) : lenV v = n := by
  rcases h.2 with ⟨rfl, rfl⟩ | ⟨g, cap, cur, rfl, hg, _⟩ <;> rfl
theorem div_pow9 (m j : Nat) : m / 10 ^ (9 * j) / 1000000000 = m / 10 ^ (9 * (j + 1)) := by
  rw [Nat.div_div_eq_div_mul, show (1000000000 : Nat) = 10 ^ 9 from rfl, ← Nat.pow_add, show 9 * j + 9 = 9 * (j + 1) by omega]
theorem strip_step {m K : Nat} (hm : 0 < m) (h : m < 10 ^ (K + 1)) (hd : digC (m / 10 ^ K) = 48) : 0 < K ∧ m < 10 ^ K := by
  have h1 := digC_zero.1 hd
  have h2 : m / 10 ^ K < 10 := Nat.div_lt_of_lt_mul (by rw [Nat.pow_succ] at h; exact h)
  have h3 : m / 10 ^ K = 0 := by
    clear hd h
    generalize m / 10 ^ K = q at *
    omega
  have h4 : m < 10 ^ K := (Nat.div_eq_zero_iff_lt (Nat.pow_pos (by omega))).1 h3
  refine ⟨?_, h4⟩
  rcases Nat.eq_zero_or_pos K with rfl | h5
  · simp at h4; omega
  · exact h5
theorem strip_stop {m K : Nat} (h : m < 10 ^ (K + 1)) (hd : digC (m / 10 ^ K) ≠ 48) : fmtN m = (leD (K + 1) m).reverse := by
  refine fmtN_le K m (.inl ?_) h
  rcases Nat.lt_or_ge m (10 ^ K) with h1 | h1
  · exfalso
    apply hd
    rw [Nat.div_eq_of_lt h1]
    rfl
  · exact h1
end Go.Proofs.Ytnofbjcikfofgaa
