/- Plain facts on digits in base 2^16: comparison, sum, difference, product by a digit. -/
import Derived.Test.YtppcpklnnbgcjaaGreatHalfs
namespace Go.Proofs.YtppcpklnnbgcjaaGreat
open Go.RowKit

theorem hOf_dropP : ∀ (xs : List Nat) (k : Nat), hOf (xs.drop k) = xs.getD k 0 + 65536 * hOf (xs.drop (k + 1))
  | [], k => by simp [hOf]
  | x :: xs, 0 => by simp [hOf]
  | x :: xs, k + 1 => by simpa using hOf_dropP xs k
theorem hOf_splitP : ∀ (xs : List Nat) (k : Nat), hOf xs = hOf (xs.take k) + 65536 ^ k * hOf (xs.drop k)
  | xs, 0 => by simp [hOf]
  | xs, k + 1 => by
    rw [hOf_splitP xs k, hOf_take_succ, hOf_dropP xs k, Nat.mul_add, Nat.pow_succ, Nat.mul_assoc]
    omega
theorem hOf_take_lt {xs : List Nat} (h : Halves xs) : ∀ k, hOf (xs.take k) < 65536 ^ k
  | 0 => by simp [hOf]
  | k + 1 => by
    have ih := hOf_take_lt h k
    have hx : xs.getD k 0 < 65536 := by
      by_cases hk : k < xs.length
      · exact h _ (by simp [List.getD, hk])
      · simp [List.getD, hk]
    rw [hOf_take_succ, Nat.pow_succ]
    have h1 : 65536 ^ k * xs.getD k 0 ≤ 65536 ^ k * 65535 := Nat.mul_le_mul_left _ (by omega)
    have h2 : 65536 ^ k * 65536 = 65536 ^ k * 65535 + 65536 ^ k := by rw [show (65536 : Nat) = 65535 + 1 from rfl, Nat.mul_add, Nat.mul_one]
    omega
/-- Where the higher digits are equal and this one is less, the number is less. -/
theorem hOf_less {a b : List Nat} (ha : Halves a) {k : Nat} (he : hOf (a.drop (k + 1)) = hOf (b.drop (k + 1))) (hd : a.getD k 0 < b.getD k 0) : hOf a < hOf b := by
  rw [hOf_splitP a (k + 1), hOf_splitP b (k + 1), he, hOf_take_succ, hOf_take_succ]
  have h1 := hOf_take_lt ha k
  have h2 : 65536 ^ k * (a.getD k 0 + 1) ≤ 65536 ^ k * b.getD k 0 := Nat.mul_le_mul_left _ hd
  rw [Nat.mul_add, Nat.mul_one] at h2
  omega
theorem dcarry {P v d c : Nat} (hv : v = d + 65536 * c) : P * d + P * 65536 * c = P * v := by rw [hv, Nat.mul_add, Nat.mul_assoc]
/-- One digit of a sum. -/
theorem add_step {a b ds : List Nat} {i c : Nat} (hl : ds.length = i) (h : hOf ds + 65536 ^ i * c = hOf (a.take i) + hOf (b.take i)) :
    hOf (ds ++ [(a.getD i 0 + b.getD i 0 + c) % 65536]) + 65536 ^ (i + 1) * ((a.getD i 0 + b.getD i 0 + c) / 65536) = hOf (a.take (i + 1)) + hOf (b.take (i + 1)) := by
  rw [hOf_snoc, hl, hOf_take_succ, hOf_take_succ, Nat.pow_succ]
  have h1 := dcarry (P := 65536 ^ i) (v := a.getD i 0 + b.getD i 0 + c) (d := (a.getD i 0 + b.getD i 0 + c) % 65536) (c := (a.getD i 0 + b.getD i 0 + c) / 65536) (Nat.mod_add_div _ _).symm
  rw [Nat.mul_add, Nat.mul_add] at h1
  omega
/-- One digit of a product by n. -/
theorem times_step {b ds : List Nat} {n i c : Nat} (hl : ds.length = i) (h : hOf ds + 65536 ^ i * c = n * hOf (b.take i)) :
    hOf (ds ++ [(b.getD i 0 * n + c) % 65536]) + 65536 ^ (i + 1) * ((b.getD i 0 * n + c) / 65536) = n * hOf (b.take (i + 1)) := by
  rw [hOf_snoc, hl, hOf_take_succ, Nat.pow_succ, Nat.mul_add]
  have h1 := dcarry (P := 65536 ^ i) (v := b.getD i 0 * n + c) (d := (b.getD i 0 * n + c) % 65536) (c := (b.getD i 0 * n + c) / 65536) (Nat.mod_add_div _ _).symm
  rw [Nat.mul_add] at h1
  have h2 : n * (65536 ^ i * b.getD i 0) = 65536 ^ i * (b.getD i 0 * n) := by rw [Nat.mul_left_comm, Nat.mul_comm n]
  omega
/-- One digit of a difference: the digit v and the loan. -/
theorem sub_step {a b ds : List Nat} {i l v l' : Nat} (hl : ds.length = i) (h : hOf ds + hOf (b.take i) = hOf (a.take i) + 65536 ^ i * l) (hv : a.getD i 0 + 65536 * l' = b.getD i 0 + l + v) :
    hOf (ds ++ [v]) + hOf (b.take (i + 1)) = hOf (a.take (i + 1)) + 65536 ^ (i + 1) * l' := by
  rw [hOf_snoc, hl, hOf_take_succ, hOf_take_succ, Nat.pow_succ, Nat.mul_assoc]
  have h1 : 65536 ^ i * (a.getD i 0 + 65536 * l') = 65536 ^ i * (b.getD i 0 + l + v) := by rw [hv]
  rw [Nat.mul_add, Nat.mul_add, Nat.mul_add] at h1
  omega
end Go.Proofs.YtppcpklnnbgcjaaGreat
