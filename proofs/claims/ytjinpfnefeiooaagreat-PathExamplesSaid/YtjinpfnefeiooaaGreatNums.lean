/- A part of the proof. -/
import Derived.Below
namespace Go.Proofs.YtjinpfnefeiooaaGreat

def natOf : List Nat → Nat
 | [] => 0
 | x :: r => x + 4294967296 * natOf r
def Words (xs : List Nat) : Prop := ∀ x ∈ xs, x < 4294967296
def wordsOf (n : Nat) : List Nat := if h : n = 0 then [] else (n % 4294967296) :: wordsOf (n / 4294967296)
termination_by n
decreasing_by omega
theorem wordsOf_zero : wordsOf 0 = [] := by rw [wordsOf]; simp
theorem wordsOf_pos {n : Nat} (h : n ≠ 0) : wordsOf n = (n % 4294967296) :: wordsOf (n / 4294967296) := by rw [wordsOf]; simp [h]
theorem natOf_append : ∀ a b : List Nat, natOf (a ++ b) = natOf a + 4294967296 ^ a.length * natOf b
 | [], b => by simp [natOf]
 | x :: a, b => by
  simp only [List.cons_append, natOf, natOf_append a b, List.length_cons, Nat.pow_succ]
  rw [Nat.mul_add, ← Nat.mul_assoc, Nat.mul_comm (4294967296 ^ a.length) 4294967296]
  omega
theorem natOf_snoc (a : List Nat) (x : Nat) : natOf (a ++ [x]) = natOf a + 4294967296 ^ a.length * x := by rw [natOf_append]; simp [natOf]
theorem Words.nil : Words [] := fun _ h => by cases h
theorem Words.cons {x : Nat} {a : List Nat} (hx : x < 4294967296) (h : Words a) : Words (x :: a) := fun y hy => by
 rcases List.mem_cons.1 hy with rfl | hy
 ·exact hx
 ·exact h y hy
theorem Words.head {x : Nat} {a : List Nat} (h : Words (x :: a)) : x < 4294967296 := h x (by simp)
theorem Words.tail {x : Nat} {a : List Nat} (h : Words (x :: a)) : Words a := fun y hy => h y (by simp [hy])
theorem Words.append {a b : List Nat} (h : Words a) (k : Words b) : Words (a ++ b) := fun y hy => by
 rcases List.mem_append.1 hy with hy | hy
 ·exact h y hy
 ·exact k y hy
theorem Words.left {a b : List Nat} (h : Words (a ++ b)) : Words a := fun y hy => h y (List.mem_append.2 (.inl hy))
theorem Words.take {a : List Nat} (h : Words a) (k : Nat) : Words (a.take k) := fun y hy => h y (List.mem_of_mem_take hy)
theorem Words.drop {a : List Nat} (h : Words a) (k : Nat) : Words (a.drop k) := fun y hy => h y (List.mem_of_mem_drop hy)
theorem Words.getD {a : List Nat} (h : Words a) (k : Nat) : a.getD k 0 < 4294967296 := by
 rcases Nat.lt_or_ge k a.length with hk | hk
 ·have : a.getD k 0 = a[k] := by simp [List.getD, hk]
  rw [this]; exact h _ (List.getElem_mem hk)
 ·have : a.getD k 0 = 0 := by simp [List.getD, hk]
  rw [this]; omega
theorem Words.set {a : List Nat} (h : Words a) (k : Nat) {x : Nat} (hx : x < 4294967296) : Words (a.set k x) := fun y hy => by
 rcases List.mem_or_eq_of_mem_set hy with hy | rfl
 ·exact h y hy
 ·exact hx
theorem Words.replicate (n : Nat) : Words (List.replicate n 0) := fun y hy => by have := (List.mem_replicate.1 hy).2; omega
theorem natOf_lt : ∀ {xs : List Nat}, Words xs → natOf xs < 4294967296 ^ xs.length
 | [], _ => by simp [natOf]
 | x :: a, h => by
  have h1 := natOf_lt h.tail
  have h2 := h.head
  simp only [natOf, List.length_cons, Nat.pow_succ]
  omega
theorem natOf_zeros (n : Nat) : natOf (List.replicate n 0) = 0 := by
 induction n with
 | zero => rfl
 | succ n ih => simp [List.replicate_succ, natOf, ih]
theorem natOf_wordsOf (n : Nat) : natOf (wordsOf n) = n := by
 induction n using Nat.strongRecOn with
 | _ n ih =>
  by_cases h : n = 0
  ·subst h; rw [wordsOf_zero]; rfl
  ·rw [wordsOf_pos h, natOf, ih _ (by omega)]
   omega
theorem words_wordsOf (n : Nat) : Words (wordsOf n) := by
 induction n using Nat.strongRecOn with
 | _ n ih =>
  by_cases h : n = 0
  ·subst h; rw [wordsOf_zero]; exact Words.nil
  ·rw [wordsOf_pos h]
   exact Words.cons (by omega) (ih _ (by omega))
theorem wordsOf_length_pos {n : Nat} (h : n ≠ 0) : 1 ≤ (wordsOf n).length := by rw [wordsOf_pos h]; simp
theorem wordsOf_eq_nil {n : Nat} : (wordsOf n).length = 0 ↔ n = 0 := by
 constructor
 ·intro h
  by_cases hn : n = 0
  ·exact hn
  ·have := wordsOf_length_pos hn; omega
 ·rintro rfl; rw [wordsOf_zero]; rfl
def NoZero (xs : List Nat) : Prop := ∀ h : xs ≠ [], xs.getLast h ≠ 0
theorem wordsOf_natOf : ∀ {xs : List Nat}, Words xs → NoZero xs → wordsOf (natOf xs) = xs
 | [], _, _ => wordsOf_zero
 | x :: a, h, hz => by
  have hx := h.head
  have hne : natOf (x :: a) ≠ 0 := by
   intro h0
   simp only [natOf] at h0
   have hx0 : x = 0 := by omega
   have ha0 : natOf a = 0 := by omega
   rcases a with _ | ⟨y, a⟩
   ·have := hz (by simp); simp at this; exact this hx0
   ·have hz' : NoZero (y :: a) := fun hn => by have := hz (by simp); rwa [List.getLast_cons hn] at this
    have := wordsOf_natOf h.tail hz'
    rw [ha0, wordsOf_zero] at this
    cases this
  have hz' : NoZero a := fun hn => by have := hz (by simp); rwa [List.getLast_cons hn] at this
  rw [wordsOf_pos hne]
  have e1 : natOf (x :: a) % 4294967296 = x := by simp only [natOf]; omega
  have e2 : natOf (x :: a) / 4294967296 = natOf a := by simp only [natOf]; omega
  rw [e1, e2, wordsOf_natOf h.tail hz']
theorem wordsOf_len {n k : Nat} : (wordsOf n).length ≤ k ↔ n < 4294967296 ^ k := by
  constructor
  · intro h
    have := natOf_lt (words_wordsOf n)
    rw [natOf_wordsOf] at this
    exact Nat.lt_of_lt_of_le this (Nat.pow_le_pow_right (by omega) h)
  · intro h
    induction k generalizing n with
    | zero => simp only [Nat.pow_zero] at h; obtain rfl : n = 0 := by omega
              rw [wordsOf_zero]; simp
    | succ k ih =>
      by_cases hn : n = 0
      · subst hn; rw [wordsOf_zero]; simp
      · rw [wordsOf_pos hn, List.length_cons]
        have : n / 4294967296 < 4294967296 ^ k := by
          rw [Nat.pow_succ] at h
          exact Nat.div_lt_of_lt_mul (by rw [Nat.mul_comm]; exact h)
        have := ih this
        omega
theorem wordsOf_len_lt {n : Nat} : n < 4294967296 ^ (wordsOf n).length := wordsOf_len.1 (Nat.le_refl _)
theorem wordsOf_mono {a b : Nat} (h : a ≤ b) : (wordsOf a).length ≤ (wordsOf b).length := wordsOf_len.2 (Nat.lt_of_le_of_lt h wordsOf_len_lt)
theorem words_len_ge {xs : List Nat} (h : Words xs) : (wordsOf (natOf xs)).length ≤ xs.length := wordsOf_len.2 (natOf_lt h)
theorem natOf_snoc_zero (xs : List Nat) : natOf (xs ++ [0]) = natOf xs := by rw [natOf_snoc]; simp
theorem words_split : ∀ {xs : List Nat}, Words xs → xs = wordsOf (natOf xs) ++ List.replicate (xs.length - (wordsOf (natOf xs)).length) 0 := by
  intro xs
  induction h : xs.length generalizing xs with
  | zero => intro _; obtain rfl : xs = [] := List.eq_nil_of_length_eq_zero h
            simp [natOf, wordsOf_zero]
  | succ n ih =>
    intro hw
    have hne : xs ≠ [] := by rintro rfl; simp at h
    obtain ⟨a, x, rfl⟩ : ∃ a x, xs = a ++ [x] := ⟨xs.dropLast, xs.getLast hne, (List.dropLast_concat_getLast hne).symm⟩
    have hl : a.length = n := by simpa using h
    by_cases hx : x = 0
    · subst hx
      have h1 := ih hl hw.left
      rw [natOf_snoc_zero]
      have h2 := words_len_ge hw.left
      rw [hl] at h2
      have e : n + 1 - (wordsOf (natOf a)).length = (n - (wordsOf (natOf a)).length) + 1 := by omega
      rw [e, List.replicate_succ']
      conv => lhs; rw [h1]
      rw [List.append_assoc]
    · have hz : NoZero (a ++ [x]) := fun hn => by simpa using hx
      rw [wordsOf_natOf hw hz]
      simp [hl]
theorem natOf_take_drop (xs : List Nat) (k : Nat) (hk : k ≤ xs.length) : natOf xs = natOf (xs.take k) + 4294967296 ^ k * natOf (xs.drop k) := by
 conv => lhs; rw [← List.take_append_drop k xs, natOf_append]
 rw [List.length_take, Nat.min_eq_left hk]
end Go.Proofs.YtjinpfnefeiooaaGreat
namespace Go.Proofs.YtjinpfnefeiooaaGreat

def hOf : List Nat → Nat
 | [] => 0
 | x :: r => x + 65536 * hOf r
def Halves (xs : List Nat) : Prop := ∀ x ∈ xs, x < 65536
def halfOf (n : Nat) : List Nat := if h : n = 0 then [] else (n % 65536) :: halfOf (n / 65536)
termination_by n
decreasing_by omega
theorem halfOf_zero : halfOf 0 = [] := by rw [halfOf]; simp
theorem halfOf_pos {n : Nat} (h : n ≠ 0) : halfOf n = (n % 65536) :: halfOf (n / 65536) := by rw [halfOf]; simp [h]
theorem hOf_append : ∀ a b : List Nat, hOf (a ++ b) = hOf a + 65536 ^ a.length * hOf b
 | [], b => by simp [hOf]
 | x :: a, b => by
  simp only [List.cons_append, hOf, hOf_append a b, List.length_cons, Nat.pow_succ]
  rw [Nat.mul_add, ← Nat.mul_assoc, Nat.mul_comm (65536 ^ a.length) 65536]
  omega
theorem hOf_snoc (a : List Nat) (x : Nat) : hOf (a ++ [x]) = hOf a + 65536 ^ a.length * x := by rw [hOf_append]; simp [hOf]
theorem Halves.nil : Halves [] := fun _ h => by cases h
theorem Halves.cons {x : Nat} {a : List Nat} (hx : x < 65536) (h : Halves a) : Halves (x :: a) := fun y hy => by
 rcases List.mem_cons.1 hy with rfl | hy
 ·exact hx
 ·exact h y hy
theorem Halves.head {x : Nat} {a : List Nat} (h : Halves (x :: a)) : x < 65536 := h x (by simp)
theorem Halves.tail {x : Nat} {a : List Nat} (h : Halves (x :: a)) : Halves a := fun y hy => h y (by simp [hy])
theorem Halves.append {a b : List Nat} (h : Halves a) (k : Halves b) : Halves (a ++ b) := fun y hy => by
 rcases List.mem_append.1 hy with hy | hy
 ·exact h y hy
 ·exact k y hy
theorem Halves.left {a b : List Nat} (h : Halves (a ++ b)) : Halves a := fun y hy => h y (List.mem_append.2 (.inl hy))
theorem Halves.take {a : List Nat} (h : Halves a) (k : Nat) : Halves (a.take k) := fun y hy => h y (List.mem_of_mem_take hy)
theorem Halves.drop {a : List Nat} (h : Halves a) (k : Nat) : Halves (a.drop k) := fun y hy => h y (List.mem_of_mem_drop hy)
theorem Halves.getD {a : List Nat} (h : Halves a) (k : Nat) : a.getD k 0 < 65536 := by
 rcases Nat.lt_or_ge k a.length with hk | hk
 ·have : a.getD k 0 = a[k] := by simp [List.getD, hk]
  rw [this]; exact h _ (List.getElem_mem hk)
 ·have : a.getD k 0 = 0 := by simp [List.getD, hk]
  rw [this]; omega
theorem Halves.set {a : List Nat} (h : Halves a) (k : Nat) {x : Nat} (hx : x < 65536) : Halves (a.set k x) := fun y hy => by
 rcases List.mem_or_eq_of_mem_set hy with hy | rfl
 ·exact h y hy
 ·exact hx
theorem Halves.replicate (n : Nat) : Halves (List.replicate n 0) := fun y hy => by have := (List.mem_replicate.1 hy).2; omega
theorem hOf_lt : ∀ {xs : List Nat}, Halves xs → hOf xs < 65536 ^ xs.length
 | [], _ => by simp [hOf]
 | x :: a, h => by
  have h1 := hOf_lt h.tail
  have h2 := h.head
  simp only [hOf, List.length_cons, Nat.pow_succ]
  omega
theorem hOf_halfOf (n : Nat) : hOf (halfOf n) = n := by
 induction n using Nat.strongRecOn with
 | _ n ih =>
  by_cases h : n = 0
  ·subst h; rw [halfOf_zero]; rfl
  ·rw [halfOf_pos h, hOf, ih _ (by omega)]
   omega
theorem half_halfOf (n : Nat) : Halves (halfOf n) := by
 induction n using Nat.strongRecOn with
 | _ n ih =>
  by_cases h : n = 0
  ·subst h; rw [halfOf_zero]; exact Halves.nil
  ·rw [halfOf_pos h]
   exact Halves.cons (by omega) (ih _ (by omega))
theorem halfOf_ne_nil {n : Nat} (h : n ≠ 0) : halfOf n ≠ [] := by rw [halfOf_pos h]; simp
theorem halfOf_length_pos {n : Nat} (h : n ≠ 0) : 1 ≤ (halfOf n).length := by rw [halfOf_pos h]; simp
theorem halfOf_eq_nil {n : Nat} : (halfOf n).length = 0 ↔ n = 0 := by
 constructor
 ·intro h
  by_cases hn : n = 0
  ·exact hn
  ·have := halfOf_length_pos hn; omega
 ·rintro rfl; rw [halfOf_zero]; rfl
def HNoZero (xs : List Nat) : Prop := ∀ h : xs ≠ [], xs.getLast h ≠ 0
theorem halfOf_hOf : ∀ {xs : List Nat}, Halves xs → HNoZero xs → halfOf (hOf xs) = xs
 | [], _, _ => halfOf_zero
 | x :: a, h, hz => by
  have hx := h.head
  have hne : hOf (x :: a) ≠ 0 := by
   intro h0
   simp only [hOf] at h0
   have hx0 : x = 0 := by omega
   have ha0 : hOf a = 0 := by omega
   rcases a with _ | ⟨y, a⟩
   ·have := hz (by simp); simp at this; exact this hx0
   ·have hz' : HNoZero (y :: a) := fun hn => by have := hz (by simp); rwa [List.getLast_cons hn] at this
    have := halfOf_hOf h.tail hz'
    rw [ha0, halfOf_zero] at this
    cases this
  have hz' : HNoZero a := fun hn => by have := hz (by simp); rwa [List.getLast_cons hn] at this
  rw [halfOf_pos hne]
  have e1 : hOf (x :: a) % 65536 = x := by simp only [hOf]; omega
  have e2 : hOf (x :: a) / 65536 = hOf a := by simp only [hOf]; omega
  rw [e1, e2, halfOf_hOf h.tail hz']
theorem hnoZero_halfOf (n : Nat) : HNoZero (halfOf n) := by
 induction n using Nat.strongRecOn with
 | _ n ih =>
  by_cases h : n = 0
  ·subst h; rw [halfOf_zero]; intro hn; exact absurd rfl hn
  ·rw [halfOf_pos h]
   intro hn
   by_cases h2 : n / 65536 = 0
   ·have : halfOf (n / 65536) = [] := by rw [h2]; exact halfOf_zero
    simp only [this, List.getLast_singleton]
    omega
   ·rw [List.getLast_cons (halfOf_ne_nil h2)]
    exact ih _ (by omega) _
theorem halfOf_len {n k : Nat} : (halfOf n).length ≤ k ↔ n < 65536 ^ k := by
  constructor
  · intro h
    have := hOf_lt (half_halfOf n)
    rw [hOf_halfOf] at this
    exact Nat.lt_of_lt_of_le this (Nat.pow_le_pow_right (by omega) h)
  · intro h
    induction k generalizing n with
    | zero => simp only [Nat.pow_zero] at h; obtain rfl : n = 0 := by omega
              rw [halfOf_zero]; simp
    | succ k ih =>
      by_cases hn : n = 0
      · subst hn; rw [halfOf_zero]; simp
      · rw [halfOf_pos hn, List.length_cons]
        have : n / 65536 < 65536 ^ k := by
          rw [Nat.pow_succ] at h
          exact Nat.div_lt_of_lt_mul (by rw [Nat.mul_comm]; exact h)
        have := ih this
        omega
theorem halfOf_len_lt {n : Nat} : n < 65536 ^ (halfOf n).length := halfOf_len.1 (Nat.le_refl _)
theorem halfOf_mono {a b : Nat} (h : a ≤ b) : (halfOf a).length ≤ (halfOf b).length := halfOf_len.2 (Nat.lt_of_le_of_lt h halfOf_len_lt)
theorem half_len_ge {xs : List Nat} (h : Halves xs) : (halfOf (hOf xs)).length ≤ xs.length := halfOf_len.2 (hOf_lt h)
theorem hOf_snoc_zero (xs : List Nat) : hOf (xs ++ [0]) = hOf xs := by rw [hOf_snoc]; simp
theorem half_split : ∀ {xs : List Nat}, Halves xs → xs = halfOf (hOf xs) ++ List.replicate (xs.length - (halfOf (hOf xs)).length) 0 := by
  intro xs
  induction h : xs.length generalizing xs with
  | zero => intro _; obtain rfl : xs = [] := List.eq_nil_of_length_eq_zero h
            simp [hOf, halfOf_zero]
  | succ n ih =>
    intro hw
    have hne : xs ≠ [] := by rintro rfl; simp at h
    obtain ⟨a, x, rfl⟩ : ∃ a x, xs = a ++ [x] := ⟨xs.dropLast, xs.getLast hne, (List.dropLast_concat_getLast hne).symm⟩
    have hl : a.length = n := by simpa using h
    by_cases hx : x = 0
    · subst hx
      have h1 := ih hl hw.left
      rw [hOf_snoc_zero]
      have h2 := half_len_ge hw.left
      rw [hl] at h2
      have e : n + 1 - (halfOf (hOf a)).length = (n - (halfOf (hOf a)).length) + 1 := by omega
      rw [e, List.replicate_succ']
      conv => lhs; rw [h1]
      rw [List.append_assoc]
    · have hz : HNoZero (a ++ [x]) := fun hn => by simpa using hx
      rw [halfOf_hOf hw hz]
      simp [hl]
end Go.Proofs.YtjinpfnefeiooaaGreat
namespace Go.Proofs.YtjinpfnefeiooaaGreat

def qOf (z y : Int) : Rat := if y = 0 then (z : Rat) else Rat.divInt z y
theorem qOf_zero (z : Int) : qOf z 0 = z := by simp [qOf]
theorem qOf_pos {z y : Int} (h : 0 < y) : qOf z y = Rat.divInt z y := by unfold qOf; rw [if_neg (by omega)]
theorem qOf_ne {z y : Int} (h : y ≠ 0) : qOf z y = Rat.divInt z y := by unfold qOf; rw [if_neg h]
theorem divInt_one (z : Int) : Rat.divInt z 1 = z := by
 have := Rat.num_divInt_den (z : Rat)
 simpa using this
theorem qOf_neg {z y : Int} (h : y < 0) : qOf z y = Rat.divInt (-z) (-y) := by rw [qOf_ne (by omega), Rat.neg_divInt_neg]
def denOf (q : Rat) : Int := if q.den = 1 then 0 else q.den
theorem qOf_self (q : Rat) : qOf q.num (denOf q) = q := by
 unfold denOf
 by_cases h : q.den = 1
 ·rw [if_pos h, qOf_zero]
  exact Rat.ext rfl h.symm
 ·rw [if_neg h, qOf_pos (by have := q.den_pos; omega), Rat.num_divInt_den]
theorem num_red {z y : Int} (h : 0 < y) : (Rat.divInt z y).num = z / (Int.gcd z y : Nat) := by
 rw [Rat.num_divInt, Int.sign_eq_one_of_pos h, Int.one_mul, Int.gcd_comm]
theorem den_red {z y : Int} (h : 0 < y) : ((Rat.divInt z y).den : Int) = y / (Int.gcd z y : Nat) := by
 rw [Rat.den_divInt, if_neg (by omega), Int.gcd_comm, Int.natCast_ediv, Int.natAbs_of_nonneg (by omega)]
def Sz (k : Nat) (q : Rat) : Prop := q.num.natAbs < 4294967296 ^ k ∧ q.den < 4294967296 ^ k
theorem pow_le {k l : Nat} (h : k ≤ l) : 4294967296 ^ k ≤ 4294967296 ^ l := Nat.pow_le_pow_right (by omega) h
theorem Sz.mono {k l : Nat} {q : Rat} (h : Sz k q) (hk : k ≤ l) : Sz l q := ⟨Nat.lt_of_lt_of_le h.1 (pow_le hk), Nat.lt_of_lt_of_le h.2 (pow_le hk)⟩
theorem bd_divInt {z y : Int} {P : Nat} (h : 0 < y) (hz : z.natAbs < P) (hy : y.natAbs < P) : (Rat.divInt z y).num.natAbs < P ∧ (Rat.divInt z y).den < P := by
 have hg : 0 < Int.gcd z y := by
  rcases Nat.eq_zero_or_pos (Int.gcd z y) with h0 | h0
  ·have := (Int.gcd_eq_zero_iff.1 h0).2
   omega
  ·exact h0
 refine ⟨?_, ?_⟩
 ·rw [num_red h]
  have h1 : (z / (Int.gcd z y : Nat)).natAbs ≤ z.natAbs := by
   have hd : ((Int.gcd z y : Nat) : Int) ∣ z := Int.gcd_dvd_left ..
   rw [Int.natAbs_ediv_of_dvd hd]
   exact Nat.div_le_self _ _
  omega
 ·have h1 := den_red (z := z) h
  have h2 : (Rat.divInt z y).den ≤ y.natAbs := by
   have : y / (Int.gcd z y : Nat) ≤ y := Int.ediv_le_self _ (by omega)
   omega
  omega
theorem sz_divInt {z y : Int} {k : Nat} (h : 0 < y) (hz : z.natAbs < 4294967296 ^ k) (hy : y.natAbs < 4294967296 ^ k) : Sz k (Rat.divInt z y) := bd_divInt h hz hy
theorem sz_qOf {z y : Int} {k : Nat} (hk : 0 < k) (hz : z.natAbs < 4294967296 ^ k) (hy : y.natAbs < 4294967296 ^ k) : Sz k (qOf z y) := by
 rcases Int.lt_trichotomy y 0 with h | h | h
 ·rw [qOf_neg h]
  exact sz_divInt (by omega) (by rw [Int.natAbs_neg]; exact hz) (by rw [Int.natAbs_neg]; exact hy)
 ·rw [h, qOf_zero, ← divInt_one]
  refine sz_divInt (by omega) hz ?_
  have : 4294967296 ^ 1 ≤ 4294967296 ^ k := pow_le hk
  have e : (1 : Int).natAbs = 1 := rfl
  omega
 ·rw [qOf_pos h]
  exact sz_divInt h hz hy
theorem natAbs_mul_lt {a b : Int} {k l : Nat} (ha : a.natAbs < 4294967296 ^ k) (hb : b.natAbs < 4294967296 ^ l) : (a * b).natAbs < 4294967296 ^ (k + l) := by
 rw [Int.natAbs_mul, Nat.pow_add]
 exact Nat.mul_lt_mul_of_lt_of_lt ha hb
theorem Sz.mul {k l : Nat} {p q : Rat} (hp : Sz k p) (hq : Sz l q) : Sz (k + l) (p * q) := by
 have e : p * q = Rat.divInt (p.num * q.num) ((p.den : Int) * q.den) := by
  rw [Rat.mul_def', ← Rat.divInt_ofNat, Int.natCast_mul]
 rw [e]
 refine sz_divInt (Int.mul_pos (by have := p.den_pos; omega) (by have := q.den_pos; omega)) (natAbs_mul_lt hp.1 hq.1) (natAbs_mul_lt ?_ ?_)
 ·simpa using hp.2
 ·simpa using hq.2
theorem Sz.neg {k : Nat} {q : Rat} (h : Sz k q) : Sz k (-q) := by
 refine ⟨?_, h.2⟩
 rw [Rat.neg_num, Int.natAbs_neg]
 exact h.1
theorem Sz.add {k l : Nat} {p q : Rat} (hp : Sz k p) (hq : Sz l q) : Sz (k + l + 1) (p + q) := by
 have e : p + q = Rat.divInt (p.num * q.den + q.num * p.den) ((p.den : Int) * q.den) := by
  rw [Rat.add_def', ← Rat.divInt_ofNat, Int.natCast_mul]
 have h1 : (p.num * (q.den : Int)).natAbs < 4294967296 ^ (k + l) := natAbs_mul_lt hp.1 (by simpa using hq.2)
 have h2 : (q.num * (p.den : Int)).natAbs < 4294967296 ^ (k + l) := by rw [Nat.add_comm]; exact natAbs_mul_lt hq.1 (by simpa using hp.2)
 have h3 : ((p.den : Int) * (q.den : Int)).natAbs < 4294967296 ^ (k + l) := natAbs_mul_lt (by simpa using hp.2) (by simpa using hq.2)
 rw [e]
 have hp' := pow_le (show k + l ≤ k + l + 1 by omega)
 have hs : 4294967296 ^ (k + l + 1) = 4294967296 ^ (k + l) * 4294967296 := Nat.pow_succ ..
 unfold Sz
 generalize 4294967296 ^ (k + l + 1) = P at *
 generalize 4294967296 ^ (k + l) = R at *
 refine bd_divInt (Int.mul_pos (by have := p.den_pos; omega) (by have := q.den_pos; omega)) ?_ ?_
 ·omega
 ·omega
theorem Sz.sub {k l : Nat} {p q : Rat} (hp : Sz k p) (hq : Sz l q) : Sz (k + l + 1) (p - q) := by
 rw [Rat.sub_eq_add_neg]
 exact hp.add hq.neg
theorem sz_int {z : Int} {k : Nat} (hk : 0 < k) (h : z.natAbs < 4294967296 ^ k) : Sz k (z : Rat) := by
 have := sz_qOf (z := z) (y := 0) hk h (Nat.pow_pos (by omega))
 rwa [qOf_zero] at this
end Go.Proofs.YtjinpfnefeiooaaGreat
namespace Go.Proofs.YtjinpfnefeiooaaGreat

theorem divInt_parts {z y : Int} (h : 0 < y) : ∃ g : Int, 0 < g ∧ z = g * (Rat.divInt z y).num ∧ y = g * (Rat.divInt z y).den := by
 have hg : 0 < Int.gcd z y := by
  rcases Nat.eq_zero_or_pos (Int.gcd z y) with h0 | h0
  ·have := (Int.gcd_eq_zero_iff.1 h0).2
   omega
  ·exact h0
 refine ⟨(Int.gcd z y : Nat), by omega, ?_, ?_⟩
 ·rw [num_red h, Int.mul_ediv_cancel' (Int.gcd_dvd_left ..)]
 ·rw [den_red h, Int.mul_ediv_cancel' (Int.gcd_dvd_right ..)]
theorem sign_divInt {z y : Int} (h : 0 < y) : (Rat.divInt z y).num.sign = z.sign := by
 obtain ⟨g, hg, h1, _⟩ := divInt_parts (z := z) h
 generalize (Rat.divInt z y).num = k at *
 rw [h1, Int.sign_mul, Int.sign_eq_one_of_pos hg, Int.one_mul]
theorem sign_qOf (z y : Int) : (qOf z y).num.sign = if y < 0 then -z.sign else z.sign := by
 rcases Int.lt_trichotomy y 0 with h | h | h
 ·rw [if_pos h, qOf_neg h, sign_divInt (by omega), Int.sign_neg]
 ·rw [h, qOf_zero]; rfl
 ·rw [if_neg (by omega), qOf_pos h, sign_divInt h]
def cmpQ (p q : Rat) : Int := if p < q then -1 else if q < p then 1 else 0
theorem divInt_lt {z y z' y' : Int} (h : 0 < y) (h' : 0 < y') : Rat.divInt z y < Rat.divInt z' y' ↔ z * y' < z' * y := by
 obtain ⟨g, hg, h1, h2⟩ := divInt_parts (z := z) h
 obtain ⟨g', hg', h1', h2'⟩ := divInt_parts (z := z') h'
 rw [Rat.lt_iff]
 generalize (Rat.divInt z y).num = a at *
 generalize ((Rat.divInt z y).den : Int) = b at *
 generalize (Rat.divInt z' y').num = a' at *
 generalize ((Rat.divInt z' y').den : Int) = b' at *
 have e1 : z * y' = (g * g') * (a * b') := by rw [h1, h2']; ac_rfl
 have e2 : z' * y = (g * g') * (a' * b) := by rw [h1', h2]; ac_rfl
 rw [e1, e2]
 exact (Int.mul_lt_mul_left (Int.mul_pos hg hg')).symm
theorem cmpQ_parts {z y z' y' : Int} (h : 0 < y) (h' : 0 < y') : cmpQ (Rat.divInt z y) (Rat.divInt z' y') = if z * y' < z' * y then -1 else if z' * y < z * y' then 1 else 0 := by
 unfold cmpQ
 simp only [divInt_lt h h', divInt_lt h' h]
theorem sign3 (z : Int) : (z < 0 ∧ z.sign = -1) ∨ (z = 0 ∧ z.sign = 0) ∨ (0 < z ∧ z.sign = 1) := by
 rcases Int.lt_trichotomy z 0 with h | h | h
 ·exact .inl ⟨h, Int.sign_eq_neg_one_of_neg h⟩
 ·exact .inr (.inl ⟨h, by rw [h]; rfl⟩)
 ·exact .inr (.inr ⟨h, Int.sign_eq_one_of_pos h⟩)
theorem cmpQ_signs {z y z' y' : Int} (h : 0 < y) (h' : 0 < y') (hs : z.sign ≠ z'.sign ∨ z.sign = 0) : cmpQ (Rat.divInt z y) (Rat.divInt z' y') = (z.sign - z'.sign).sign := by
 rw [cmpQ_parts h h']
 have n1 : z < 0 → z * y' < 0 := fun e => Int.mul_neg_of_neg_of_pos e h'
 have n2 : z' < 0 → z' * y < 0 := fun e => Int.mul_neg_of_neg_of_pos e h
 have p1 : 0 < z → 0 < z * y' := fun e => Int.mul_pos e h'
 have p2 : 0 < z' → 0 < z' * y := fun e => Int.mul_pos e h
 have z1 : z = 0 → z * y' = 0 := fun e => by rw [e, Int.zero_mul]
 have z2 : z' = 0 → z' * y = 0 := fun e => by rw [e, Int.zero_mul]
 generalize z * y' = u at *
 generalize z' * y = v at *
 rcases sign3 z with ⟨a, b⟩ | ⟨a, b⟩ | ⟨a, b⟩ <;> rcases sign3 z' with ⟨a', b'⟩ | ⟨a', b'⟩ | ⟨a', b'⟩ <;> rw [b, b'] at hs ⊢ <;> simp at hs <;> (repeat' split) <;> first | rfl | omega
end Go.Proofs.YtjinpfnefeiooaaGreat
