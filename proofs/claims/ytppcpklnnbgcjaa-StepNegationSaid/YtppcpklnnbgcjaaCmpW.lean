/- The contract of whole.compareWords, and of Cmp. -/
import Derived.Test.YtppcpklnnbgcjaaWords
namespace Go.Proofs.Ytppcpklnnbgcjaa
open Go.RowKit

/-- -1, 0 or 1. -/
def cmpN (a b : Nat) : Int := if a < b then -1 else if b < a then 1 else 0
theorem drop_cons {xs : List Nat} {k : Nat} (hk : k < xs.length) : xs.drop k = xs.getD k 0 :: xs.drop (k + 1) := by rw [List.drop_eq_getElem_cons hk]; simp [List.getD, hk]
theorem drewN_two {w : World} {a b : Nat} : ∃ k, (w.drewN a).drewN b = w.drewN k := ⟨a + b, by simp⟩
theorem drewN_three {w : World} {a b c : Nat} : ∃ k, ((w.drewN a).drewN b).drewN c = w.drewN k := ⟨a + b + c, by simp⟩
theorem wordsOf_lt_of_len {a b : Nat} (h : (wordsOf a).length < (wordsOf b).length) : a < b := by
  rcases Nat.lt_or_ge a b with h1 | h1
  · exact h1
  · have := wordsOf_mono h1; omega
theorem natOf_drop_lt {xs ys : List Nat} (hx : Words xs) (hl : xs.length = ys.length) {k : Nat} (hk : k < xs.length) (hd : xs.drop (k + 1) = ys.drop (k + 1)) (hlt : xs.getD k 0 < ys.getD k 0) : natOf xs < natOf ys := by
  rw [natOf_take_drop xs k (by omega), natOf_take_drop ys k (by omega)]
  have e1 : xs.drop k = xs.getD k 0 :: xs.drop (k + 1) := by rw [List.drop_eq_getElem_cons hk]; simp [List.getD, hk]
  have e2 : ys.drop k = ys.getD k 0 :: ys.drop (k + 1) := by rw [List.drop_eq_getElem_cons (by omega)]; simp [List.getD, show k < ys.length by omega]
  rw [e1, e2, hd]
  simp only [natOf]
  have h1 := natOf_lt (hx.take k)
  rw [List.length_take, Nat.min_eq_left (by omega)] at h1
  generalize natOf (ys.drop (k + 1)) = d at *
  generalize natOf (xs.take k) = p at *
  generalize natOf (ys.take k) = q at *
  generalize xs.getD k 0 = x at *
  generalize ys.getD k 0 = y at *
  generalize (4294967296 : Nat) ^ k = P at *
  have h2 : P * (x + 1 + 4294967296 * d) ≤ P * (y + 4294967296 * d) := Nat.mul_le_mul_left P (by omega)
  have h3 : P * (x + 1 + 4294967296 * d) = P * (x + 4294967296 * d) + P := by rw [show x + 1 + 4294967296 * d = (x + 4294967296 * d) + 1 by omega, Nat.mul_add, Nat.mul_one]
  omega

set_option maxHeartbeats 1600000 in
theorem compare_any (A : Option Addr) (n c : Nat) (a : Nat) (B : Option Addr) (m d : Nat) (b : Nat) (w : World) (hx : WordsAt w A n (wordsOf a)) (hy : WordsAt w B m (wordsOf b)) (hn : n ≤ maxLen) :
    Calls Try.prog 65 #[.slice A n c, .slice B m d] w fun e w' => e = .returned (.int .i64 (cmpN a b)) ∧ ∃ k, w' = w.drewN k := by
  unfold maxLen at hn
  by_cases hnm : n = m
  · subst hnm
    have HL := Lib.hid hx.1
    have HM := Lib.hid hy.1
    have HX := Lib.hid hx.2.2
    have HY := Lib.hid hy.2.2
    have HB : Hid (∀ j, j < n → (wordsOf a).drop (j + 1) = (wordsOf b).drop (j + 1) → ((wordsOf a).getD j 0 < (wordsOf b).getD j 0 → cmpN a b = -1) ∧ ((wordsOf b).getD j 0 < (wordsOf a).getD j 0 → cmpN a b = 1)) := fun j hj hd => by
      have e1 := natOf_wordsOf a
      have e2 := natOf_wordsOf b
      constructor
      · intro hlt
        have := natOf_drop_lt hx.2.1 (by rw [hx.1, hy.1]) (by rw [hx.1]; exact hj) hd hlt
        rw [e1, e2] at this
        unfold cmpN; rw [if_pos this]
      · intro hlt
        have := natOf_drop_lt hy.2.1 (by rw [hx.1, hy.1]) (by rw [hy.1]; exact hj) hd.symm hlt
        rw [e1, e2] at this
        unfold cmpN; rw [if_neg (by omega), if_pos this]
    have HE : Hid (wordsOf a = wordsOf b → cmpN a b = 0) := fun h => by
      have : a = b := by rw [← natOf_wordsOf a, h, natOf_wordsOf]
      unfold cmpN; rw [if_neg (by omega), if_neg (by omega)]
    clear hx hy
    generalize cmpN a b = res at *
    generalize wordsOf a = xs at *
    generalize wordsOf b = ys at *
    go_enter Try.func65, Try.ntmps65
    go_wp2_with fail
    go_loopw [5] (fun i wr => ∃ k : Nat, k ≤ n ∧ i = .int .i64 ((k : Int) - 1) ∧ Hid (xs.drop k = ys.drop k) ∧ ∃ j, wr = w.drewN j) (fun i _ => (intOf i + 1).toNat)
    case atStart => exact ⟨n, Nat.le_refl _, rfl, by unfold Hid; rw [List.drop_eq_nil_of_le (by rw [HL.out]; exact Nat.le_refl _), List.drop_eq_nil_of_le (by rw [HM.out]; exact Nat.le_refl _)], 0, rfl⟩
    case round =>
      obtain ⟨k, hk, rfl, HD, j, rfl⟩ := hrel
      by_cases h0 : k = 0
      · subst h0
        have hb : decide ((0 : Int) ≤ ((0 : Nat) : Int) - 1) = false := by simp
        have hb2 : decide ((1 : Int) ≤ ((0 : Nat) : Int)) = false := by simp
        have HR := Lib.hid (HE.out (by simpa using HD.out))
        go_wp2_with fail
        go_ret
        exact ⟨ret_i64 HR.out.symm, _, rfl⟩
      · obtain ⟨i, rfl⟩ : ∃ i, k = i + 1 := ⟨k - 1, by omega⟩
        clear h0
        rw [show (((i + 1 : Nat) : Int) - 1) = (i : Int) by omega]
        obtain ⟨bX, oX, rfl, hbX, hcX⟩ := HX.out (by omega)
        obtain ⟨bY, oY, rfl, hbY, hcY⟩ := HY.out (by omega)
        have c1 := hcX i (by omega)
        have c2 := hcY i (by omega)
        clear hcX hcY
        have HBi := Lib.hid (HB.out i (by omega) HD.out)
        have HDi : Hid (xs.getD i 0 = ys.getD i 0 → xs.drop i = ys.drop i) := fun e => by
          rw [drop_cons (xs := xs) (by rw [HL.out]; omega), drop_cons (xs := ys) (by rw [HM.out]; omega), HD.out, e]
        have h01 : (0 : Int) ≤ (i : Int) := by omega
        have h02 : (i : Int) < (n : Int) := by omega
        generalize xs.getD i 0 = x at *
        generalize ys.getD i 0 = y at *
        by_cases hxy : x = y
        · have HDe := Lib.hid (HDi.out hxy)
          clear HDi HBi
          subst hxy
          have hb : ((x : Int) != (x : Int)) = false := by simp
          go_wp2_with fail
          go_quiet (fail)
          go_wp2_with fail
          go_roundw
          case rel => exact ⟨i, by omega, by go_num, HDe, _, rfl⟩
          case measure => simp [intOf]
        · have hb : ((x : Int) != (y : Int)) = true := by simp; omega
          by_cases hlt : x < y
          · have hb2 : decide (x < y) = true := by simp; omega
            have HR := Lib.hid (HBi.out.1 hlt)
            clear hxy
            go_wp2_with fail
            go_quiet (fail)
            go_wp2_with fail
            go_quiet (fail)
            go_wp2_with fail
            go_ret
            exact ⟨ret_i64 HR.out.symm, drewN_three⟩
          · have hb2 : decide (x < y) = false := by simp; omega
            have HR := Lib.hid (HBi.out.2 (by omega))
            clear hxy
            go_wp2_with fail
            go_quiet (fail)
            go_wp2_with fail
            go_quiet (fail)
            go_wp2_with fail
            go_ret
            exact ⟨ret_i64 HR.out.symm, drewN_three⟩
  · have hb : ((n : Int) != (m : Int)) = true := by simp; omega
    by_cases hlt : n < m
    · have hb2 : decide (n < m) = true := by simp; omega
      have HR : Hid (cmpN a b = -1) := by
        have := wordsOf_lt_of_len (a := a) (b := b) (by rw [hx.1, hy.1]; exact hlt)
        unfold Hid cmpN; rw [if_pos this]
      clear hx hy hnm
      go_enter Try.func65, Try.ntmps65
      go_wp2_with fail
      go_ret
      exact ⟨ret_i64 HR.out.symm, 0, rfl⟩
    · have hb2 : decide (n < m) = false := by simp; omega
      have HR : Hid (cmpN a b = 1) := by
        have := wordsOf_lt_of_len (a := b) (b := a) (by rw [hx.1, hy.1]; omega)
        unfold Hid cmpN; rw [if_neg (by omega), if_pos this]
      clear hx hy hnm
      go_enter Try.func65, Try.ntmps65
      go_wp2_with fail
      go_ret
      exact ⟨ret_i64 HR.out.symm, 0, rfl⟩
end Go.Proofs.Ytppcpklnnbgcjaa
