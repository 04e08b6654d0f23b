/- The contract of nettext.FormatNet. Printed by gen_txu.py. -/
import Derived.Test.YtkdbpcenehhopaaTxA
namespace Go.Proofs.Ytkdbpcenehhopaa
open Go.RowKit
def lnTok (z : List Int) : List Tok := [tokO, tokW [108, 105, 110, 101], numT (z.getD 0 0), numT (z.getD 1 0), numT (z.getD 2 0), numT (z.getD 3 0), tokC]
def netToks (b : Int) (ls : List (List Int)) : List Tok := tokO :: tokW [110, 101, 116] :: numT b :: (ls.flatMap lnTok ++ [tokC])
def netT (b : Int) (ls : List (List Int)) : Bs × Int := if netC b ls = 0 then (fmtT (netToks b ls), 0) else ([], netC b ls)
theorem lnOk_i64 {b : Int} {z : List Int} (hb : 1 ≤ b ∧ b ≤ 6) (h : lnOk b z = true) : I64r (z.getD 0 0) ∧ I64r (z.getD 1 0) ∧ I64r (z.getD 2 0) ∧ I64r (z.getD 3 0) := by
  unfold lnOk lnC inB at h
  simp only [Bool.and_eq_true, decide_eq_true_eq] at h
  obtain ⟨⟨h1, h2⟩, ⟨h3, h4⟩, -, ⟨h5, h6⟩, h7, h8⟩ := h
  exact ⟨⟨by omega, by omega⟩, ⟨by omega, by omega⟩, ⟨by omega, by omega⟩, ⟨by omega, by omega⟩⟩
theorem netC_ok {b : Int} {ls : List (List Int)} (h : netC b ls = 0) : (1 ≤ b ∧ b ≤ 6) ∧ ls.length ≤ 10 ∧ ∀ z ∈ ls, lnOk b z = true := by
  unfold netC at h
  by_cases h1 : b < 1 ∨ 6 < b
  · rw [if_pos h1] at h; cases h
  · rw [if_neg h1] at h
    by_cases h2 : 10 < ls.length
    · rw [if_pos h2] at h; cases h
    · rw [if_neg h2] at h
      by_cases h3 : ls.all (lnOk b) = true
      · exact ⟨by omega, by omega, List.all_eq_true.1 h3⟩
      · rw [if_neg h3] at h; cases h
theorem lnToks_len (ls : List (List Int)) : (ls.flatMap lnTok).length = ls.length * 7 := by
  induction ls with
  | nil => rfl
  | cons z r ih => rw [List.flatMap_cons, List.length_append, ih, List.length_cons]; simp [lnTok]; omega
theorem net_good {b : Int} {ls : List (List Int)} (h : netC b ls = 0) : ∀ t ∈ netToks b ls, GoodT t ∧ (pieceT t).length ≤ 20 := by
  obtain ⟨hb, -, hl⟩ := netC_ok h
  have hO : GoodT tokO ∧ (pieceT tokO).length ≤ 20 := ⟨.inl rfl, by simp [pieceT, tokO]⟩
  have hC : GoodT tokC ∧ (pieceT tokC).length ≤ 20 := ⟨.inr (.inl rfl), by simp [pieceT, tokC]⟩
  have hN : ∀ z, I64r z → GoodT (numT z) ∧ (pieceT (numT z)).length ≤ 20 := fun z hz => ⟨good_num hz, piece_num hz⟩
  intro t ht
  unfold netToks at ht
  rcases List.mem_cons.1 ht with rfl | ht
  · exact hO
  rcases List.mem_cons.1 ht with rfl | ht
  · exact ⟨.inr (.inr (.inl ⟨_, rfl, by decide +kernel⟩)), by simp [pieceT, tokW]⟩
  rcases List.mem_cons.1 ht with rfl | ht
  · exact hN b ⟨by omega, by omega⟩
  rcases List.mem_append.1 ht with ht | ht
  · obtain ⟨z, hz, ht⟩ := List.mem_flatMap.1 ht
    obtain ⟨h0, h1, h2, h3⟩ := lnOk_i64 hb (hl z hz)
    simp only [lnTok, List.mem_cons, List.not_mem_nil, or_false] at ht
    rcases ht with rfl | rfl | rfl | rfl | rfl | rfl | rfl
    · exact hO
    · exact ⟨.inr (.inr (.inl ⟨_, rfl, by decide +kernel⟩)), by simp [pieceT, tokW]⟩
    · exact hN _ h0
    · exact hN _ h1
    · exact hN _ h2
    · exact hN _ h3
    · exact hC
  · obtain rfl : t = tokC := by simpa using ht
    exact hC
/-- The tokens behind k lines. -/
def netPre (b : Int) (ls : List (List Int)) (k : Nat) : List Tok := tokO :: tokW [110, 101, 116] :: numT b :: (ls.take k).flatMap lnTok
theorem netPre_len {b : Int} {ls : List (List Int)} {k : Nat} (h : k ≤ ls.length) : (netPre b ls k).length = k * 7 + 3 := by
  unfold netPre
  simp only [List.length_cons, lnToks_len, List.length_take]
  omega
theorem netPre_step {b : Int} {ls : List (List Int)} {k : Nat} (h : k < ls.length) : netPre b ls (k + 1) = netPre b ls k ++ lnTok (ls.getD k []) := by
  unfold netPre
  rw [List.take_succ_eq_append_getElem h, List.flatMap_append]
  simp [List.getD, List.getElem?_eq_getElem h]
theorem netPre_all {b : Int} {ls : List (List Int)} : netPre b ls ls.length ++ [tokC] = netToks b ls := by
  unfold netPre netToks
  rw [List.take_of_length_le (Nat.le_refl _)]
  simp
end Go.Proofs.Ytkdbpcenehhopaa
