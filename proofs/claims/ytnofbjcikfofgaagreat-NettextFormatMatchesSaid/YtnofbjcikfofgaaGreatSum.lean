/- Contracts of whole.signedSum, Add, Sub, Mul. -/
import Derived.Test.YtnofbjcikfofgaaGreatAddW
import Derived.Test.YtnofbjcikfofgaaGreatMulW
namespace Go.Proofs.YtnofbjcikfofgaaGreat
open Go.RowKit

theorem addWords_any (A : Option Addr) (n c : Nat) (xs : List Nat) (B : Option Addr) (m d : Nat) (ys : List Nat) (w : World) (hx : WordsAt w A n xs) (hy : WordsAt w B m ys) (hn : n ≤ 1073741824) (hm : m ≤ 1073741824) :
    Calls Tryz.prog 106 #[.slice A n c, .slice B m d] w fun e w' => ∃ A' n' S, e = .returned (.slice A' n' n') ∧ natOf S = natOf xs + natOf ys ∧ NewW w' w.heap.size A' n' n' S ∧ Ext w w' := by
  by_cases h : n < m
  · refine (addW_m A n c xs B m d ys w hx hy hn hm h).mono ?_
    rintro e w' ⟨S, rfl, h1, h2, h3, h4⟩
    exact ⟨_, _, S, rfl, h1, ⟨h2, Nat.le_refl _, by simp [maxLen]; omega, h3⟩, h4⟩
  · refine (addW_n A n c xs B m d ys w hx hy hn hm (by omega)).mono ?_
    rintro e w' ⟨S, rfl, h1, h2, h3, h4⟩
    exact ⟨_, _, S, rfl, h1, ⟨h2, Nat.le_refl _, by simp [maxLen]; omega, h3⟩, h4⟩
theorem subW_any (A : Option Addr) (n c : Nat) (x : Nat) (B : Option Addr) (m d : Nat) (y : Nat) (w : World) (hx : WordsAt w A n (wordsOf x)) (hy : WordsAt w B m (wordsOf y)) (hn : n ≤ 1073741824) (hle : y ≤ x) :
    Calls Tryz.prog 107 #[.slice A n c, .slice B m d] w fun e w' => ∃ A' n' S, e = .returned (.slice A' n' n') ∧ natOf S = x - y ∧ NewW w' w.heap.size A' n' n' S ∧ Ext w w' := by
  have hmn : m ≤ n := by rw [← hx.1, ← hy.1]; exact wordsOf_mono hle
  refine (subWords_any A n c _ B m d _ w hx hy hn (by omega) hmn (by rw [natOf_wordsOf, natOf_wordsOf]; exact hle)).mono ?_
  rintro e w' ⟨S, rfl, h1, h2, h3, h4⟩
  rw [natOf_wordsOf, natOf_wordsOf] at h1
  exact ⟨_, _, S, rfl, h1, ⟨h2, Nat.le_refl _, by simp [maxLen]; omega, h3⟩, h4⟩
theorem sgn_add_same (b : Bool) (x y : Nat) : sgn b (x + y) = sgn b x + sgn b y := by unfold sgn; cases b <;> simp <;> omega
theorem sgn_add_lt {a b : Bool} {x y : Nat} (hab : a ≠ b) (h : x < y) : sgn b (y - x) = sgn a x + sgn b y := by unfold sgn; cases a <;> cases b <;> simp at hab ⊢ <;> omega
theorem sgn_add_ge {a b : Bool} {x y : Nat} (hab : a ≠ b) (h : y ≤ x) : sgn a (x - y) = sgn a x + sgn b y := by unfold sgn; cases a <;> cases b <;> simp at hab ⊢ <;> omega

end Go.Proofs.YtnofbjcikfofgaaGreat
