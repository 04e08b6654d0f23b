/- A part of the proof. -/
import Derived.Test.YtjinpfnefeiooaaGreatAddW
import Derived.Test.YtjinpfnefeiooaaGreatMulW
namespace Go.Proofs.YtjinpfnefeiooaaGreat
open Go.RowKit

theorem addWords_any (A : Option Addr) (n c : Nat) (xs : List Nat) (B : Option Addr) (m d : Nat) (ys : List Nat) (w : World) (hx : WordsAt w A n xs) (hy : WordsAt w B m ys) (hn : n ≤ 1073741824) (hm : m ≤ 1073741824) :
  Calls Tryz.prog 128 #[.slice A n c, .slice B m d] w fun e w' => ∃ A' n' S, e = .returned (.slice A' n' n') ∧ natOf S = natOf xs + natOf ys ∧ NewW w' w.heap.size A' n' n' S ∧ Ext w w' := by
 by_cases h : n < m
 ·refine (addW_m A n c xs B m d ys w hx hy hn hm h).mono ?_
  rintro e w' ⟨S, rfl, h1, h2, h3, h4⟩
  exact ⟨_, _, S, rfl, h1, ⟨h2, Nat.le_refl _, by simp [maxLen]; omega, h3⟩, h4⟩
 ·refine (addW_n A n c xs B m d ys w hx hy hn hm (by omega)).mono ?_
  rintro e w' ⟨S, rfl, h1, h2, h3, h4⟩
  exact ⟨_, _, S, rfl, h1, ⟨h2, Nat.le_refl _, by simp [maxLen]; omega, h3⟩, h4⟩
theorem subW_any (A : Option Addr) (n c : Nat) (x : Nat) (B : Option Addr) (m d : Nat) (y : Nat) (w : World) (hx : WordsAt w A n (wordsOf x)) (hy : WordsAt w B m (wordsOf y)) (hn : n ≤ 1073741824) (hle : y ≤ x) :
  Calls Tryz.prog 129 #[.slice A n c, .slice B m d] w fun e w' => ∃ A' n' S, e = .returned (.slice A' n' n') ∧ natOf S = x - y ∧ NewW w' w.heap.size A' n' n' S ∧ Ext w w' := by
 have hmn : m ≤ n := by rw [← hx.1, ← hy.1]; exact wordsOf_mono hle
 refine (subWords_any A n c _ B m d _ w hx hy hn (by omega) hmn (by rw [natOf_wordsOf, natOf_wordsOf]; exact hle)).mono ?_
 rintro e w' ⟨S, rfl, h1, h2, h3, h4⟩
 rw [natOf_wordsOf, natOf_wordsOf] at h1
 exact ⟨_, _, S, rfl, h1, ⟨h2, Nat.le_refl _, by simp [maxLen]; omega, h3⟩, h4⟩
theorem sgn_add_same (b : Bool) (x y : Nat) : sgn b (x + y) = sgn b x + sgn b y := by unfold sgn; cases b <;> simp <;> omega
theorem sgn_add_lt {a b : Bool} {x y : Nat} (hab : a ≠ b) (h : x < y) : sgn b (y - x) = sgn a x + sgn b y := by unfold sgn; cases a <;> cases b <;> simp at hab ⊢ <;> omega
theorem sgn_add_ge {a b : Bool} {x y : Nat} (hab : a ≠ b) (h : y ≤ x) : sgn a (x - y) = sgn a x + sgn b y := by unfold sgn; cases a <;> cases b <;> simp at hab ⊢ <;> omega
set_option maxRecDepth 100000 in
set_option maxHeartbeats 1600000 in
theorem signedSum_any (a : Bool) (A : Option Addr) (n c : Nat) (x : Nat) (b : Bool) (B : Option Addr) (m d : Nat) (y : Nat) (w : World) (hx : WordsAt w A n (wordsOf x)) (hy : WordsAt w B m (wordsOf y)) (hn : n ≤ 1073741824) (hm : m ≤ 1073741824) :
  Calls Tryz.prog 134 #[.bool a, .slice A n c, .bool b, .slice B m d] w (RetZ w (sgn a x + sgn b y)) := by
 have hnx : n ≤ maxLen := by simp [maxLen]; omega
 by_cases hab : a = b
 ·subst hab
  have HS := LH (sgn_add_same a x y)
  go_enter Tryz.func134, Tryz.ntmps134
  go_wp2_with fail
  have r0 := Cell2.new w _ rfl (.bool false) (.slice none 0 0) 27
  have hE0 : Ext w (w.alloc (.cells #[.bool false, .slice none 0 0] 27)) := Ext.al Ext.rfl' _
  generalize w.alloc (.cells #[.bool false, .slice none 0 0] 27) = w0 at *
  refine (addWords_any A n c _ B m d _ w0 (hx.below hE0) (hy.below hE0) hn hm).mono ?_
  rintro e w1 ⟨A1, n1, S, rfl, hS, hN1, hb1⟩
  rw [natOf_wordsOf, natOf_wordsOf] at hS
  have HSS := LH hS
  clear hS
  go_wp2_with fail
  refine (build_any a A1 n1 n1 S w1 w0.heap.size hN1.1 hN1.2.1 hN1.2.2.1 hN1.2.2.2).mono ?_
  rintro e w2 ⟨b', A', n', c', rfl, hz, hb2⟩
  rw [HSS.out, HS.out] at hz
  have HZ := LH hz
  have HB := LH (ET hb1 hb2)
  clear hz hb2 hN1 hb1
  have hrz : w.heap.size < w0.heap.size := r0.2.2.2.2
  obtain ⟨e0, e1, f0, f1, hrl⟩ := r0.ext HB.out
  clear r0
  go_wp2_with fail
  refine bodyPost_ret (v := .agg #[.bool b', .slice A' n' c']) (by simp [results, Tryz.results134, go_sem, e0, e1]) rfl ?_
  exact ⟨_, _, _, _, rfl, retZ_fill (Nat.le_refl _) hrz HZ.out (ET hE0 HB.out) _ _⟩
 ·have hab' : (a == b) = false := by simpa using hab
  by_cases hlt : x < y
  ·have HS := LH (sgn_add_lt hab hlt)
   have hcb : cmpN x y = -1 := by unfold cmpN; rw [if_pos hlt]
   have HC := LH hcb
   clear hcb hab
   go_enter Tryz.func134, Tryz.ntmps134
   go_wp2_with fail
   have r0 := Cell2.new w _ rfl (.bool false) (.slice none 0 0) 27
   have hE0 : Ext w (w.alloc (.cells #[.bool false, .slice none 0 0] 27)) := Ext.al Ext.rfl' _
   generalize w.alloc (.cells #[.bool false, .slice none 0 0] 27) = w0 at *
   refine (compare_any A n c x B m d y w0 (hx.below hE0) (hy.below hE0) hnx).mono ?_
   rintro e w1 ⟨rfl, k, rfl⟩
   rw [HC.out]
   have hE1 : Ext w0 (w0.drewN k) := below_drewN Ext.rfl' _
   have r1 := r0.ext hE1
   clear r0
   go_wp2_with fail
   refine (subW_any B m d y A n c x _ ((hy.below hE0).below hE1) ((hx.below hE0).below hE1) hm (by omega)).mono ?_
   rintro e w2 ⟨A1, n1, S, rfl, hS, hN1, hb1⟩
   have HSS := LH hS
   clear hS
   go_wp2_with fail
   refine (build_any b A1 n1 n1 S w2 w0.heap.size hN1.1 hN1.2.1 hN1.2.2.1 hN1.2.2.2).mono ?_
   rintro e w3 ⟨b', A', n', c', rfl, hz, hb2⟩
   rw [HSS.out, HS.out] at hz
   have HZ := LH hz
   have HB := LH (ET hb1 hb2)
   clear hz hb2 hN1 hb1
   have hrz : w.heap.size < w0.heap.size := r1.2.2.2.2
   obtain ⟨e0, e1, f0, f1, hrl⟩ := r1.ext HB.out
   clear r1
   go_wp2_with fail
   refine bodyPost_ret (v := .agg #[.bool b', .slice A' n' c']) (by simp [results, Tryz.results134, go_sem, e0, e1]) rfl ?_
   exact ⟨_, _, _, _, rfl, retZ_fill (Nat.le_refl _) hrz HZ.out (ET hE0 (ET hE1 HB.out)) _ _⟩
  ·have HS := LH (sgn_add_ge hab (Nat.le_of_not_lt hlt))
   obtain ⟨q, hq, hq0⟩ : ∃ q, cmpN x y = q ∧ 0 ≤ q := ⟨_, rfl, by unfold cmpN; split <;> (try split) <;> omega⟩
   have HC := LH hq
   clear hq hab
   go_enter Tryz.func134, Tryz.ntmps134
   go_wp2_with fail
   have r0 := Cell2.new w _ rfl (.bool false) (.slice none 0 0) 27
   have hE0 : Ext w (w.alloc (.cells #[.bool false, .slice none 0 0] 27)) := Ext.al Ext.rfl' _
   generalize w.alloc (.cells #[.bool false, .slice none 0 0] 27) = w0 at *
   refine (compare_any A n c x B m d y w0 (hx.below hE0) (hy.below hE0) hnx).mono ?_
   rintro e w1 ⟨rfl, k, rfl⟩
   rw [HC.out]
   have hE1 : Ext w0 (w0.drewN k) := below_drewN Ext.rfl' _
   have r1 := r0.ext hE1
   clear r0
   go_wp2_with fail
   refine (subW_any A n c x B m d y _ ((hx.below hE0).below hE1) ((hy.below hE0).below hE1) hn (by omega)).mono ?_
   rintro e w2 ⟨A1, n1, S, rfl, hS, hN1, hb1⟩
   have HSS := LH hS
   clear hS
   go_wp2_with fail
   refine (build_any a A1 n1 n1 S w2 w0.heap.size hN1.1 hN1.2.1 hN1.2.2.1 hN1.2.2.2).mono ?_
   rintro e w3 ⟨b', A', n', c', rfl, hz, hb2⟩
   rw [HSS.out, HS.out] at hz
   have HZ := LH hz
   have HB := LH (ET hb1 hb2)
   clear hz hb2 hN1 hb1
   have hrz : w.heap.size < w0.heap.size := r1.2.2.2.2
   obtain ⟨e0, e1, f0, f1, hrl⟩ := r1.ext HB.out
   clear r1
   go_wp2_with fail
   refine bodyPost_ret (v := .agg #[.bool b', .slice A' n' c']) (by simp [results, Tryz.results134, go_sem, e0, e1]) rfl ?_
   exact ⟨_, _, _, _, rfl, retZ_fill (Nat.le_refl _) hrz HZ.out (ET hE0 (ET hE1 HB.out)) _ _⟩
end Go.Proofs.YtjinpfnefeiooaaGreat
