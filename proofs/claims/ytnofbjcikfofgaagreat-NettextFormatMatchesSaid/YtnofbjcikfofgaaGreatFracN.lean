/- Contracts of frac.Add, Sub, Mul. Printed by gen_fop.py. Contracts of frac.Canonical, Cmp, Equal, Min, Neg, New. Printed by gen_fcmp.py. Contracts of frac.Equal, Min, Neg, New. Printed by gen_fmin.py. Contracts of whole.IsCanonical and frac.IsCanonical: what is canonical passes. -/
import Derived.Test.YtnofbjcikfofgaaGreatFracO
import Derived.Test.YtnofbjcikfofgaaGreatZOps
namespace Go.Proofs.YtnofbjcikfofgaaGreat
open Go.RowKit

theorem prod_abs (x y : Int) (h1 : -2147483648 < x) (h2 : x < 2147483648) (h3 : -2147483648 < y) (h4 : y < 2147483648) : (x * y).natAbs ≤ 4611686014132420609 := by
  rw [Int.natAbs_mul]
  exact Nat.mul_le_mul (show x.natAbs ≤ 2147483647 by omega) (show y.natAbs ≤ 2147483647 by omega)
theorem prod_le (x y : Int) (h1 : -2147483648 < x) (h2 : x < 2147483648) (h3 : -2147483648 < y) (h4 : y < 2147483648) : x * y ≤ 4611686014132420609 := by have := prod_abs x y h1 h2 h3 h4; omega
theorem prod_ge (x y : Int) (h1 : -2147483648 < x) (h2 : x < 2147483648) (h3 : -2147483648 < y) (h4 : y < 2147483648) : -4611686014132420609 ≤ x * y := by have := prod_abs x y h1 h2 h3 h4; omega

end Go.Proofs.YtnofbjcikfofgaaGreat

namespace Go.Proofs.YtnofbjcikfofgaaGreat
open Go.RowKit

theorem boxQ2 (w : World) (v0 v1 v2 v3 u0 u1 u2 u3 : Value) (t : TypeId) :
    Cell4 ((w.alloc (.cells #[v0, v1, v2, v3] t)).alloc (.cells #[u0, u1, u2, u3] t)) w.heap.size v0 v1 v2 v3 ∧
    Cell4 ((w.alloc (.cells #[v0, v1, v2, v3] t)).alloc (.cells #[u0, u1, u2, u3] t)) (w.heap.size + 1) u0 u1 u2 u3 ∧
    Ext w ((w.alloc (.cells #[v0, v1, v2, v3] t)).alloc (.cells #[u0, u1, u2, u3] t)) :=
  ⟨(Cell4.new w _ rfl v0 v1 v2 v3 t).ext (Ext.al Ext.rfl' _), Cell4.new _ _ (by simp) u0 u1 u2 u3 t, Ext.al (Ext.al Ext.rfl' _) _⟩
set_option maxRecDepth 100000 in
set_option maxHeartbeats 4000000 in
theorem qcan_any (s1 : Bool) (A1 : Option Addr) (n1 c1 : Nat) (t1 : Bool) (B1 : Option Addr) (m1 d1 : Nat) (q : Rat) (w : World) (h1 : QArg w s1 A1 n1 c1 t1 B1 m1 d1 q) :
    Calls Tryz.prog 58 #[.agg #[.bool s1, .slice A1 n1 c1, .bool t1, .slice B1 m1 d1]] w (RetQ w q) := by
  go_enter Tryz.func58, Tryz.ntmps58
  go_wp2_with fail
  obtain ⟨k1, k2, hE⟩ := boxQ2 w (.bool s1) (.slice A1 n1 c1) (.bool t1) (.slice B1 m1 d1) (.bool false) (.slice none 0 0) (.bool false) (.slice none 0 0) 51
  generalize (w.alloc (.cells #[.bool s1, .slice A1 n1 c1, .bool t1, .slice B1 m1 d1] 51)).alloc (.cells #[.bool false, .slice none 0 0, .bool false, .slice none 0 0] 51) = w1 at *
  refine (short_any s1 A1 n1 c1 t1 B1 m1 d1 q w1 (h1.1.ext hE)).mono ?_
  rintro e w2 ⟨N1, D1, x1, rfl, hs1, hE2⟩
  have K1 := Lib.hid (k1.ext hE2)
  have K2 := Lib.hid (k2.ext hE2)
  have HE := Lib.hid (Ext.trans hE hE2)
  have H1 := Lib.hid h1
  have HS1 := Lib.hid hs1
  clear k1 k2 hE hE2 h1 hs1
  have hl3 : w.heap.size + 1 < w2.heap.size := K2.out.2.2
  cases x1
  · obtain ⟨⟨g0, g1, g2, g3⟩, _, _⟩ := K1.out
    go_wp2_with fail
    refine (parts_any s1 A1 n1 c1 t1 B1 m1 d1 q w2 (H1.out.ext HE.out)).mono ?_
    rintro e w3 ⟨a1, X1, i1, j1, a2, X2, i2, j2, z1, y1, rfl, hz1, hy1, hp1, hq1, hi1, hi2, hE3⟩
    have HQ1 := Lib.hid hq1
    clear hq1
    go_wp2_with fail
    refine (reduce_any a1 X1 i1 j1 z1 a2 X2 i2 j2 y1 w3 hz1 hy1 (by omega) (by omega) hp1).mono ?_
    rintro e w4 ⟨s, A, n, c, t, B, m, d, rfl, hQ, hE4⟩
    rw [← HQ1.out] at hQ
    have hE9 := Ext.trans hE3 hE4
    have hs3 : w2.heap.size ≤ w3.heap.size := hE3.size
    clear hE3 hE4 hz1 hy1 g0 g1 g2 g3
    have HQ := Lib.hid hQ
    obtain ⟨⟨e0, e1, e2, e3⟩, ⟨f0, f1, f2, f3⟩, el⟩ := K2.out.ext hE9
    have HE9 := Lib.hid (Ext.trans HE.out hE9)
    clear hQ hE9
    go_wp2_with fail
    refine bodyPost_ret (v := .agg #[.bool s, .slice A n c, .bool t, .slice B m d]) (by simp [results, Tryz.results58, go_sem, e0, e1, e2, e3]) rfl ?_
    exact ⟨_, _, _, _, _, _, _, _, rfl, retQ_fill (by omega) (by omega) HQ.out HE9.out _ _ _ _⟩
  · obtain ⟨a1, a2, a3, a4, a5⟩ := HS1.out rfl
    have HA := Lib.hid a5
    clear a5 HS1
    go_wp2_with fail
    refine (ratio_any N1 D1 w2 (by omega) (by omega) (by omega) (by omega)).mono ?_
    rintro e w4 ⟨s, A, n, c, t, B, m, d, rfl, hQ, hE9⟩
    rw [← HA.out] at hQ
    have HQ := Lib.hid hQ
    obtain ⟨⟨e0, e1, e2, e3⟩, ⟨f0, f1, f2, f3⟩, el⟩ := K2.out.ext hE9
    have HE9 := Lib.hid (Ext.trans HE.out hE9)
    clear hQ hE9
    go_wp2_with fail
    refine bodyPost_ret (v := .agg #[.bool s, .slice A n c, .bool t, .slice B m d]) (by simp [results, Tryz.results58, go_sem, e0, e1, e2, e3]) rfl ?_
    exact ⟨_, _, _, _, _, _, _, _, rfl, retQ_fill (by omega) (by omega) HQ.out HE9.out _ _ _ _⟩

end Go.Proofs.YtnofbjcikfofgaaGreat

namespace Go.Proofs.YtnofbjcikfofgaaGreat
open Go.RowKit

theorem cmpQ_eq (p q : Rat) : (cmpQ p q == 0) = decide (p = q) := by
  unfold cmpQ
  by_cases h1 : p < q
  · rw [if_pos h1, decide_eq_false (Rat.ne_of_lt h1)]; rfl
  · rw [if_neg h1]
    by_cases h2 : q < p
    · rw [if_pos h2, decide_eq_false (Ne.symm (Rat.ne_of_lt h2))]; rfl
    · rw [if_neg h2, decide_eq_true (Rat.le_antisymm (Rat.not_lt.1 h2) (Rat.not_lt.1 h1))]; rfl
theorem cmpQ_neg (p q : Rat) : cmpQ p q < 0 ↔ p < q := by
  unfold cmpQ
  by_cases h1 : p < q
  · rw [if_pos h1]; simp [h1]
  · rw [if_neg h1]
    by_cases h2 : q < p
    · rw [if_pos h2]; simp [h1]
    · rw [if_neg h2]; simp [h1]
theorem cmpQ_pos (p q : Rat) : 0 < cmpQ p q ↔ q < p := by
  unfold cmpQ
  by_cases h1 : p < q
  · rw [if_pos h1]; simp; exact Rat.not_lt.2 (Rat.le_of_lt h1)
  · rw [if_neg h1]
    by_cases h2 : q < p
    · rw [if_pos h2]; simp [h2]
    · rw [if_neg h2]; simp [h2]
theorem i64_words {z : Int} {w0 : World} {B0 : Nat} {b : Bool} {A : Option Addr} {n c : Nat} (hz : I64r z) (hc : ZCan w0 B0 b A n c z) : n ≤ 2 := by
  refine words_bd hc ?_
  obtain ⟨h1, h2⟩ := hz
  rw [show 4294967296 ^ 2 = 18446744073709551616 by decide]
  omega
/-- The smaller one. -/
def minQ (p q : Rat) : Rat := if q < p then q else p
end Go.Proofs.YtnofbjcikfofgaaGreat

namespace Go.Proofs.YtnofbjcikfofgaaGreat
open Go.RowKit

set_option maxRecDepth 100000 in
set_option maxHeartbeats 2000000 in
theorem zisCan_any (b : Bool) (A : Option Addr) (n c : Nat) (z : Int) (B0 : Nat) (w : World) (h : ZCan w B0 b A n c z) :
    Calls Tryz.prog 103 #[.agg #[.bool b, .slice A n c]] w fun e w' => e = .returned (.bool true) ∧ Ext w w' := by
  obtain ⟨hb, hw, hnc, hcm, _⟩ := h
  rcases n with _ | p
  · have h0 : z = 0 := by
      have := wordsOf_eq_nil.1 hw.1
      omega
    have hbf : b = false := by rw [hb, h0]; rfl
    subst hbf
    clear hb hw hnc hcm h0
    go_enter Tryz.func103, Tryz.ntmps103
    go_wp2_with fail
    go_ret
    exact ⟨rfl, Ext.al Ext.rfl' _⟩
  · obtain ⟨bl, off, rfl, hlt, hcell⟩ := hw.2.2 (by omega)
    have hc := hcell p (by omega)
    have ht := top_pos hw.1
    generalize (wordsOf z.natAbs).getD p 0 = x at *
    have hx : ((x : Int) != 0) = true := by simp; omega
    have hn1 : p + 1 ≤ maxLen := by omega
    simp only [maxLen] at hn1
    have hp0 : (((p : Int) + 1) == 0) = false := by simp; omega
    clear hcell ht hw hb hcm
    go_enter Tryz.func103, Tryz.ntmps103
    go_wp2_with fail
    go_ret
    exact ⟨rfl, Ext.al Ext.rfl' _⟩
theorem cmpZ_one {k : Int} (h : 1 < k) : cmpZ k 1 = 1 := by unfold cmpZ; rw [if_neg (by omega), if_pos h]

set_option maxRecDepth 100000 in
set_option maxHeartbeats 4000000 in
theorem qisCan_any (s1 : Bool) (A1 : Option Addr) (n1 c1 : Nat) (t1 : Bool) (B1 : Option Addr) (m1 d1 : Nat) (q : Rat) (B0 : Nat) (w : World) (h : QCan w B0 s1 A1 n1 c1 t1 B1 m1 d1 q) (hn : n1 ≤ 33554432) (hm : m1 ≤ 33554432) :
    Calls Tryz.prog 95 #[.agg #[.bool s1, .slice A1 n1 c1, .bool t1, .slice B1 m1 d1]] w fun e w' => e = .returned (.bool true) ∧ Ext w w' := by
  have H := Lib.hid h
  clear h
  go_enter Tryz.func95, Tryz.ntmps95
  go_wp2_with fail
  have k0 := Cell4.new w _ rfl (.bool s1) (.slice A1 n1 c1) (.bool t1) (.slice B1 m1 d1) 51
  have hE : Ext w (w.alloc (.cells #[.bool s1, .slice A1 n1 c1, .bool t1, .slice B1 m1 d1] 51)) := Ext.al Ext.rfl' _
  generalize w.alloc (.cells #[.bool s1, .slice A1 n1 c1, .bool t1, .slice B1 m1 d1] 51) = w1 at *
  refine (zisCan_any s1 A1 n1 c1 _ B0 w1 (H.out.ext hE).1).mono ?_
  rintro e w2 ⟨rfl, hE2⟩
  have hE12 := Ext.trans hE hE2
  obtain ⟨⟨g0, g1, g2, g3⟩, _, hl⟩ := k0.ext hE2
  go_wp2_with fail
  refine (zisCan_any t1 B1 m1 d1 _ B0 w2 (H.out.ext hE12).2).mono ?_
  rintro e w3 ⟨rfl, hE3⟩
  have HE := Lib.hid (Ext.trans hE12 hE3)
  have K := Lib.hid ((k0.ext hE2).ext hE3)
  clear hE hE2 hE12 hE3 k0 g0 g1 g2 g3 hl
  obtain ⟨⟨g0, g1, g2, g3⟩, _, hl⟩ := K.out
  by_cases h0 : m1 = 0
  · subst h0
    go_wp2_with fail
    go_ret
    exact ⟨rfl, HE.out⟩
  · have hb : ((m1 : Int) == 0) = false := by simp; omega
    have hdn : q.den ≠ 1 := by
      intro e
      have hl := H.out.2.2.1.1
      unfold denOf at hl
      rw [if_pos e] at hl
      apply h0
      rw [← hl, show (0 : Int).natAbs = 0 from rfl, wordsOf_zero]
      rfl
    have HDE : Hid (denOf q = q.den) := by unfold Hid denOf; rw [if_neg hdn]
    have hd1 : (1 : Int) < q.den := by have := q.den_pos; omega
    have HC1 : Hid (cmpZ (denOf q) 1 = 1) := by unfold Hid; rw [HDE.out, cmpZ_one hd1]
    have HC2 : Hid (cmpZ (Int.gcd q.num (denOf q) : Nat) 1 = 0) := by
      unfold Hid
      rw [HDE.out]
      have : Int.gcd q.num q.den = 1 := q.reduced
      rw [this]
      rfl
    have HG1 : Hid (Int.gcd q.num (denOf q) = 1) := by unfold Hid; rw [HDE.out]; exact q.reduced
    clear hd1 hdn
    go_wp2_with fail
    refine (fromInt_any 1 w3 ⟨by omega, by omega⟩).mono ?_
    rintro e w4 ⟨b4, A4, n4, c4, rfl, hZ4, hE4⟩
    have hn4 : n4 ≤ 2 := i64_words ⟨by omega, by omega⟩ hZ4
    have K4 := Lib.hid (K.out.ext hE4)
    have hsz : w.heap.size < w4.heap.size := K4.out.2.2
    go_wp2_with fail
    have k5 := Cell2.new w4 _ rfl (.bool b4) (.slice A4 n4 c4) 49
    have hE5 : Ext w4 (w4.alloc (.cells #[.bool b4, .slice A4 n4 c4] 49)) := Ext.al Ext.rfl' _
    generalize w4.alloc (.cells #[.bool b4, .slice A4 n4 c4] 49) = w5 at *
    have hE6 : Ext w5 w5.drew := Ext.rfl'.drew
    refine wp_region_lex (C := InX w5.drew []) (by kernel_rfl) (by kernel_rfl) (inX_self _ _) ?_
    generalize w5.drew = wd at *
    have hE46 := Ext.trans hE5 hE6
    have L := Lib.hid (K4.out.ext hE46)
    have L5 := Lib.hid (k5.ext hE6)
    have HE6 := Lib.hid (Ext.trans HE.out (Ext.trans hE4 hE46))
    have HZ4 := Lib.hid (hZ4.ext hE46)
    clear hE4 hE5 hE6 hE46 K4 k5 HE hZ4 g0 g1 g2 g3 K hl
    have x0 := fun y : ExtX wd [] => y.cell (p := ⟨w.heap.size, 0, none⟩) L.out.1.1 (by simp)
    have x1 := fun y : ExtX wd [] => y.cell (p := ⟨w.heap.size, 1, none⟩) L.out.1.2.1 (by simp)
    have x2 := fun y : ExtX wd [] => y.cell (p := ⟨w.heap.size, 2, none⟩) L.out.1.2.2.1 (by simp)
    have x3 := fun y : ExtX wd [] => y.cell (p := ⟨w.heap.size, 3, none⟩) L.out.1.2.2.2 (by simp)
    have x4 := fun y : ExtX wd [] => y.cell (p := ⟨w4.heap.size, 0, none⟩) L5.out.1 (by simp)
    have x5 := fun y : ExtX wd [] => y.cell (p := ⟨w4.heap.size, 1, none⟩) L5.out.2.1 (by simp)
    repeat (refine wpLex_still (by rfl) ?_; go_big_quiet_step (fail); refine wpQuiet_nil ?_)
    refine wpLex_move (by rfl) (by rfl) ?_
    go_wp2_with fail
    refine (cmp_any t1 B1 m1 d1 (denOf q) b4 A4 n4 c4 1 wd (H.out.ext HE6.out).2.is HZ4.out.is (by omega) (by omega)).mono ?_
    rintro e w7 ⟨rfl, hE7⟩
    rw [HC1.out]
    go_wp2_with fail
    refine And.intro (inX_of_ext _ hE7) ?_
    repeat (refine wpLex_still (by rfl) ?_; go_big_quiet_step (fail); refine wpQuiet_nil ?_)
    refine wpLex_move (by rfl) (by rfl) ?_
    go_wp2_with fail
    refine (gcd_any s1 A1 n1 c1 q.num t1 B1 m1 d1 (denOf q) w7 ((H.out.ext HE6.out).ext hE7).1.is ((H.out.ext HE6.out).ext hE7).2.is (by omega) (by omega)).mono ?_
    rintro e w8 ⟨b8, A8, n8, c8, rfl, hZ8, hE8⟩
    have hn8 : n8 ≤ 2 := i64_words (by rw [HG1.out]; exact ⟨by omega, by omega⟩) hZ8
    have hE78 := Ext.trans hE7 hE8
    go_wp2_with fail
    refine And.intro (inX_of_ext _ hE78) ?_
    repeat (refine wpLex_still (by rfl) ?_; go_big_quiet_step (fail); refine wpQuiet_nil ?_)
    refine wpLex_move (by rfl) (by rfl) ?_
    go_wp2_with fail
    refine (cmp_any b8 A8 n8 c8 _ b4 A4 n4 c4 1 w8 hZ8.is (HZ4.out.ext hE78).is (by omega) (by omega)).mono ?_
    rintro e w9 ⟨rfl, hE9⟩
    rw [HC2.out]
    have hE79 := Ext.trans hE78 hE9
    go_wp2_with fail
    refine And.intro (inX_of_ext _ hE79) ?_
    repeat (refine wpLex_still (by rfl) ?_; go_big_quiet_step (fail); refine wpQuiet_nil ?_)
    refine wpLex_nil ?_
    go_wp2_with fail
    go_ret
    exact ⟨rfl, Ext.trans HE6.out hE79⟩
end Go.Proofs.YtnofbjcikfofgaaGreat
