/- Contracts of frac.Add, Sub, Mul. Printed by gen_fop.py. Contracts of frac.Canonical, Cmp, Equal, Min, Neg, New. Printed by gen_fcmp.py. Contracts of frac.Equal, Min, Neg, New. Printed by gen_fmin.py. Contracts of whole.IsCanonical and frac.IsCanonical: what is canonical passes. -/
import Derived.Test.YtppcpklnnbgcjaaFracO
import Derived.Test.YtppcpklnnbgcjaaZOps
namespace Go.Proofs.Ytppcpklnnbgcjaa
open Go.RowKit

theorem prod_abs (x y : Int) (h1 : -2147483648 < x) (h2 : x < 2147483648) (h3 : -2147483648 < y) (h4 : y < 2147483648) : (x * y).natAbs ≤ 4611686014132420609 := by
  rw [Int.natAbs_mul]
  exact Nat.mul_le_mul (show x.natAbs ≤ 2147483647 by omega) (show y.natAbs ≤ 2147483647 by omega)
theorem prod_le (x y : Int) (h1 : -2147483648 < x) (h2 : x < 2147483648) (h3 : -2147483648 < y) (h4 : y < 2147483648) : x * y ≤ 4611686014132420609 := by have := prod_abs x y h1 h2 h3 h4; omega
theorem prod_ge (x y : Int) (h1 : -2147483648 < x) (h2 : x < 2147483648) (h3 : -2147483648 < y) (h4 : y < 2147483648) : -4611686014132420609 ≤ x * y := by have := prod_abs x y h1 h2 h3 h4; omega

set_option maxRecDepth 100000 in
set_option maxHeartbeats 4000000 in
theorem qadd_any (s1 : Bool) (A1 : Option Addr) (n1 c1 : Nat) (t1 : Bool) (B1 : Option Addr) (m1 d1 : Nat) (p : Rat) (s2 : Bool) (A2 : Option Addr) (n2 c2 : Nat) (t2 : Bool) (B2 : Option Addr) (m2 d2 : Nat) (q : Rat) (w : World) (h1 : QArg w s1 A1 n1 c1 t1 B1 m1 d1 p) (h2 : QArg w s2 A2 n2 c2 t2 B2 m2 d2 q) :
    Calls Try.prog 23 #[.agg #[.bool s1, .slice A1 n1 c1, .bool t1, .slice B1 m1 d1], .agg #[.bool s2, .slice A2 n2 c2, .bool t2, .slice B2 m2 d2]] w (RetQ w (p + q)) := by
  go_enter Try.func23, Try.ntmps23
  go_wp2_with fail
  obtain ⟨k1, k2, k3, hE⟩ := boxQ3 w (.bool s1) (.slice A1 n1 c1) (.bool t1) (.slice B1 m1 d1) (.bool s2) (.slice A2 n2 c2) (.bool t2) (.slice B2 m2 d2) 33
  generalize ((w.alloc (.cells #[.bool s1, .slice A1 n1 c1, .bool t1, .slice B1 m1 d1] 33)).alloc (.cells #[.bool s2, .slice A2 n2 c2, .bool t2, .slice B2 m2 d2] 33)).alloc (.cells #[.bool false, .slice none 0 0, .bool false, .slice none 0 0] 33) = w1 at *
  refine (short_any s1 A1 n1 c1 t1 B1 m1 d1 p w1 (h1.1.ext hE)).mono ?_
  rintro e w2 ⟨N1, D1, x1, rfl, hs1, hE2⟩
  have K1 := Lib.hid (k1.ext hE2)
  have K2 := Lib.hid (k2.ext hE2)
  have K3 := Lib.hid (k3.ext hE2)
  have HE2 := Lib.hid (Ext.trans hE hE2)
  have H1 := Lib.hid h1
  have H2 := Lib.hid h2
  have HS1 := Lib.hid hs1
  clear k1 k2 k3 hE hE2 h1 h2 hs1
  obtain ⟨⟨g0, g1, g2, g3⟩, _, hl2⟩ := K2.out
  go_wp2_with fail
  refine (short_any s2 A2 n2 c2 t2 B2 m2 d2 q w2 (H2.out.1.ext HE2.out)).mono ?_
  rintro e w3 ⟨N2, D2, x2, rfl, hs2, hE3⟩
  have L1 := Lib.hid (K1.out.ext hE3)
  have L2 := Lib.hid (K2.out.ext hE3)
  have L3 := Lib.hid (K3.out.ext hE3)
  have HE3 := Lib.hid (Ext.trans HE2.out hE3)
  have HS2 := Lib.hid hs2
  clear hE3 hs2 K1 K2 K3 HE2 g0 g1 g2 g3
  have hl3 : w.heap.size + 1 + 1 < w3.heap.size := L3.out.2.2
  by_cases hx : x1 = true ∧ x2 = true
  · obtain ⟨rfl, rfl⟩ := hx
    obtain ⟨a1, a2, a3, a4, a5⟩ := HS1.out rfl
    obtain ⟨b1, b2, b3, b4, b5⟩ := HS2.out rfl
    have HA := Lib.hid a5
    have HB := Lib.hid b5
    clear a5 b5 HS1 HS2
    obtain ⟨P1, hP1⟩ : ∃ v, N1 * D2 = v := ⟨_, rfl⟩
    have hP11 : P1 ≤ 4611686014132420609 := by rw [← hP1]; exact prod_le N1 D2 (by omega) (by omega) (by omega) (by omega)
    have hP10 : -4611686014132420609 ≤ P1 := by rw [← hP1]; exact prod_ge N1 D2 (by omega) (by omega) (by omega) (by omega)
    obtain ⟨P2, hP2⟩ : ∃ v, N2 * D1 = v := ⟨_, rfl⟩
    have hP21 : P2 ≤ 4611686014132420609 := by rw [← hP2]; exact prod_le N2 D1 (by omega) (by omega) (by omega) (by omega)
    have hP20 : -4611686014132420609 ≤ P2 := by rw [← hP2]; exact prod_ge N2 D1 (by omega) (by omega) (by omega) (by omega)
    obtain ⟨P3, hP3⟩ : ∃ v, D1 * D2 = v := ⟨_, rfl⟩
    have hP30 : 0 < P3 := by rw [← hP3]; exact Int.mul_pos (by omega) (by omega)
    have hP31 : P3 ≤ 4611686014132420609 := by rw [← hP3]; exact prod_le D1 D2 (by omega) (by omega) (by omega) (by omega)
    have HR : Hid (p + q = Rat.divInt (P1 + P2) P3) := by unfold Hid; rw [HA.out, HB.out, divInt_add' _ _ a1 b1, hP1, hP2, hP3]
    clear HA HB
    go_wp2_with fail
    refine (ratio_any (P1 + P2) P3 w3 (by omega) (by omega) (by omega) (by omega)).mono ?_
    rintro e w4 ⟨s, A, n, c, t, B, m, d, rfl, hQ, hE4⟩
    rw [← HR.out] at hQ
    have HQ := Lib.hid hQ
    obtain ⟨⟨e0, e1, e2, e3⟩, ⟨f0, f1, f2, f3⟩, el⟩ := L3.out.ext hE4
    have HE4 := Lib.hid (Ext.trans HE3.out hE4)
    clear hQ hE4
    go_wp2_with fail
    refine bodyPost_ret (v := .agg #[.bool s, .slice A n c, .bool t, .slice B m d]) (by simp [results, Try.results23, go_sem, e0, e1, e2, e3]) rfl ?_
    exact ⟨_, _, _, _, _, _, _, _, rfl, retQ_fill (by omega) (by omega) HQ.out HE4.out _ _ _ _⟩
  · have hb : x1 = false ∨ (x1 = true ∧ x2 = false) := by cases x1 <;> cases x2 <;> simp_all
    clear hx HS1 HS2
    obtain ⟨⟨g0, g1, g2, g3⟩, _, _⟩ := L1.out
    obtain ⟨⟨i0, i1, i2, i3⟩, _, _⟩ := L2.out
    rcases hb with rfl | ⟨rfl, rfl⟩
    all_goals
      go_wp2_with fail
      refine (calc_add s1 A1 n1 c1 t1 B1 m1 d1 p s2 A2 n2 c2 t2 B2 m2 d2 q w3 (H1.out.ext HE3.out) (H2.out.ext HE3.out)).mono ?_
      rintro e w4 ⟨s, A, n, c, t, B, m, d, rfl, hQ, hE4⟩
      have HQ := Lib.hid hQ
      obtain ⟨⟨e0, e1, e2, e3⟩, ⟨f0, f1, f2, f3⟩, el⟩ := L3.out.ext hE4
      have HE4 := Lib.hid (Ext.trans HE3.out hE4)
      clear hQ hE4
      go_wp2_with fail
      refine bodyPost_ret (v := .agg #[.bool s, .slice A n c, .bool t, .slice B m d]) (by simp [results, Try.results23, go_sem, e0, e1, e2, e3]) rfl ?_
      exact ⟨_, _, _, _, _, _, _, _, rfl, retQ_fill (by omega) (by omega) HQ.out HE4.out _ _ _ _⟩
set_option maxRecDepth 100000 in
set_option maxHeartbeats 4000000 in
theorem qsub_any (s1 : Bool) (A1 : Option Addr) (n1 c1 : Nat) (t1 : Bool) (B1 : Option Addr) (m1 d1 : Nat) (p : Rat) (s2 : Bool) (A2 : Option Addr) (n2 c2 : Nat) (t2 : Bool) (B2 : Option Addr) (m2 d2 : Nat) (q : Rat) (w : World) (h1 : QArg w s1 A1 n1 c1 t1 B1 m1 d1 p) (h2 : QArg w s2 A2 n2 c2 t2 B2 m2 d2 q) :
    Calls Try.prog 56 #[.agg #[.bool s1, .slice A1 n1 c1, .bool t1, .slice B1 m1 d1], .agg #[.bool s2, .slice A2 n2 c2, .bool t2, .slice B2 m2 d2]] w (RetQ w (p - q)) := by
  go_enter Try.func56, Try.ntmps56
  go_wp2_with fail
  obtain ⟨k1, k2, k3, hE⟩ := boxQ3 w (.bool s1) (.slice A1 n1 c1) (.bool t1) (.slice B1 m1 d1) (.bool s2) (.slice A2 n2 c2) (.bool t2) (.slice B2 m2 d2) 33
  generalize ((w.alloc (.cells #[.bool s1, .slice A1 n1 c1, .bool t1, .slice B1 m1 d1] 33)).alloc (.cells #[.bool s2, .slice A2 n2 c2, .bool t2, .slice B2 m2 d2] 33)).alloc (.cells #[.bool false, .slice none 0 0, .bool false, .slice none 0 0] 33) = w1 at *
  refine (short_any s1 A1 n1 c1 t1 B1 m1 d1 p w1 (h1.1.ext hE)).mono ?_
  rintro e w2 ⟨N1, D1, x1, rfl, hs1, hE2⟩
  have K1 := Lib.hid (k1.ext hE2)
  have K2 := Lib.hid (k2.ext hE2)
  have K3 := Lib.hid (k3.ext hE2)
  have HE2 := Lib.hid (Ext.trans hE hE2)
  have H1 := Lib.hid h1
  have H2 := Lib.hid h2
  have HS1 := Lib.hid hs1
  clear k1 k2 k3 hE hE2 h1 h2 hs1
  obtain ⟨⟨g0, g1, g2, g3⟩, _, hl2⟩ := K2.out
  go_wp2_with fail
  refine (short_any s2 A2 n2 c2 t2 B2 m2 d2 q w2 (H2.out.1.ext HE2.out)).mono ?_
  rintro e w3 ⟨N2, D2, x2, rfl, hs2, hE3⟩
  have L1 := Lib.hid (K1.out.ext hE3)
  have L2 := Lib.hid (K2.out.ext hE3)
  have L3 := Lib.hid (K3.out.ext hE3)
  have HE3 := Lib.hid (Ext.trans HE2.out hE3)
  have HS2 := Lib.hid hs2
  clear hE3 hs2 K1 K2 K3 HE2 g0 g1 g2 g3
  have hl3 : w.heap.size + 1 + 1 < w3.heap.size := L3.out.2.2
  by_cases hx : x1 = true ∧ x2 = true
  · obtain ⟨rfl, rfl⟩ := hx
    obtain ⟨a1, a2, a3, a4, a5⟩ := HS1.out rfl
    obtain ⟨b1, b2, b3, b4, b5⟩ := HS2.out rfl
    have HA := Lib.hid a5
    have HB := Lib.hid b5
    clear a5 b5 HS1 HS2
    obtain ⟨P1, hP1⟩ : ∃ v, N1 * D2 = v := ⟨_, rfl⟩
    have hP11 : P1 ≤ 4611686014132420609 := by rw [← hP1]; exact prod_le N1 D2 (by omega) (by omega) (by omega) (by omega)
    have hP10 : -4611686014132420609 ≤ P1 := by rw [← hP1]; exact prod_ge N1 D2 (by omega) (by omega) (by omega) (by omega)
    obtain ⟨P2, hP2⟩ : ∃ v, N2 * D1 = v := ⟨_, rfl⟩
    have hP21 : P2 ≤ 4611686014132420609 := by rw [← hP2]; exact prod_le N2 D1 (by omega) (by omega) (by omega) (by omega)
    have hP20 : -4611686014132420609 ≤ P2 := by rw [← hP2]; exact prod_ge N2 D1 (by omega) (by omega) (by omega) (by omega)
    obtain ⟨P3, hP3⟩ : ∃ v, D1 * D2 = v := ⟨_, rfl⟩
    have hP30 : 0 < P3 := by rw [← hP3]; exact Int.mul_pos (by omega) (by omega)
    have hP31 : P3 ≤ 4611686014132420609 := by rw [← hP3]; exact prod_le D1 D2 (by omega) (by omega) (by omega) (by omega)
    have HR : Hid (p - q = Rat.divInt (P1 - P2) P3) := by unfold Hid; rw [HA.out, HB.out, divInt_sub' _ _ a1 b1, hP1, hP2, hP3]
    clear HA HB
    go_wp2_with fail
    refine (ratio_any (P1 - P2) P3 w3 (by omega) (by omega) (by omega) (by omega)).mono ?_
    rintro e w4 ⟨s, A, n, c, t, B, m, d, rfl, hQ, hE4⟩
    rw [← HR.out] at hQ
    have HQ := Lib.hid hQ
    obtain ⟨⟨e0, e1, e2, e3⟩, ⟨f0, f1, f2, f3⟩, el⟩ := L3.out.ext hE4
    have HE4 := Lib.hid (Ext.trans HE3.out hE4)
    clear hQ hE4
    go_wp2_with fail
    refine bodyPost_ret (v := .agg #[.bool s, .slice A n c, .bool t, .slice B m d]) (by simp [results, Try.results56, go_sem, e0, e1, e2, e3]) rfl ?_
    exact ⟨_, _, _, _, _, _, _, _, rfl, retQ_fill (by omega) (by omega) HQ.out HE4.out _ _ _ _⟩
  · have hb : x1 = false ∨ (x1 = true ∧ x2 = false) := by cases x1 <;> cases x2 <;> simp_all
    clear hx HS1 HS2
    obtain ⟨⟨g0, g1, g2, g3⟩, _, _⟩ := L1.out
    obtain ⟨⟨i0, i1, i2, i3⟩, _, _⟩ := L2.out
    rcases hb with rfl | ⟨rfl, rfl⟩
    all_goals
      go_wp2_with fail
      refine (calc_sub s1 A1 n1 c1 t1 B1 m1 d1 p s2 A2 n2 c2 t2 B2 m2 d2 q w3 (H1.out.ext HE3.out) (H2.out.ext HE3.out)).mono ?_
      rintro e w4 ⟨s, A, n, c, t, B, m, d, rfl, hQ, hE4⟩
      have HQ := Lib.hid hQ
      obtain ⟨⟨e0, e1, e2, e3⟩, ⟨f0, f1, f2, f3⟩, el⟩ := L3.out.ext hE4
      have HE4 := Lib.hid (Ext.trans HE3.out hE4)
      clear hQ hE4
      go_wp2_with fail
      refine bodyPost_ret (v := .agg #[.bool s, .slice A n c, .bool t, .slice B m d]) (by simp [results, Try.results56, go_sem, e0, e1, e2, e3]) rfl ?_
      exact ⟨_, _, _, _, _, _, _, _, rfl, retQ_fill (by omega) (by omega) HQ.out HE4.out _ _ _ _⟩
set_option maxRecDepth 100000 in
set_option maxHeartbeats 4000000 in
theorem qmul_any (s1 : Bool) (A1 : Option Addr) (n1 c1 : Nat) (t1 : Bool) (B1 : Option Addr) (m1 d1 : Nat) (p : Rat) (s2 : Bool) (A2 : Option Addr) (n2 c2 : Nat) (t2 : Bool) (B2 : Option Addr) (m2 d2 : Nat) (q : Rat) (w : World) (h1 : QArg w s1 A1 n1 c1 t1 B1 m1 d1 p) (h2 : QArg w s2 A2 n2 c2 t2 B2 m2 d2 q) :
    Calls Try.prog 22 #[.agg #[.bool s1, .slice A1 n1 c1, .bool t1, .slice B1 m1 d1], .agg #[.bool s2, .slice A2 n2 c2, .bool t2, .slice B2 m2 d2]] w (RetQ w (p * q)) := by
  go_enter Try.func22, Try.ntmps22
  go_wp2_with fail
  obtain ⟨k1, k2, k3, hE⟩ := boxQ3 w (.bool s1) (.slice A1 n1 c1) (.bool t1) (.slice B1 m1 d1) (.bool s2) (.slice A2 n2 c2) (.bool t2) (.slice B2 m2 d2) 33
  generalize ((w.alloc (.cells #[.bool s1, .slice A1 n1 c1, .bool t1, .slice B1 m1 d1] 33)).alloc (.cells #[.bool s2, .slice A2 n2 c2, .bool t2, .slice B2 m2 d2] 33)).alloc (.cells #[.bool false, .slice none 0 0, .bool false, .slice none 0 0] 33) = w1 at *
  refine (short_any s1 A1 n1 c1 t1 B1 m1 d1 p w1 (h1.1.ext hE)).mono ?_
  rintro e w2 ⟨N1, D1, x1, rfl, hs1, hE2⟩
  have K1 := Lib.hid (k1.ext hE2)
  have K2 := Lib.hid (k2.ext hE2)
  have K3 := Lib.hid (k3.ext hE2)
  have HE2 := Lib.hid (Ext.trans hE hE2)
  have H1 := Lib.hid h1
  have H2 := Lib.hid h2
  have HS1 := Lib.hid hs1
  clear k1 k2 k3 hE hE2 h1 h2 hs1
  obtain ⟨⟨g0, g1, g2, g3⟩, _, hl2⟩ := K2.out
  go_wp2_with fail
  refine (short_any s2 A2 n2 c2 t2 B2 m2 d2 q w2 (H2.out.1.ext HE2.out)).mono ?_
  rintro e w3 ⟨N2, D2, x2, rfl, hs2, hE3⟩
  have L1 := Lib.hid (K1.out.ext hE3)
  have L2 := Lib.hid (K2.out.ext hE3)
  have L3 := Lib.hid (K3.out.ext hE3)
  have HE3 := Lib.hid (Ext.trans HE2.out hE3)
  have HS2 := Lib.hid hs2
  clear hE3 hs2 K1 K2 K3 HE2 g0 g1 g2 g3
  have hl3 : w.heap.size + 1 + 1 < w3.heap.size := L3.out.2.2
  by_cases hx : x1 = true ∧ x2 = true
  · obtain ⟨rfl, rfl⟩ := hx
    obtain ⟨a1, a2, a3, a4, a5⟩ := HS1.out rfl
    obtain ⟨b1, b2, b3, b4, b5⟩ := HS2.out rfl
    have HA := Lib.hid a5
    have HB := Lib.hid b5
    clear a5 b5 HS1 HS2
    obtain ⟨P1, hP1⟩ : ∃ v, N1 * N2 = v := ⟨_, rfl⟩
    have hP11 : P1 ≤ 4611686014132420609 := by rw [← hP1]; exact prod_le N1 N2 (by omega) (by omega) (by omega) (by omega)
    have hP10 : -4611686014132420609 ≤ P1 := by rw [← hP1]; exact prod_ge N1 N2 (by omega) (by omega) (by omega) (by omega)
    obtain ⟨P3, hP3⟩ : ∃ v, D1 * D2 = v := ⟨_, rfl⟩
    have hP30 : 0 < P3 := by rw [← hP3]; exact Int.mul_pos (by omega) (by omega)
    have hP31 : P3 ≤ 4611686014132420609 := by rw [← hP3]; exact prod_le D1 D2 (by omega) (by omega) (by omega) (by omega)
    have HR : Hid (p * q = Rat.divInt (P1) P3) := by unfold Hid; rw [HA.out, HB.out, Rat.divInt_mul_divInt, hP1, hP3]
    clear HA HB
    go_wp2_with fail
    refine (ratio_any (P1) P3 w3 (by omega) (by omega) (by omega) (by omega)).mono ?_
    rintro e w4 ⟨s, A, n, c, t, B, m, d, rfl, hQ, hE4⟩
    rw [← HR.out] at hQ
    have HQ := Lib.hid hQ
    obtain ⟨⟨e0, e1, e2, e3⟩, ⟨f0, f1, f2, f3⟩, el⟩ := L3.out.ext hE4
    have HE4 := Lib.hid (Ext.trans HE3.out hE4)
    clear hQ hE4
    go_wp2_with fail
    refine bodyPost_ret (v := .agg #[.bool s, .slice A n c, .bool t, .slice B m d]) (by simp [results, Try.results22, go_sem, e0, e1, e2, e3]) rfl ?_
    exact ⟨_, _, _, _, _, _, _, _, rfl, retQ_fill (by omega) (by omega) HQ.out HE4.out _ _ _ _⟩
  · have hb : x1 = false ∨ (x1 = true ∧ x2 = false) := by cases x1 <;> cases x2 <;> simp_all
    clear hx HS1 HS2
    obtain ⟨⟨g0, g1, g2, g3⟩, _, _⟩ := L1.out
    obtain ⟨⟨i0, i1, i2, i3⟩, _, _⟩ := L2.out
    rcases hb with rfl | ⟨rfl, rfl⟩
    all_goals
      go_wp2_with fail
      refine (calc_mul s1 A1 n1 c1 t1 B1 m1 d1 p s2 A2 n2 c2 t2 B2 m2 d2 q w3 (H1.out.ext HE3.out) (H2.out.ext HE3.out)).mono ?_
      rintro e w4 ⟨s, A, n, c, t, B, m, d, rfl, hQ, hE4⟩
      have HQ := Lib.hid hQ
      obtain ⟨⟨e0, e1, e2, e3⟩, ⟨f0, f1, f2, f3⟩, el⟩ := L3.out.ext hE4
      have HE4 := Lib.hid (Ext.trans HE3.out hE4)
      clear hQ hE4
      go_wp2_with fail
      refine bodyPost_ret (v := .agg #[.bool s, .slice A n c, .bool t, .slice B m d]) (by simp [results, Try.results22, go_sem, e0, e1, e2, e3]) rfl ?_
      exact ⟨_, _, _, _, _, _, _, _, rfl, retQ_fill (by omega) (by omega) HQ.out HE4.out _ _ _ _⟩
end Go.Proofs.Ytppcpklnnbgcjaa

namespace Go.Proofs.Ytppcpklnnbgcjaa
open Go.RowKit

theorem boxQ2 (w : World) (v0 v1 v2 v3 u0 u1 u2 u3 : Value) (t : TypeId) :
    Cell4 ((w.alloc (.cells #[v0, v1, v2, v3] t)).alloc (.cells #[u0, u1, u2, u3] t)) w.heap.size v0 v1 v2 v3 ∧
    Cell4 ((w.alloc (.cells #[v0, v1, v2, v3] t)).alloc (.cells #[u0, u1, u2, u3] t)) (w.heap.size + 1) u0 u1 u2 u3 ∧
    Ext w ((w.alloc (.cells #[v0, v1, v2, v3] t)).alloc (.cells #[u0, u1, u2, u3] t)) :=
  ⟨(Cell4.new w _ rfl v0 v1 v2 v3 t).ext (Ext.al Ext.rfl' _), Cell4.new _ _ (by simp) u0 u1 u2 u3 t, Ext.al (Ext.al Ext.rfl' _) _⟩
set_option maxRecDepth 100000 in
set_option maxHeartbeats 4000000 in
theorem qcan_any (s1 : Bool) (A1 : Option Addr) (n1 c1 : Nat) (t1 : Bool) (B1 : Option Addr) (m1 d1 : Nat) (q : Rat) (w : World) (h1 : QArg w s1 A1 n1 c1 t1 B1 m1 d1 q) :
    Calls Try.prog 59 #[.agg #[.bool s1, .slice A1 n1 c1, .bool t1, .slice B1 m1 d1]] w (RetQ w q) := by
  go_enter Try.func59, Try.ntmps59
  go_wp2_with fail
  obtain ⟨k1, k2, hE⟩ := boxQ2 w (.bool s1) (.slice A1 n1 c1) (.bool t1) (.slice B1 m1 d1) (.bool false) (.slice none 0 0) (.bool false) (.slice none 0 0) 33
  generalize (w.alloc (.cells #[.bool s1, .slice A1 n1 c1, .bool t1, .slice B1 m1 d1] 33)).alloc (.cells #[.bool false, .slice none 0 0, .bool false, .slice none 0 0] 33) = w1 at *
  refine (short_any s1 A1 n1 c1 t1 B1 m1 d1 q w1 (h1.1.ext hE)).mono ?_
  rintro e w2 ⟨N1, D1, x1, rfl, hs1, hE2⟩
  have K1 := Lib.hid (k1.ext hE2)
  have K2 := Lib.hid (k2.ext hE2)
  have HE := Lib.hid (Ext.trans hE hE2)
  have H1 := Lib.hid h1
  have HS1 := Lib.hid hs1
  clear k1 k2 hE hE2 h1 hs1
  have hl3 : w.heap.size + 1 < w2.heap.size := K2.out.2.2
  cases x1
  · obtain ⟨⟨g0, g1, g2, g3⟩, _, _⟩ := K1.out
    go_wp2_with fail
    refine (parts_any s1 A1 n1 c1 t1 B1 m1 d1 q w2 (H1.out.ext HE.out)).mono ?_
    rintro e w3 ⟨a1, X1, i1, j1, a2, X2, i2, j2, z1, y1, rfl, hz1, hy1, hp1, hq1, hi1, hi2, hE3⟩
    have HQ1 := Lib.hid hq1
    clear hq1
    go_wp2_with fail
    refine (reduce_any a1 X1 i1 j1 z1 a2 X2 i2 j2 y1 w3 hz1 hy1 (by omega) (by omega) hp1).mono ?_
    rintro e w4 ⟨s, A, n, c, t, B, m, d, rfl, hQ, hE4⟩
    rw [← HQ1.out] at hQ
    have hE9 := Ext.trans hE3 hE4
    have hs3 : w2.heap.size ≤ w3.heap.size := hE3.size
    clear hE3 hE4 hz1 hy1 g0 g1 g2 g3
    have HQ := Lib.hid hQ
    obtain ⟨⟨e0, e1, e2, e3⟩, ⟨f0, f1, f2, f3⟩, el⟩ := K2.out.ext hE9
    have HE9 := Lib.hid (Ext.trans HE.out hE9)
    clear hQ hE9
    go_wp2_with fail
    refine bodyPost_ret (v := .agg #[.bool s, .slice A n c, .bool t, .slice B m d]) (by simp [results, Try.results59, go_sem, e0, e1, e2, e3]) rfl ?_
    exact ⟨_, _, _, _, _, _, _, _, rfl, retQ_fill (by omega) (by omega) HQ.out HE9.out _ _ _ _⟩
  · obtain ⟨a1, a2, a3, a4, a5⟩ := HS1.out rfl
    have HA := Lib.hid a5
    clear a5 HS1
    go_wp2_with fail
    refine (ratio_any N1 D1 w2 (by omega) (by omega) (by omega) (by omega)).mono ?_
    rintro e w4 ⟨s, A, n, c, t, B, m, d, rfl, hQ, hE9⟩
    rw [← HA.out] at hQ
    have HQ := Lib.hid hQ
    obtain ⟨⟨e0, e1, e2, e3⟩, ⟨f0, f1, f2, f3⟩, el⟩ := K2.out.ext hE9
    have HE9 := Lib.hid (Ext.trans HE.out hE9)
    clear hQ hE9
    go_wp2_with fail
    refine bodyPost_ret (v := .agg #[.bool s, .slice A n c, .bool t, .slice B m d]) (by simp [results, Try.results59, go_sem, e0, e1, e2, e3]) rfl ?_
    exact ⟨_, _, _, _, _, _, _, _, rfl, retQ_fill (by omega) (by omega) HQ.out HE9.out _ _ _ _⟩

set_option maxRecDepth 100000 in
set_option maxHeartbeats 4000000 in
theorem fsign_any (z : Int) (w : World) : Calls Try.prog 43 #[.int .i64 z] w fun e w' => e = .returned (.int .i64 z.sign) ∧ Ext w w' := by
  rcases sign3 z with ⟨h, hs⟩ | ⟨h, hs⟩ | ⟨h, hs⟩
  · have hb : decide (z < 0) = true := decide_eq_true h
    have HS := Lib.hid hs
    clear hs
    go_enter Try.func43, Try.ntmps43
    go_wp2_with fail
    go_ret
    exact ⟨ret_i64 HS.out.symm, Ext.rfl'⟩
  · subst h
    go_enter Try.func43, Try.ntmps43
    go_wp2_with fail
    go_ret
    exact ⟨ret_i64 hs.symm, Ext.rfl'⟩
  · have hb : decide (z < 0) = false := decide_eq_false (by omega)
    have hb2 : decide (0 < z) = true := decide_eq_true h
    have HS := Lib.hid hs
    clear hs
    go_enter Try.func43, Try.ntmps43
    go_wp2_with fail
    go_ret
    exact ⟨ret_i64 HS.out.symm, Ext.rfl'⟩

set_option maxRecDepth 100000 in
set_option maxHeartbeats 4000000 in
theorem qcmp_any (s1 : Bool) (A1 : Option Addr) (n1 c1 : Nat) (t1 : Bool) (B1 : Option Addr) (m1 d1 : Nat) (p : Rat) (s2 : Bool) (A2 : Option Addr) (n2 c2 : Nat) (t2 : Bool) (B2 : Option Addr) (m2 d2 : Nat) (q : Rat) (w : World) (h1 : QArg w s1 A1 n1 c1 t1 B1 m1 d1 p) (h2 : QArg w s2 A2 n2 c2 t2 B2 m2 d2 q) :
    Calls Try.prog 16 #[.agg #[.bool s1, .slice A1 n1 c1, .bool t1, .slice B1 m1 d1], .agg #[.bool s2, .slice A2 n2 c2, .bool t2, .slice B2 m2 d2]] w fun e w' => e = .returned (.int .i64 (cmpQ p q)) ∧ Ext w w' := by
  go_enter Try.func16, Try.ntmps16
  go_wp2_with fail
  obtain ⟨k1, k2, hE⟩ := boxQ2 w (.bool s1) (.slice A1 n1 c1) (.bool t1) (.slice B1 m1 d1) (.bool s2) (.slice A2 n2 c2) (.bool t2) (.slice B2 m2 d2) 33
  generalize (w.alloc (.cells #[.bool s1, .slice A1 n1 c1, .bool t1, .slice B1 m1 d1] 33)).alloc (.cells #[.bool s2, .slice A2 n2 c2, .bool t2, .slice B2 m2 d2] 33) = w1 at *
  refine (parts_any s1 A1 n1 c1 t1 B1 m1 d1 p w1 (h1.ext hE)).mono ?_
  rintro e w2 ⟨a1, X1, i1, j1, a2, X2, i2, j2, z1, y1, rfl, hz1, hy1, hp1, hq1, hi1, hi2, hE2⟩
  have K2 := Lib.hid (k2.ext hE2)
  have HE2 := Lib.hid (Ext.trans hE hE2)
  have H2 := Lib.hid h2
  have HZ1 := Lib.hid hz1
  have HY1 := Lib.hid hy1
  have HQ1 := Lib.hid hq1
  clear k1 k2 hE hE2 h1 h2 hz1 hy1 hq1
  obtain ⟨⟨g0, g1, g2, g3⟩, _, hl2⟩ := K2.out
  have hl4 : w.heap.size < w2.heap.size := by omega
  go_wp2_with fail
  obtain ⟨c7, c8, hE3⟩ := two2 w2 (.bool a1) (.slice X1 i1 j1) (.bool a2) (.slice X2 i2 j2) 31
  generalize ((w2.alloc (.cells #[.bool a1, .slice X1 i1 j1] 31)).alloc (.cells #[.bool a2, .slice X2 i2 j2] 31)) = w3 at *
  refine (parts_any s2 A2 n2 c2 t2 B2 m2 d2 q w3 (H2.out.ext (Ext.trans HE2.out hE3))).mono ?_
  rintro e w4 ⟨b1, Y1, u1, v1, b2, Y2, u2, v2, z2, y2, rfl, hz2, hy2, hp2, hq2, hu1, hu2, hE4⟩
  have hE34 := Ext.trans hE3 hE4
  have C7 := Lib.hid (c7.ext hE4)
  have C8 := Lib.hid (c8.ext hE4)
  have HE4 := Lib.hid (Ext.trans HE2.out hE34)
  have HZ1' := Lib.hid (HZ1.out.ext hE34)
  have HY1' := Lib.hid (HY1.out.ext hE34)
  have HZ2 := Lib.hid hz2
  have HY2 := Lib.hid hy2
  have HQ2 := Lib.hid hq2
  have hl7 : w2.heap.size + 1 < w4.heap.size := C8.out.2.2.2.2
  clear c7 c8 hE3 hE4 hE34 hz2 hy2 hq2 HZ1 HY1 K2 g0 g1 g2 g3 HE2 H2
  go_wp2_with fail
  obtain ⟨c9, c10, hE5⟩ := two2 w4 (.bool b1) (.slice Y1 u1 v1) (.bool b2) (.slice Y2 u2 v2) 31
  generalize ((w4.alloc (.cells #[.bool b1, .slice Y1 u1 v1] 31)).alloc (.cells #[.bool b2, .slice Y2 u2 v2] 31)) = w5 at *
  have D7 := Lib.hid ((C7.out.ext hE5).ext (Ext.rfl' (w := w5)).drew)
  have D8 := Lib.hid ((C8.out.ext hE5).ext (Ext.rfl' (w := w5)).drew)
  have D9 := Lib.hid (c9.ext (Ext.rfl' (w := w5)).drew)
  have D10 := Lib.hid (c10.ext (Ext.rfl' (w := w5)).drew)
  have HE5 : Hid (Ext w w5.drew) := (Ext.trans HE4.out hE5).drew
  have G1 := Lib.hid ((HZ1'.out.ext hE5).ext (Ext.rfl' (w := w5)).drew)
  have G2 := Lib.hid ((HY1'.out.ext hE5).ext (Ext.rfl' (w := w5)).drew)
  have G3 := Lib.hid ((HZ2.out.ext hE5).ext (Ext.rfl' (w := w5)).drew)
  have G4 := Lib.hid ((HY2.out.ext hE5).ext (Ext.rfl' (w := w5)).drew)
  clear c9 c10 hE5 C7 C8 HE4 HZ1' HY1' HZ2 HY2
  refine wp_region_lex (C := InX w5.drew []) (by kernel_rfl) (by kernel_rfl) (inX_self _ _) ?_
  generalize w5.drew = wd at *
  have x0 := fun y : ExtX wd [] => y.cell (p := ⟨w2.heap.size, 0, none⟩) D7.out.1 (by simp)
  have x1 := fun y : ExtX wd [] => y.cell (p := ⟨w2.heap.size, 1, none⟩) D7.out.2.1 (by simp)
  have x2 := fun y : ExtX wd [] => y.cell (p := ⟨w4.heap.size, 0, none⟩) D9.out.1 (by simp)
  have x3 := fun y : ExtX wd [] => y.cell (p := ⟨w4.heap.size, 1, none⟩) D9.out.2.1 (by simp)
  repeat (refine wpLex_still (by rfl) ?_; go_big_quiet_step (exact ⟨rfl, rfl⟩); refine wpQuiet_nil ?_)
  refine wpLex_move (by rfl) (by rfl) ?_
  go_wp2_with fail
  refine (sign_any a1 X1 i1 j1 z1 wd G1.out).mono ?_
  rintro e w6 ⟨rfl, hE6⟩
  obtain ⟨σ1, hσ1⟩ : ∃ s, z1.sign = s := ⟨_, rfl⟩
  rw [hσ1]
  have HS1 := Lib.hid hσ1
  have hσ : -1 ≤ σ1 ∧ σ1 ≤ 1 := by rw [← hσ1]; rcases sign3 z1 with ⟨_, e⟩ | ⟨_, e⟩ | ⟨_, e⟩ <;> rw [e] <;> omega
  obtain ⟨hσa, hσb⟩ := hσ
  clear hσ1
  go_wp2_with fail
  refine And.intro (inX_of_ext _ hE6) ?_
  repeat (refine wpLex_still (by rfl) ?_; go_big_quiet_step (exact ⟨rfl, rfl⟩); refine wpQuiet_nil ?_)
  refine wpLex_move (by rfl) (by rfl) ?_
  go_wp2_with fail
  refine (sign_any b1 Y1 u1 v1 z2 w6 (G3.out.ext hE6)).mono ?_
  rintro e w7 ⟨rfl, hE7⟩
  obtain ⟨σ2, hσ2⟩ : ∃ s, z2.sign = s := ⟨_, rfl⟩
  rw [hσ2]
  have HS2 := Lib.hid hσ2
  have hτ : -1 ≤ σ2 ∧ σ2 ≤ 1 := by rw [← hσ2]; rcases sign3 z2 with ⟨_, e⟩ | ⟨_, e⟩ | ⟨_, e⟩ <;> rw [e] <;> omega
  obtain ⟨hτa, hτb⟩ := hτ
  clear hσ2
  have hE67 := Ext.trans hE6 hE7
  go_wp2_with fail
  refine And.intro (inX_of_ext _ hE67) ?_
  repeat (refine wpLex_still (by rfl) ?_; go_big_quiet_step (exact ⟨rfl, rfl⟩); refine wpQuiet_nil ?_)
  refine wpLex_nil ?_
  clear x0 x1 x2 x3
  have E7 := Lib.hid (D7.out.ext hE67)
  have E8 := Lib.hid (D8.out.ext hE67)
  have E9 := Lib.hid (D9.out.ext hE67)
  have E10 := Lib.hid (D10.out.ext hE67)
  have HE7 := Lib.hid (Ext.trans HE5.out hE67)
  have G1' := Lib.hid (G1.out.ext hE67)
  have G2' := Lib.hid (G2.out.ext hE67)
  have G3' := Lib.hid (G3.out.ext hE67)
  have G4' := Lib.hid (G4.out.ext hE67)
  clear D7 D8 D9 D10 HE5 G1 G2 G3 G4 hE6 hE7 hE67
  by_cases hd : σ1 ≠ σ2 ∨ σ1 = 0
  · have HR : Hid ((σ1 - σ2).sign = cmpQ p q) := by
      unfold Hid
      rw [HQ1.out, HQ2.out, cmpQ_signs hp1 hp2 (by rw [HS1.out, HS2.out]; exact hd), HS1.out, HS2.out]
    have hb : (σ1 != σ2) = true ∨ ((σ1 != σ2) = false ∧ (σ1 == 0) = true) := by
      by_cases e : σ1 = σ2
      · refine .inr ⟨by simp [e], ?_⟩
        rcases hd with hd | hd
        · exact absurd e hd
        · simp [hd]
      · exact .inl (by simp [e])
    clear hd HS1 HS2
    rcases hb with hb | ⟨hb, hb2⟩
    all_goals
      go_wp2_with fail
      refine (fsign_any _ w7).mono ?_
      rintro e w8 ⟨rfl, hE8⟩
      generalize hτ : (σ1 - σ2).sign = τ at *
      clear hτ
      have HE8 := Lib.hid (Ext.trans HE7.out hE8)
      clear hE8
      go_wp2_with fail
      go_ret
      exact ⟨ret_i64 HR.out, HE8.out⟩
  · have hb : (σ1 != σ2) = false := by
      by_cases e : σ1 = σ2
      · simp [e]
      · exact absurd (.inl e) hd
    have hb2 : (σ1 == 0) = false := by
      by_cases e : σ1 = 0
      · exact absurd (.inr e) hd
      · simp [e]
    have HR : Hid (cmpZ (z1 * y2) (z2 * y1) = cmpQ p q) := by
      unfold Hid
      rw [HQ1.out, HQ2.out, cmpQ_parts hp1 hp2]
      rfl
    clear hd HS1 HS2
    go_wp2_with fail
    refine wp_region_lex (C := InX w7.drew []) (by kernel_rfl) (by kernel_rfl) (inX_self _ _) ?_
    have hE8 : Ext w7 w7.drew := Ext.rfl'.drew
    generalize w7.drew = we at *
    have x0 := fun y : ExtX we [] => y.cell (p := ⟨w2.heap.size, 0, none⟩) (E7.out.ext hE8).1 (by simp)
    have x1 := fun y : ExtX we [] => y.cell (p := ⟨w2.heap.size, 1, none⟩) (E7.out.ext hE8).2.1 (by simp)
    have x2 := fun y : ExtX we [] => y.cell (p := ⟨w2.heap.size + 1, 0, none⟩) (E8.out.ext hE8).1 (by simp)
    have x3 := fun y : ExtX we [] => y.cell (p := ⟨w2.heap.size + 1, 1, none⟩) (E8.out.ext hE8).2.1 (by simp)
    have x4 := fun y : ExtX we [] => y.cell (p := ⟨w4.heap.size, 0, none⟩) (E9.out.ext hE8).1 (by simp)
    have x5 := fun y : ExtX we [] => y.cell (p := ⟨w4.heap.size, 1, none⟩) (E9.out.ext hE8).2.1 (by simp)
    have x6 := fun y : ExtX we [] => y.cell (p := ⟨w4.heap.size + 1, 0, none⟩) (E10.out.ext hE8).1 (by simp)
    have x7 := fun y : ExtX we [] => y.cell (p := ⟨w4.heap.size + 1, 1, none⟩) (E10.out.ext hE8).2.1 (by simp)
    repeat (refine wpLex_still (by rfl) ?_; go_big_quiet_step (exact ⟨rfl, rfl⟩); refine wpQuiet_nil ?_)
    refine wpLex_move (by rfl) (by rfl) ?_
    go_wp2_with fail
    refine (mul_any a1 X1 i1 j1 z1 b2 Y2 u2 v2 y2 we (G1'.out.ext hE8) (G4'.out.ext hE8) (by omega) (by omega)).mono ?_
    rintro e w9 ⟨r1, R1, k1, l1, rfl, hm1, hE9⟩
    have hk1 : k1 ≤ i1 + u2 := words_bd hm1 (natAbs_mul_lt (natAbs_ZIs G1'.out) (natAbs_ZIs G4'.out))
    have HM1 := Lib.hid hm1
    clear hm1
    go_wp2_with fail
    refine And.intro (inX_of_ext _ hE9) ?_
    repeat (refine wpLex_still (by rfl) ?_; go_big_quiet_step (exact ⟨rfl, rfl⟩); refine wpQuiet_nil ?_)
    refine wpLex_move (by rfl) (by rfl) ?_
    go_wp2_with fail
    refine (mul_any b1 Y1 u1 v1 z2 a2 X2 i2 j2 y1 w9 ((G3'.out.ext hE8).ext hE9) ((G2'.out.ext hE8).ext hE9) (by omega) (by omega)).mono ?_
    rintro e w10 ⟨r2, R2, k2, l2, rfl, hm2, hE10⟩
    have hk2 : k2 ≤ u1 + i2 := words_bd hm2 (natAbs_mul_lt (natAbs_ZIs G3'.out) (natAbs_ZIs G2'.out))
    have HM2 := Lib.hid hm2
    have hE910 := Ext.trans hE9 hE10
    clear hm2
    go_wp2_with fail
    refine And.intro (inX_of_ext _ hE910) ?_
    repeat (refine wpLex_still (by rfl) ?_; go_big_quiet_step (exact ⟨rfl, rfl⟩); refine wpQuiet_nil ?_)
    refine wpLex_move (by rfl) (by rfl) ?_
    go_wp2_with fail
    refine (cmp_any r1 R1 k1 l1 _ r2 R2 k2 l2 _ w10 (HM1.out.ext hE10).is HM2.out.is (by omega) (by omega)).mono ?_
    rintro e w11 ⟨rfl, hE11⟩
    rw [HR.out]
    have hE12 := Ext.trans hE910 hE11
    go_wp2_with fail
    refine And.intro (inX_of_ext _ hE12) ?_
    repeat (refine wpLex_still (by rfl) ?_; go_big_quiet_step (exact ⟨rfl, rfl⟩); refine wpQuiet_nil ?_)
    refine wpLex_nil ?_
    go_wp2_with fail
    go_ret
    exact ⟨rfl, Ext.trans HE7.out (Ext.trans hE8 hE12)⟩

end Go.Proofs.Ytppcpklnnbgcjaa

namespace Go.Proofs.Ytppcpklnnbgcjaa
open Go.RowKit

theorem cmpQ_eq (p q : Rat) : (cmpQ p q == 0) = decide (p = q) := by
  unfold cmpQ
  by_cases h1 : p < q
  · rw [if_pos h1, decide_eq_false (Rat.ne_of_lt h1)]; rfl
  · rw [if_neg h1]
    by_cases h2 : q < p
    · rw [if_pos h2, decide_eq_false (Ne.symm (Rat.ne_of_lt h2))]; rfl
    · rw [if_neg h2, decide_eq_true (Rat.le_antisymm (Rat.not_lt.1 h2) (Rat.not_lt.1 h1))]; rfl
theorem cmpQ_neg (p q : Rat) : cmpQ p q < 0 ↔ p < q := by
  unfold cmpQ
  by_cases h1 : p < q
  · rw [if_pos h1]; simp [h1]
  · rw [if_neg h1]
    by_cases h2 : q < p
    · rw [if_pos h2]; simp [h1]
    · rw [if_neg h2]; simp [h1]
theorem cmpQ_pos (p q : Rat) : 0 < cmpQ p q ↔ q < p := by
  unfold cmpQ
  by_cases h1 : p < q
  · rw [if_pos h1]; simp; exact Rat.not_lt.2 (Rat.le_of_lt h1)
  · rw [if_neg h1]
    by_cases h2 : q < p
    · rw [if_pos h2]; simp [h2]
    · rw [if_neg h2]; simp [h2]
theorem i64_words {z : Int} {w0 : World} {B0 : Nat} {b : Bool} {A : Option Addr} {n c : Nat} (hz : I64r z) (hc : ZCan w0 B0 b A n c z) : n ≤ 2 := by
  refine words_bd hc ?_
  obtain ⟨h1, h2⟩ := hz
  rw [show 4294967296 ^ 2 = 18446744073709551616 by decide]
  omega
/-- The smaller one. -/
def minQ (p q : Rat) : Rat := if q < p then q else p
set_option maxRecDepth 100000 in
set_option maxHeartbeats 4000000 in
theorem qequal_any (s1 : Bool) (A1 : Option Addr) (n1 c1 : Nat) (t1 : Bool) (B1 : Option Addr) (m1 d1 : Nat) (p : Rat) (s2 : Bool) (A2 : Option Addr) (n2 c2 : Nat) (t2 : Bool) (B2 : Option Addr) (m2 d2 : Nat) (q : Rat) (w : World) (h1 : QArg w s1 A1 n1 c1 t1 B1 m1 d1 p) (h2 : QArg w s2 A2 n2 c2 t2 B2 m2 d2 q) :
    Calls Try.prog 19 #[.agg #[.bool s1, .slice A1 n1 c1, .bool t1, .slice B1 m1 d1], .agg #[.bool s2, .slice A2 n2 c2, .bool t2, .slice B2 m2 d2]] w fun e w' => e = .returned (.bool (decide (p = q))) ∧ Ext w w' := by
  go_enter Try.func19, Try.ntmps19
  go_wp2_with fail
  obtain ⟨k1, k2, hE⟩ := boxQ2 w (.bool s1) (.slice A1 n1 c1) (.bool t1) (.slice B1 m1 d1) (.bool s2) (.slice A2 n2 c2) (.bool t2) (.slice B2 m2 d2) 33
  generalize (w.alloc (.cells #[.bool s1, .slice A1 n1 c1, .bool t1, .slice B1 m1 d1] 33)).alloc (.cells #[.bool s2, .slice A2 n2 c2, .bool t2, .slice B2 m2 d2] 33) = w1 at *
  refine (qcmp_any s1 A1 n1 c1 t1 B1 m1 d1 p s2 A2 n2 c2 t2 B2 m2 d2 q w1 (h1.ext hE) (h2.ext hE)).mono ?_
  rintro e w2 ⟨rfl, hE2⟩
  have HR := Lib.hid (cmpQ_eq p q)
  generalize cmpQ p q = k at *
  clear k1 k2 h1 h2
  go_wp2_with fail
  go_ret
  exact ⟨congrArg (fun b => Ending.returned (.bool b)) HR.out, Ext.trans hE hE2⟩

set_option maxRecDepth 100000 in
set_option maxHeartbeats 4000000 in
theorem qmin_any (s1 : Bool) (A1 : Option Addr) (n1 c1 : Nat) (t1 : Bool) (B1 : Option Addr) (m1 d1 : Nat) (p : Rat) (s2 : Bool) (A2 : Option Addr) (n2 c2 : Nat) (t2 : Bool) (B2 : Option Addr) (m2 d2 : Nat) (q : Rat) (w : World) (h1 : QArg w s1 A1 n1 c1 t1 B1 m1 d1 p) (h2 : QArg w s2 A2 n2 c2 t2 B2 m2 d2 q) :
    Calls Try.prog 55 #[.agg #[.bool s1, .slice A1 n1 c1, .bool t1, .slice B1 m1 d1], .agg #[.bool s2, .slice A2 n2 c2, .bool t2, .slice B2 m2 d2]] w (RetQ w (minQ p q)) := by
  go_enter Try.func55, Try.ntmps55
  go_wp2_with fail
  obtain ⟨k1, k2, k3, hE⟩ := boxQ3 w (.bool s1) (.slice A1 n1 c1) (.bool t1) (.slice B1 m1 d1) (.bool s2) (.slice A2 n2 c2) (.bool t2) (.slice B2 m2 d2) 33
  generalize ((w.alloc (.cells #[.bool s1, .slice A1 n1 c1, .bool t1, .slice B1 m1 d1] 33)).alloc (.cells #[.bool s2, .slice A2 n2 c2, .bool t2, .slice B2 m2 d2] 33)).alloc (.cells #[.bool false, .slice none 0 0, .bool false, .slice none 0 0] 33) = w1 at *
  refine (qcmp_any s2 A2 n2 c2 t2 B2 m2 d2 q s1 A1 n1 c1 t1 B1 m1 d1 p w1 (h2.ext hE) (h1.ext hE)).mono ?_
  rintro e w2 ⟨rfl, hE2⟩
  have hneg := cmpQ_neg q p
  generalize cmpQ q p = k at *
  have K3 := Lib.hid (k3.ext hE2)
  have HE := Lib.hid (Ext.trans hE hE2)
  obtain ⟨⟨g0, g1, g2, g3⟩, _, _⟩ := k1.ext hE2
  obtain ⟨⟨i0, i1, i2, i3⟩, _, _⟩ := k2.ext hE2
  have hl : w.heap.size + 1 + 1 < w2.heap.size := K3.out.2.2
  have H1 := Lib.hid (h1.ext HE.out)
  have H2 := Lib.hid (h2.ext HE.out)
  clear k1 k2 k3 hE hE2 h1 h2
  by_cases hk : k < 0
  · have hb : decide (k < 0) = true := decide_eq_true hk
    have HR : Hid (minQ p q = q) := by unfold Hid minQ; rw [if_pos (hneg.1 hk)]
    clear hneg hk
    go_wp2_with fail
    refine (qcan_any s2 A2 n2 c2 t2 B2 m2 d2 q w2 H2.out).mono ?_
    rintro e w3 ⟨s, A, n, c, t, B, m, d, rfl, hQ, hE9⟩
    rw [← HR.out] at hQ
    have HQ := Lib.hid hQ
    obtain ⟨⟨e0, e1, e2, e3⟩, ⟨f0, f1, f2, f3⟩, el⟩ := K3.out.ext hE9
    have HE9 := Lib.hid (Ext.trans HE.out hE9)
    clear hQ hE9
    go_wp2_with fail
    refine bodyPost_ret (v := .agg #[.bool s, .slice A n c, .bool t, .slice B m d]) (by simp [results, Try.results55, go_sem, e0, e1, e2, e3]) rfl ?_
    exact ⟨_, _, _, _, _, _, _, _, rfl, retQ_fill (by omega) (by omega) HQ.out HE9.out _ _ _ _⟩
  · have hb : decide (k < 0) = false := decide_eq_false hk
    have HR : Hid (minQ p q = p) := by unfold Hid minQ; rw [if_neg (fun e => hk (hneg.2 e))]
    clear hneg hk
    go_wp2_with fail
    refine (qcan_any s1 A1 n1 c1 t1 B1 m1 d1 p w2 H1.out).mono ?_
    rintro e w3 ⟨s, A, n, c, t, B, m, d, rfl, hQ, hE9⟩
    rw [← HR.out] at hQ
    have HQ := Lib.hid hQ
    obtain ⟨⟨e0, e1, e2, e3⟩, ⟨f0, f1, f2, f3⟩, el⟩ := K3.out.ext hE9
    have HE9 := Lib.hid (Ext.trans HE.out hE9)
    clear hQ hE9
    go_wp2_with fail
    refine bodyPost_ret (v := .agg #[.bool s, .slice A n c, .bool t, .slice B m d]) (by simp [results, Try.results55, go_sem, e0, e1, e2, e3]) rfl ?_
    exact ⟨_, _, _, _, _, _, _, _, rfl, retQ_fill (by omega) (by omega) HQ.out HE9.out _ _ _ _⟩

set_option maxRecDepth 100000 in
set_option maxHeartbeats 4000000 in
theorem qneg_any (s1 : Bool) (A1 : Option Addr) (n1 c1 : Nat) (t1 : Bool) (B1 : Option Addr) (m1 d1 : Nat) (q : Rat) (w : World) (h1 : QArg w s1 A1 n1 c1 t1 B1 m1 d1 q) :
    Calls Try.prog 35 #[.agg #[.bool s1, .slice A1 n1 c1, .bool t1, .slice B1 m1 d1]] w (RetQ w (-q)) := by
  have HSZ : Hid (Sz 33554432 q) := h1.1.sz h1.2.1 h1.2.2 (by omega)
  go_enter Try.func35, Try.ntmps35
  go_wp2_with fail
  obtain ⟨k1, k2, hE⟩ := boxQ2 w (.bool s1) (.slice A1 n1 c1) (.bool t1) (.slice B1 m1 d1) (.bool false) (.slice none 0 0) (.bool false) (.slice none 0 0) 33
  generalize (w.alloc (.cells #[.bool s1, .slice A1 n1 c1, .bool t1, .slice B1 m1 d1] 33)).alloc (.cells #[.bool false, .slice none 0 0, .bool false, .slice none 0 0] 33) = w1 at *
  refine (qcan_any s1 A1 n1 c1 t1 B1 m1 d1 q w1 (h1.ext hE)).mono ?_
  rintro e w2 ⟨s, A, n, c, t, B, m, d, rfl, hQ, hE2⟩
  have hlen := hQ.len HSZ.out
  have K2 := Lib.hid (k2.ext hE2)
  have hl : w.heap.size + 1 < w1.heap.size := k2.2.2
  have HQ := Lib.hid hQ
  have HE2 := Lib.hid (Ext.trans hE hE2)
  have hsz : w1.heap.size ≤ w2.heap.size := hE2.size
  clear k1 k2 hE hE2 h1 hQ
  obtain ⟨hln, hlm⟩ := hlen
  go_wp2_with fail
  have k3 := Cell4.new w2 _ rfl (.bool s) (.slice A n c) (.bool t) (.slice B m d) 33
  have hE3 : Ext w2 (w2.alloc (.cells #[.bool s, .slice A n c, .bool t, .slice B m d] 33)) := Ext.al Ext.rfl' _
  generalize w2.alloc (.cells #[.bool s, .slice A n c, .bool t, .slice B m d] 33) = w3 at *
  have K3 := Lib.hid (k3.ext (Ext.rfl' (w := w3)).drew)
  have K2' := Lib.hid ((K2.out.ext hE3).ext (Ext.rfl' (w := w3)).drew)
  have HQ' := Lib.hid ((HQ.out.ext hE3).ext (Ext.rfl' (w := w3)).drew)
  have HE : Hid (Ext w w3.drew) := (Ext.trans HE2.out hE3).drew
  have hsz3 : w2.heap.size < w3.drew.heap.size := K3.out.2.2
  clear k3 hE3 K2 HQ HE2
  refine wp_region_lex (C := InX w3.drew []) (by kernel_rfl) (by kernel_rfl) (inX_self _ _) ?_
  generalize w3.drew = wd at *
  have x0 := fun y : ExtX wd [] => y.cell (p := ⟨w2.heap.size, 0, none⟩) K3.out.1.1 (by simp)
  have x1 := fun y : ExtX wd [] => y.cell (p := ⟨w2.heap.size, 1, none⟩) K3.out.1.2.1 (by simp)
  have x2 := fun y : ExtX wd [] => y.cell (p := ⟨w2.heap.size, 2, none⟩) K3.out.1.2.2.1 (by simp)
  have x3 := fun y : ExtX wd [] => y.cell (p := ⟨w2.heap.size, 3, none⟩) K3.out.1.2.2.2 (by simp)
  repeat (refine wpLex_still (by rfl) ?_; go_big_quiet_step (exact ⟨rfl, rfl⟩); refine wpQuiet_nil ?_)
  refine wpLex_move (by rfl) (by rfl) ?_
  go_wp2_with fail
  refine (neg_any s A n c q.num wd HQ'.out.1.is (by omega)).mono ?_
  rintro e w4 ⟨r, R, k, l, rfl, hZ, hE4⟩
  have hQ : QCan w4 w1.heap.size r R k l t B m d (-q) := by
    refine ⟨?_, ?_⟩
    · rw [Rat.neg_num]
      exact hZ.base (by omega)
    · have := (HQ'.out.ext hE4).2
      unfold denOf at this ⊢
      rw [Rat.neg_den]
      exact this
  have HQ := Lib.hid hQ
  obtain ⟨⟨e0, e1, e2, e3⟩, ⟨f0, f1, f2, f3⟩, el⟩ := K2'.out.ext hE4
  have HE9 := Lib.hid (Ext.trans HE.out hE4)
  have HX := Lib.hid (inX_of_ext [] hE4)
  clear hQ hZ hE4
  go_wp2_with fail
  refine And.intro HX.out ?_
  repeat (refine wpLex_still (by rfl) ?_; go_big_quiet_step (exact ⟨rfl, rfl⟩); refine wpQuiet_nil ?_)
  refine wpLex_last (by rfl) (by kernel_rfl) (by rfl) ?_
  go_wp2_with fail
  refine And.intro trivial (wpLex_nil ?_)
  go_wp2_with fail
  refine bodyPost_ret (v := .agg #[.bool r, .slice R k l, .bool t, .slice B m d]) (by simp [results, Try.results35, go_sem, e0, e1, e2, e3]) rfl ?_
  exact ⟨_, _, _, _, _, _, _, _, rfl, retQ_fill (by omega) (by omega) HQ.out HE9.out _ _ _ _⟩

set_option maxRecDepth 100000 in
set_option maxHeartbeats 4000000 in
theorem qnew_any (N D : Int) (w : World) (hN : I64r N) (hD : I64r D) (h0 : 0 < D) :
    Calls Try.prog 20 #[.int .i64 N, .int .i64 D] w fun e w' => ∃ s A n c t B m d, e = .returned (.tuple #[.agg #[.bool s, .slice A n c, .bool t, .slice B m d], .int .i64 0]) ∧ QCan w' w.heap.size s A n c t B m d (Rat.divInt N D) ∧ Ext w w' := by
  have hb : (D == 0) = false := by simp; omega
  have hl2 := @i64_words
  go_enter Try.func20, Try.ntmps20
  go_wp2_with fail
  have k0 := Cell4.new w _ rfl (.bool false) (.slice none 0 0) (.bool false) (.slice none 0 0) 33
  have hE : Ext w (w.alloc (.cells #[.bool false, .slice none 0 0, .bool false, .slice none 0 0] 33)) := Ext.al Ext.rfl' _
  generalize w.alloc (.cells #[.bool false, .slice none 0 0, .bool false, .slice none 0 0] 33) = w1 at *
  have hsz : w.heap.size < w1.heap.size := k0.2.2
  refine (fromInt_any N w1 hN).mono ?_
  rintro e w2 ⟨b2, A2, n2, c2, rfl, hZ2, hE2⟩
  have hn2 : n2 ≤ 2 := hl2 hN hZ2
  have HZ2 := Lib.hid hZ2
  clear hZ2
  go_wp2_with fail
  refine (fromInt_any D w2 hD).mono ?_
  rintro e w3 ⟨b3, A3, n3, c3, rfl, hZ3, hE3⟩
  have hn3 : n3 ≤ 2 := hl2 hD hZ3
  have HZ3 := Lib.hid hZ3
  clear hZ3 hl2
  go_wp2_with fail
  refine (reduce_any b2 A2 n2 c2 N b3 A3 n3 c3 D w3 (HZ2.out.ext hE3).is HZ3.out.is (by omega) (by omega) h0).mono ?_
  rintro e w4 ⟨s, A, n, c, t, B, m, d, rfl, hQ, hE4⟩
  have hE9 := Ext.trans hE2 (Ext.trans hE3 hE4)
  have HE : Hid (Ext w w1) := hE
  have hs3 : w1.heap.size ≤ w3.heap.size := (Ext.trans hE2 hE3).size
  have K0 := Lib.hid k0
  clear k0 hE hE2 hE3 hE4
  have HQ := Lib.hid hQ
  obtain ⟨⟨e0, e1, e2, e3⟩, ⟨f0, f1, f2, f3⟩, el⟩ := K0.out.ext hE9
  have HE9 := Lib.hid (Ext.trans HE.out hE9)
  clear hQ hE9
  go_wp2_with fail
  refine bodyPost_ret (v := .tuple #[.agg #[.bool s, .slice A n c, .bool t, .slice B m d], .int .i64 0]) (by simp [results, Try.results20, go_sem, e0, e1, e2, e3]) rfl ?_
  exact ⟨_, _, _, _, _, _, _, _, rfl, retQ_fill (by omega) (by omega) HQ.out HE9.out _ _ _ _⟩

end Go.Proofs.Ytppcpklnnbgcjaa

namespace Go.Proofs.Ytppcpklnnbgcjaa
open Go.RowKit

set_option maxRecDepth 100000 in
set_option maxHeartbeats 2000000 in
theorem zisCan_any (b : Bool) (A : Option Addr) (n c : Nat) (z : Int) (B0 : Nat) (w : World) (h : ZCan w B0 b A n c z) :
    Calls Try.prog 62 #[.agg #[.bool b, .slice A n c]] w fun e w' => e = .returned (.bool true) ∧ Ext w w' := by
  obtain ⟨hb, hw, hnc, hcm, _⟩ := h
  rcases n with _ | p
  · have h0 : z = 0 := by
      have := wordsOf_eq_nil.1 hw.1
      omega
    have hbf : b = false := by rw [hb, h0]; rfl
    subst hbf
    clear hb hw hnc hcm h0
    go_enter Try.func62, Try.ntmps62
    go_wp2_with fail
    go_ret
    exact ⟨rfl, Ext.al Ext.rfl' _⟩
  · obtain ⟨bl, off, rfl, hlt, hcell⟩ := hw.2.2 (by omega)
    have hc := hcell p (by omega)
    have ht := top_pos hw.1
    generalize (wordsOf z.natAbs).getD p 0 = x at *
    have hx : ((x : Int) != 0) = true := by simp; omega
    have hn1 : p + 1 ≤ maxLen := by omega
    simp only [maxLen] at hn1
    have hp0 : (((p : Int) + 1) == 0) = false := by simp; omega
    clear hcell ht hw hb hcm
    go_enter Try.func62, Try.ntmps62
    go_wp2_with fail
    go_ret
    exact ⟨rfl, Ext.al Ext.rfl' _⟩
theorem cmpZ_one {k : Int} (h : 1 < k) : cmpZ k 1 = 1 := by unfold cmpZ; rw [if_neg (by omega), if_pos h]

set_option maxRecDepth 100000 in
set_option maxHeartbeats 4000000 in
theorem qisCan_any (s1 : Bool) (A1 : Option Addr) (n1 c1 : Nat) (t1 : Bool) (B1 : Option Addr) (m1 d1 : Nat) (q : Rat) (B0 : Nat) (w : World) (h : QCan w B0 s1 A1 n1 c1 t1 B1 m1 d1 q) (hn : n1 ≤ 33554432) (hm : m1 ≤ 33554432) :
    Calls Try.prog 37 #[.agg #[.bool s1, .slice A1 n1 c1, .bool t1, .slice B1 m1 d1]] w fun e w' => e = .returned (.bool true) ∧ Ext w w' := by
  have H := Lib.hid h
  clear h
  go_enter Try.func37, Try.ntmps37
  go_wp2_with fail
  have k0 := Cell4.new w _ rfl (.bool s1) (.slice A1 n1 c1) (.bool t1) (.slice B1 m1 d1) 33
  have hE : Ext w (w.alloc (.cells #[.bool s1, .slice A1 n1 c1, .bool t1, .slice B1 m1 d1] 33)) := Ext.al Ext.rfl' _
  generalize w.alloc (.cells #[.bool s1, .slice A1 n1 c1, .bool t1, .slice B1 m1 d1] 33) = w1 at *
  refine (zisCan_any s1 A1 n1 c1 _ B0 w1 (H.out.ext hE).1).mono ?_
  rintro e w2 ⟨rfl, hE2⟩
  have hE12 := Ext.trans hE hE2
  obtain ⟨⟨g0, g1, g2, g3⟩, _, hl⟩ := k0.ext hE2
  go_wp2_with fail
  refine (zisCan_any t1 B1 m1 d1 _ B0 w2 (H.out.ext hE12).2).mono ?_
  rintro e w3 ⟨rfl, hE3⟩
  have HE := Lib.hid (Ext.trans hE12 hE3)
  have K := Lib.hid ((k0.ext hE2).ext hE3)
  clear hE hE2 hE12 hE3 k0 g0 g1 g2 g3 hl
  obtain ⟨⟨g0, g1, g2, g3⟩, _, hl⟩ := K.out
  by_cases h0 : m1 = 0
  · subst h0
    go_wp2_with fail
    go_ret
    exact ⟨rfl, HE.out⟩
  · have hb : ((m1 : Int) == 0) = false := by simp; omega
    have hdn : q.den ≠ 1 := by
      intro e
      have hl := H.out.2.2.1.1
      unfold denOf at hl
      rw [if_pos e] at hl
      apply h0
      rw [← hl, show (0 : Int).natAbs = 0 from rfl, wordsOf_zero]
      rfl
    have HDE : Hid (denOf q = q.den) := by unfold Hid denOf; rw [if_neg hdn]
    have hd1 : (1 : Int) < q.den := by have := q.den_pos; omega
    have HC1 : Hid (cmpZ (denOf q) 1 = 1) := by unfold Hid; rw [HDE.out, cmpZ_one hd1]
    have HC2 : Hid (cmpZ (Int.gcd q.num (denOf q) : Nat) 1 = 0) := by
      unfold Hid
      rw [HDE.out]
      have : Int.gcd q.num q.den = 1 := q.reduced
      rw [this]
      rfl
    have HG1 : Hid (Int.gcd q.num (denOf q) = 1) := by unfold Hid; rw [HDE.out]; exact q.reduced
    clear hd1 hdn
    go_wp2_with fail
    refine (fromInt_any 1 w3 ⟨by omega, by omega⟩).mono ?_
    rintro e w4 ⟨b4, A4, n4, c4, rfl, hZ4, hE4⟩
    have hn4 : n4 ≤ 2 := i64_words ⟨by omega, by omega⟩ hZ4
    have K4 := Lib.hid (K.out.ext hE4)
    have hsz : w.heap.size < w4.heap.size := K4.out.2.2
    go_wp2_with fail
    have k5 := Cell2.new w4 _ rfl (.bool b4) (.slice A4 n4 c4) 31
    have hE5 : Ext w4 (w4.alloc (.cells #[.bool b4, .slice A4 n4 c4] 31)) := Ext.al Ext.rfl' _
    generalize w4.alloc (.cells #[.bool b4, .slice A4 n4 c4] 31) = w5 at *
    have hE6 : Ext w5 w5.drew := Ext.rfl'.drew
    refine wp_region_lex (C := InX w5.drew []) (by kernel_rfl) (by kernel_rfl) (inX_self _ _) ?_
    generalize w5.drew = wd at *
    have hE46 := Ext.trans hE5 hE6
    have L := Lib.hid (K4.out.ext hE46)
    have L5 := Lib.hid (k5.ext hE6)
    have HE6 := Lib.hid (Ext.trans HE.out (Ext.trans hE4 hE46))
    have HZ4 := Lib.hid (hZ4.ext hE46)
    clear hE4 hE5 hE6 hE46 K4 k5 HE hZ4 g0 g1 g2 g3 K hl
    have x0 := fun y : ExtX wd [] => y.cell (p := ⟨w.heap.size, 0, none⟩) L.out.1.1 (by simp)
    have x1 := fun y : ExtX wd [] => y.cell (p := ⟨w.heap.size, 1, none⟩) L.out.1.2.1 (by simp)
    have x2 := fun y : ExtX wd [] => y.cell (p := ⟨w.heap.size, 2, none⟩) L.out.1.2.2.1 (by simp)
    have x3 := fun y : ExtX wd [] => y.cell (p := ⟨w.heap.size, 3, none⟩) L.out.1.2.2.2 (by simp)
    have x4 := fun y : ExtX wd [] => y.cell (p := ⟨w4.heap.size, 0, none⟩) L5.out.1 (by simp)
    have x5 := fun y : ExtX wd [] => y.cell (p := ⟨w4.heap.size, 1, none⟩) L5.out.2.1 (by simp)
    repeat (refine wpLex_still (by rfl) ?_; go_big_quiet_step (fail); refine wpQuiet_nil ?_)
    refine wpLex_move (by rfl) (by rfl) ?_
    go_wp2_with fail
    refine (cmp_any t1 B1 m1 d1 (denOf q) b4 A4 n4 c4 1 wd (H.out.ext HE6.out).2.is HZ4.out.is (by omega) (by omega)).mono ?_
    rintro e w7 ⟨rfl, hE7⟩
    rw [HC1.out]
    go_wp2_with fail
    refine And.intro (inX_of_ext _ hE7) ?_
    repeat (refine wpLex_still (by rfl) ?_; go_big_quiet_step (fail); refine wpQuiet_nil ?_)
    refine wpLex_move (by rfl) (by rfl) ?_
    go_wp2_with fail
    refine (gcd_any s1 A1 n1 c1 q.num t1 B1 m1 d1 (denOf q) w7 ((H.out.ext HE6.out).ext hE7).1.is ((H.out.ext HE6.out).ext hE7).2.is (by omega) (by omega)).mono ?_
    rintro e w8 ⟨b8, A8, n8, c8, rfl, hZ8, hE8⟩
    have hn8 : n8 ≤ 2 := i64_words (by rw [HG1.out]; exact ⟨by omega, by omega⟩) hZ8
    have hE78 := Ext.trans hE7 hE8
    go_wp2_with fail
    refine And.intro (inX_of_ext _ hE78) ?_
    repeat (refine wpLex_still (by rfl) ?_; go_big_quiet_step (fail); refine wpQuiet_nil ?_)
    refine wpLex_move (by rfl) (by rfl) ?_
    go_wp2_with fail
    refine (cmp_any b8 A8 n8 c8 _ b4 A4 n4 c4 1 w8 hZ8.is (HZ4.out.ext hE78).is (by omega) (by omega)).mono ?_
    rintro e w9 ⟨rfl, hE9⟩
    rw [HC2.out]
    have hE79 := Ext.trans hE78 hE9
    go_wp2_with fail
    refine And.intro (inX_of_ext _ hE79) ?_
    repeat (refine wpLex_still (by rfl) ?_; go_big_quiet_step (fail); refine wpQuiet_nil ?_)
    refine wpLex_nil ?_
    go_wp2_with fail
    go_ret
    exact ⟨rfl, Ext.trans HE6.out hE79⟩
end Go.Proofs.Ytppcpklnnbgcjaa
