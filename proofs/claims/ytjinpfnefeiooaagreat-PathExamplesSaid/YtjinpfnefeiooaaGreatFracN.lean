/- A part of the proof. -/
import Derived.Test.YtjinpfnefeiooaaGreatFracO
import Derived.Test.YtjinpfnefeiooaaGreatZOps
namespace Go.Proofs.YtjinpfnefeiooaaGreat
open Go.RowKit

theorem prod_abs (x y : Int) (h1 : -2147483648 < x) (h2 : x < 2147483648) (h3 : -2147483648 < y) (h4 : y < 2147483648) : (x * y).natAbs ≤ 4611686014132420609 := by
 rw [Int.natAbs_mul]
 exact Nat.mul_le_mul (show x.natAbs ≤ 2147483647 by omega) (show y.natAbs ≤ 2147483647 by omega)
theorem prod_le (x y : Int) (h1 : -2147483648 < x) (h2 : x < 2147483648) (h3 : -2147483648 < y) (h4 : y < 2147483648) : x * y ≤ 4611686014132420609 := by have := prod_abs x y h1 h2 h3 h4; omega
theorem prod_ge (x y : Int) (h1 : -2147483648 < x) (h2 : x < 2147483648) (h3 : -2147483648 < y) (h4 : y < 2147483648) : -4611686014132420609 ≤ x * y := by have := prod_abs x y h1 h2 h3 h4; omega
set_option maxRecDepth 100000 in
set_option maxHeartbeats 4000000 in
theorem qadd_any (s1 : Bool) (A1 : Option Addr) (n1 c1 : Nat) (t1 : Bool) (B1 : Option Addr) (m1 d1 : Nat) (p : Rat) (s2 : Bool) (A2 : Option Addr) (n2 c2 : Nat) (t2 : Bool) (B2 : Option Addr) (m2 d2 : Nat) (q : Rat) (w : World) (h1 : QArg w s1 A1 n1 c1 t1 B1 m1 d1 p) (h2 : QArg w s2 A2 n2 c2 t2 B2 m2 d2 q) :
  Calls Tryz.prog 30 #[.agg #[.bool s1, .slice A1 n1 c1, .bool t1, .slice B1 m1 d1], .agg #[.bool s2, .slice A2 n2 c2, .bool t2, .slice B2 m2 d2]] w (RetQ w (p + q)) := by
 go_enter Tryz.func30, Tryz.ntmps30
 go_wp2_with fail
 obtain ⟨k1, k2, k3, hE⟩ := boxQ3 w (.bool s1) (.slice A1 n1 c1) (.bool t1) (.slice B1 m1 d1) (.bool s2) (.slice A2 n2 c2) (.bool t2) (.slice B2 m2 d2) 29
 generalize ((w.alloc (.cells #[.bool s1, .slice A1 n1 c1, .bool t1, .slice B1 m1 d1] 29)).alloc (.cells #[.bool s2, .slice A2 n2 c2, .bool t2, .slice B2 m2 d2] 29)).alloc (.cells #[.bool false, .slice none 0 0, .bool false, .slice none 0 0] 29) = w1 at *
 refine (short_any s1 A1 n1 c1 t1 B1 m1 d1 p w1 (h1.1.ext hE)).mono ?_
 rintro e w2 ⟨N1, D1, x1, rfl, hs1, hE2⟩
 have K1 := LH (k1.ext hE2)
 have K2 := LH (k2.ext hE2)
 have K3 := LH (k3.ext hE2)
 have HE2 := LH (ET hE hE2)
 have H1 := LH h1
 have H2 := LH h2
 have HS1 := LH hs1
 clear k1 k2 k3 hE hE2 h1 h2 hs1
 obtain ⟨⟨g0, g1, g2, g3⟩, _, hl2⟩ := K2.out
 go_wp2_with fail
 refine (short_any s2 A2 n2 c2 t2 B2 m2 d2 q w2 (H2.out.1.ext HE2.out)).mono ?_
 rintro e w3 ⟨N2, D2, x2, rfl, hs2, hE3⟩
 have L1 := LH (K1.out.ext hE3)
 have L2 := LH (K2.out.ext hE3)
 have L3 := LH (K3.out.ext hE3)
 have HE3 := LH (ET HE2.out hE3)
 have HS2 := LH hs2
 clear hE3 hs2 K1 K2 K3 HE2 g0 g1 g2 g3
 have hl3 : w.heap.size + 1 + 1 < w3.heap.size := L3.out.2.2
 by_cases hx : x1 = true ∧ x2 = true
 ·obtain ⟨rfl, rfl⟩ := hx
  obtain ⟨a1, a2, a3, a4, a5⟩ := HS1.out rfl
  obtain ⟨b1, b2, b3, b4, b5⟩ := HS2.out rfl
  have HA := LH a5
  have HB := LH b5
  clear a5 b5 HS1 HS2
  obtain ⟨P1, hP1⟩ : ∃ v, N1 * D2 = v := ⟨_, rfl⟩
  have hP11 : P1 ≤ 4611686014132420609 := by rw [← hP1]; exact prod_le N1 D2 (by omega) (by omega) (by omega) (by omega)
  have hP10 : -4611686014132420609 ≤ P1 := by rw [← hP1]; exact prod_ge N1 D2 (by omega) (by omega) (by omega) (by omega)
  obtain ⟨P2, hP2⟩ : ∃ v, N2 * D1 = v := ⟨_, rfl⟩
  have hP21 : P2 ≤ 4611686014132420609 := by rw [← hP2]; exact prod_le N2 D1 (by omega) (by omega) (by omega) (by omega)
  have hP20 : -4611686014132420609 ≤ P2 := by rw [← hP2]; exact prod_ge N2 D1 (by omega) (by omega) (by omega) (by omega)
  obtain ⟨P3, hP3⟩ : ∃ v, D1 * D2 = v := ⟨_, rfl⟩
  have hP30 : 0 < P3 := by rw [← hP3]; exact Int.mul_pos (by omega) (by omega)
  have hP31 : P3 ≤ 4611686014132420609 := by rw [← hP3]; exact prod_le D1 D2 (by omega) (by omega) (by omega) (by omega)
  have HR : Hid (p + q = Rat.divInt (P1 + P2) P3) := by unfold Hid; rw [HA.out, HB.out, divInt_add' _ _ a1 b1, hP1, hP2, hP3]
  clear HA HB
  go_wp2_with fail
  refine (ratio_any (P1 + P2) P3 w3 (by omega) (by omega) (by omega) (by omega)).mono ?_
  rintro e w4 ⟨s, A, n, c, t, B, m, d, rfl, hQ, hE4⟩
  rw [← HR.out] at hQ
  have HQ := LH hQ
  obtain ⟨⟨e0, e1, e2, e3⟩, ⟨f0, f1, f2, f3⟩, el⟩ := L3.out.ext hE4
  have HE4 := LH (ET HE3.out hE4)
  clear hQ hE4
  go_wp2_with fail
  refine bodyPost_ret (v := .agg #[.bool s, .slice A n c, .bool t, .slice B m d]) (by simp [results, Tryz.results30, go_sem, e0, e1, e2, e3]) rfl ?_
  exact ⟨_, _, _, _, _, _, _, _, rfl, retQ_fill (by omega) (by omega) HQ.out HE4.out _ _ _ _⟩
 ·have hb : x1 = false ∨ (x1 = true ∧ x2 = false) := by cases x1 <;> cases x2 <;> simp_all
  clear hx HS1 HS2
  obtain ⟨⟨g0, g1, g2, g3⟩, _, _⟩ := L1.out
  obtain ⟨⟨i0, i1, i2, i3⟩, _, _⟩ := L2.out
  rcases hb with rfl | ⟨rfl, rfl⟩
  all_goals
   go_wp2_with fail
   refine (calc_add s1 A1 n1 c1 t1 B1 m1 d1 p s2 A2 n2 c2 t2 B2 m2 d2 q w3 (H1.out.ext HE3.out) (H2.out.ext HE3.out)).mono ?_
   rintro e w4 ⟨s, A, n, c, t, B, m, d, rfl, hQ, hE4⟩
   have HQ := LH hQ
   obtain ⟨⟨e0, e1, e2, e3⟩, ⟨f0, f1, f2, f3⟩, el⟩ := L3.out.ext hE4
   have HE4 := LH (ET HE3.out hE4)
   clear hQ hE4
   go_wp2_with fail
   refine bodyPost_ret (v := .agg #[.bool s, .slice A n c, .bool t, .slice B m d]) (by simp [results, Tryz.results30, go_sem, e0, e1, e2, e3]) rfl ?_
   exact ⟨_, _, _, _, _, _, _, _, rfl, retQ_fill (by omega) (by omega) HQ.out HE4.out _ _ _ _⟩
set_option maxRecDepth 100000 in
set_option maxHeartbeats 4000000 in
theorem qsub_any (s1 : Bool) (A1 : Option Addr) (n1 c1 : Nat) (t1 : Bool) (B1 : Option Addr) (m1 d1 : Nat) (p : Rat) (s2 : Bool) (A2 : Option Addr) (n2 c2 : Nat) (t2 : Bool) (B2 : Option Addr) (m2 d2 : Nat) (q : Rat) (w : World) (h1 : QArg w s1 A1 n1 c1 t1 B1 m1 d1 p) (h2 : QArg w s2 A2 n2 c2 t2 B2 m2 d2 q) :
  Calls Tryz.prog 28 #[.agg #[.bool s1, .slice A1 n1 c1, .bool t1, .slice B1 m1 d1], .agg #[.bool s2, .slice A2 n2 c2, .bool t2, .slice B2 m2 d2]] w (RetQ w (p - q)) := by
 go_enter Tryz.func28, Tryz.ntmps28
 go_wp2_with fail
 obtain ⟨k1, k2, k3, hE⟩ := boxQ3 w (.bool s1) (.slice A1 n1 c1) (.bool t1) (.slice B1 m1 d1) (.bool s2) (.slice A2 n2 c2) (.bool t2) (.slice B2 m2 d2) 29
 generalize ((w.alloc (.cells #[.bool s1, .slice A1 n1 c1, .bool t1, .slice B1 m1 d1] 29)).alloc (.cells #[.bool s2, .slice A2 n2 c2, .bool t2, .slice B2 m2 d2] 29)).alloc (.cells #[.bool false, .slice none 0 0, .bool false, .slice none 0 0] 29) = w1 at *
 refine (short_any s1 A1 n1 c1 t1 B1 m1 d1 p w1 (h1.1.ext hE)).mono ?_
 rintro e w2 ⟨N1, D1, x1, rfl, hs1, hE2⟩
 have K1 := LH (k1.ext hE2)
 have K2 := LH (k2.ext hE2)
 have K3 := LH (k3.ext hE2)
 have HE2 := LH (ET hE hE2)
 have H1 := LH h1
 have H2 := LH h2
 have HS1 := LH hs1
 clear k1 k2 k3 hE hE2 h1 h2 hs1
 obtain ⟨⟨g0, g1, g2, g3⟩, _, hl2⟩ := K2.out
 go_wp2_with fail
 refine (short_any s2 A2 n2 c2 t2 B2 m2 d2 q w2 (H2.out.1.ext HE2.out)).mono ?_
 rintro e w3 ⟨N2, D2, x2, rfl, hs2, hE3⟩
 have L1 := LH (K1.out.ext hE3)
 have L2 := LH (K2.out.ext hE3)
 have L3 := LH (K3.out.ext hE3)
 have HE3 := LH (ET HE2.out hE3)
 have HS2 := LH hs2
 clear hE3 hs2 K1 K2 K3 HE2 g0 g1 g2 g3
 have hl3 : w.heap.size + 1 + 1 < w3.heap.size := L3.out.2.2
 by_cases hx : x1 = true ∧ x2 = true
 ·obtain ⟨rfl, rfl⟩ := hx
  obtain ⟨a1, a2, a3, a4, a5⟩ := HS1.out rfl
  obtain ⟨b1, b2, b3, b4, b5⟩ := HS2.out rfl
  have HA := LH a5
  have HB := LH b5
  clear a5 b5 HS1 HS2
  obtain ⟨P1, hP1⟩ : ∃ v, N1 * D2 = v := ⟨_, rfl⟩
  have hP11 : P1 ≤ 4611686014132420609 := by rw [← hP1]; exact prod_le N1 D2 (by omega) (by omega) (by omega) (by omega)
  have hP10 : -4611686014132420609 ≤ P1 := by rw [← hP1]; exact prod_ge N1 D2 (by omega) (by omega) (by omega) (by omega)
  obtain ⟨P2, hP2⟩ : ∃ v, N2 * D1 = v := ⟨_, rfl⟩
  have hP21 : P2 ≤ 4611686014132420609 := by rw [← hP2]; exact prod_le N2 D1 (by omega) (by omega) (by omega) (by omega)
  have hP20 : -4611686014132420609 ≤ P2 := by rw [← hP2]; exact prod_ge N2 D1 (by omega) (by omega) (by omega) (by omega)
  obtain ⟨P3, hP3⟩ : ∃ v, D1 * D2 = v := ⟨_, rfl⟩
  have hP30 : 0 < P3 := by rw [← hP3]; exact Int.mul_pos (by omega) (by omega)
  have hP31 : P3 ≤ 4611686014132420609 := by rw [← hP3]; exact prod_le D1 D2 (by omega) (by omega) (by omega) (by omega)
  have HR : Hid (p - q = Rat.divInt (P1 - P2) P3) := by unfold Hid; rw [HA.out, HB.out, divInt_sub' _ _ a1 b1, hP1, hP2, hP3]
  clear HA HB
  go_wp2_with fail
  refine (ratio_any (P1 - P2) P3 w3 (by omega) (by omega) (by omega) (by omega)).mono ?_
  rintro e w4 ⟨s, A, n, c, t, B, m, d, rfl, hQ, hE4⟩
  rw [← HR.out] at hQ
  have HQ := LH hQ
  obtain ⟨⟨e0, e1, e2, e3⟩, ⟨f0, f1, f2, f3⟩, el⟩ := L3.out.ext hE4
  have HE4 := LH (ET HE3.out hE4)
  clear hQ hE4
  go_wp2_with fail
  refine bodyPost_ret (v := .agg #[.bool s, .slice A n c, .bool t, .slice B m d]) (by simp [results, Tryz.results28, go_sem, e0, e1, e2, e3]) rfl ?_
  exact ⟨_, _, _, _, _, _, _, _, rfl, retQ_fill (by omega) (by omega) HQ.out HE4.out _ _ _ _⟩
 ·have hb : x1 = false ∨ (x1 = true ∧ x2 = false) := by cases x1 <;> cases x2 <;> simp_all
  clear hx HS1 HS2
  obtain ⟨⟨g0, g1, g2, g3⟩, _, _⟩ := L1.out
  obtain ⟨⟨i0, i1, i2, i3⟩, _, _⟩ := L2.out
  rcases hb with rfl | ⟨rfl, rfl⟩
  all_goals
   go_wp2_with fail
   refine (calc_sub s1 A1 n1 c1 t1 B1 m1 d1 p s2 A2 n2 c2 t2 B2 m2 d2 q w3 (H1.out.ext HE3.out) (H2.out.ext HE3.out)).mono ?_
   rintro e w4 ⟨s, A, n, c, t, B, m, d, rfl, hQ, hE4⟩
   have HQ := LH hQ
   obtain ⟨⟨e0, e1, e2, e3⟩, ⟨f0, f1, f2, f3⟩, el⟩ := L3.out.ext hE4
   have HE4 := LH (ET HE3.out hE4)
   clear hQ hE4
   go_wp2_with fail
   refine bodyPost_ret (v := .agg #[.bool s, .slice A n c, .bool t, .slice B m d]) (by simp [results, Tryz.results28, go_sem, e0, e1, e2, e3]) rfl ?_
   exact ⟨_, _, _, _, _, _, _, _, rfl, retQ_fill (by omega) (by omega) HQ.out HE4.out _ _ _ _⟩
set_option maxRecDepth 100000 in
set_option maxHeartbeats 4000000 in
theorem qmul_any (s1 : Bool) (A1 : Option Addr) (n1 c1 : Nat) (t1 : Bool) (B1 : Option Addr) (m1 d1 : Nat) (p : Rat) (s2 : Bool) (A2 : Option Addr) (n2 c2 : Nat) (t2 : Bool) (B2 : Option Addr) (m2 d2 : Nat) (q : Rat) (w : World) (h1 : QArg w s1 A1 n1 c1 t1 B1 m1 d1 p) (h2 : QArg w s2 A2 n2 c2 t2 B2 m2 d2 q) :
  Calls Tryz.prog 29 #[.agg #[.bool s1, .slice A1 n1 c1, .bool t1, .slice B1 m1 d1], .agg #[.bool s2, .slice A2 n2 c2, .bool t2, .slice B2 m2 d2]] w (RetQ w (p * q)) := by
 go_enter Tryz.func29, Tryz.ntmps29
 go_wp2_with fail
 obtain ⟨k1, k2, k3, hE⟩ := boxQ3 w (.bool s1) (.slice A1 n1 c1) (.bool t1) (.slice B1 m1 d1) (.bool s2) (.slice A2 n2 c2) (.bool t2) (.slice B2 m2 d2) 29
 generalize ((w.alloc (.cells #[.bool s1, .slice A1 n1 c1, .bool t1, .slice B1 m1 d1] 29)).alloc (.cells #[.bool s2, .slice A2 n2 c2, .bool t2, .slice B2 m2 d2] 29)).alloc (.cells #[.bool false, .slice none 0 0, .bool false, .slice none 0 0] 29) = w1 at *
 refine (short_any s1 A1 n1 c1 t1 B1 m1 d1 p w1 (h1.1.ext hE)).mono ?_
 rintro e w2 ⟨N1, D1, x1, rfl, hs1, hE2⟩
 have K1 := LH (k1.ext hE2)
 have K2 := LH (k2.ext hE2)
 have K3 := LH (k3.ext hE2)
 have HE2 := LH (ET hE hE2)
 have H1 := LH h1
 have H2 := LH h2
 have HS1 := LH hs1
 clear k1 k2 k3 hE hE2 h1 h2 hs1
 obtain ⟨⟨g0, g1, g2, g3⟩, _, hl2⟩ := K2.out
 go_wp2_with fail
 refine (short_any s2 A2 n2 c2 t2 B2 m2 d2 q w2 (H2.out.1.ext HE2.out)).mono ?_
 rintro e w3 ⟨N2, D2, x2, rfl, hs2, hE3⟩
 have L1 := LH (K1.out.ext hE3)
 have L2 := LH (K2.out.ext hE3)
 have L3 := LH (K3.out.ext hE3)
 have HE3 := LH (ET HE2.out hE3)
 have HS2 := LH hs2
 clear hE3 hs2 K1 K2 K3 HE2 g0 g1 g2 g3
 have hl3 : w.heap.size + 1 + 1 < w3.heap.size := L3.out.2.2
 by_cases hx : x1 = true ∧ x2 = true
 ·obtain ⟨rfl, rfl⟩ := hx
  obtain ⟨a1, a2, a3, a4, a5⟩ := HS1.out rfl
  obtain ⟨b1, b2, b3, b4, b5⟩ := HS2.out rfl
  have HA := LH a5
  have HB := LH b5
  clear a5 b5 HS1 HS2
  obtain ⟨P1, hP1⟩ : ∃ v, N1 * N2 = v := ⟨_, rfl⟩
  have hP11 : P1 ≤ 4611686014132420609 := by rw [← hP1]; exact prod_le N1 N2 (by omega) (by omega) (by omega) (by omega)
  have hP10 : -4611686014132420609 ≤ P1 := by rw [← hP1]; exact prod_ge N1 N2 (by omega) (by omega) (by omega) (by omega)
  obtain ⟨P3, hP3⟩ : ∃ v, D1 * D2 = v := ⟨_, rfl⟩
  have hP30 : 0 < P3 := by rw [← hP3]; exact Int.mul_pos (by omega) (by omega)
  have hP31 : P3 ≤ 4611686014132420609 := by rw [← hP3]; exact prod_le D1 D2 (by omega) (by omega) (by omega) (by omega)
  have HR : Hid (p * q = Rat.divInt (P1) P3) := by unfold Hid; rw [HA.out, HB.out, Rat.divInt_mul_divInt, hP1, hP3]
  clear HA HB
  go_wp2_with fail
  refine (ratio_any (P1) P3 w3 (by omega) (by omega) (by omega) (by omega)).mono ?_
  rintro e w4 ⟨s, A, n, c, t, B, m, d, rfl, hQ, hE4⟩
  rw [← HR.out] at hQ
  have HQ := LH hQ
  obtain ⟨⟨e0, e1, e2, e3⟩, ⟨f0, f1, f2, f3⟩, el⟩ := L3.out.ext hE4
  have HE4 := LH (ET HE3.out hE4)
  clear hQ hE4
  go_wp2_with fail
  refine bodyPost_ret (v := .agg #[.bool s, .slice A n c, .bool t, .slice B m d]) (by simp [results, Tryz.results29, go_sem, e0, e1, e2, e3]) rfl ?_
  exact ⟨_, _, _, _, _, _, _, _, rfl, retQ_fill (by omega) (by omega) HQ.out HE4.out _ _ _ _⟩
 ·have hb : x1 = false ∨ (x1 = true ∧ x2 = false) := by cases x1 <;> cases x2 <;> simp_all
  clear hx HS1 HS2
  obtain ⟨⟨g0, g1, g2, g3⟩, _, _⟩ := L1.out
  obtain ⟨⟨i0, i1, i2, i3⟩, _, _⟩ := L2.out
  rcases hb with rfl | ⟨rfl, rfl⟩
  all_goals
   go_wp2_with fail
   refine (calc_mul s1 A1 n1 c1 t1 B1 m1 d1 p s2 A2 n2 c2 t2 B2 m2 d2 q w3 (H1.out.ext HE3.out) (H2.out.ext HE3.out)).mono ?_
   rintro e w4 ⟨s, A, n, c, t, B, m, d, rfl, hQ, hE4⟩
   have HQ := LH hQ
   obtain ⟨⟨e0, e1, e2, e3⟩, ⟨f0, f1, f2, f3⟩, el⟩ := L3.out.ext hE4
   have HE4 := LH (ET HE3.out hE4)
   clear hQ hE4
   go_wp2_with fail
   refine bodyPost_ret (v := .agg #[.bool s, .slice A n c, .bool t, .slice B m d]) (by simp [results, Tryz.results29, go_sem, e0, e1, e2, e3]) rfl ?_
   exact ⟨_, _, _, _, _, _, _, _, rfl, retQ_fill (by omega) (by omega) HQ.out HE4.out _ _ _ _⟩
end Go.Proofs.YtjinpfnefeiooaaGreat
namespace Go.Proofs.YtjinpfnefeiooaaGreat
open Go.RowKit

theorem boxQ2 (w : World) (v0 v1 v2 v3 u0 u1 u2 u3 : Value) (t : TypeId) :
  Cell4 ((w.alloc (.cells #[v0, v1, v2, v3] t)).alloc (.cells #[u0, u1, u2, u3] t)) w.heap.size v0 v1 v2 v3 ∧
  Cell4 ((w.alloc (.cells #[v0, v1, v2, v3] t)).alloc (.cells #[u0, u1, u2, u3] t)) (w.heap.size + 1) u0 u1 u2 u3 ∧
  Ext w ((w.alloc (.cells #[v0, v1, v2, v3] t)).alloc (.cells #[u0, u1, u2, u3] t)) :=
 ⟨(Cell4.new w _ rfl v0 v1 v2 v3 t).ext (Ext.al Ext.rfl' _), Cell4.new _ _ (by simp) u0 u1 u2 u3 t, Ext.al (Ext.al Ext.rfl' _) _⟩
set_option maxRecDepth 100000 in
set_option maxHeartbeats 4000000 in
theorem qcan_any (s1 : Bool) (A1 : Option Addr) (n1 c1 : Nat) (t1 : Bool) (B1 : Option Addr) (m1 d1 : Nat) (q : Rat) (w : World) (h1 : QArg w s1 A1 n1 c1 t1 B1 m1 d1 q) :
  Calls Tryz.prog 44 #[.agg #[.bool s1, .slice A1 n1 c1, .bool t1, .slice B1 m1 d1]] w (RetQ w q) := by
 go_enter Tryz.func44, Tryz.ntmps44
 go_wp2_with fail
 obtain ⟨k1, k2, hE⟩ := boxQ2 w (.bool s1) (.slice A1 n1 c1) (.bool t1) (.slice B1 m1 d1) (.bool false) (.slice none 0 0) (.bool false) (.slice none 0 0) 29
 generalize (w.alloc (.cells #[.bool s1, .slice A1 n1 c1, .bool t1, .slice B1 m1 d1] 29)).alloc (.cells #[.bool false, .slice none 0 0, .bool false, .slice none 0 0] 29) = w1 at *
 refine (short_any s1 A1 n1 c1 t1 B1 m1 d1 q w1 (h1.1.ext hE)).mono ?_
 rintro e w2 ⟨N1, D1, x1, rfl, hs1, hE2⟩
 have K1 := LH (k1.ext hE2)
 have K2 := LH (k2.ext hE2)
 have HE := LH (ET hE hE2)
 have H1 := LH h1
 have HS1 := LH hs1
 clear k1 k2 hE hE2 h1 hs1
 have hl3 : w.heap.size + 1 < w2.heap.size := K2.out.2.2
 cases x1
 ·obtain ⟨⟨g0, g1, g2, g3⟩, _, _⟩ := K1.out
  go_wp2_with fail
  refine (parts_any s1 A1 n1 c1 t1 B1 m1 d1 q w2 (H1.out.ext HE.out)).mono ?_
  rintro e w3 ⟨a1, X1, i1, j1, a2, X2, i2, j2, z1, y1, rfl, hz1, hy1, hp1, hq1, hi1, hi2, hE3⟩
  have HQ1 := LH hq1
  clear hq1
  go_wp2_with fail
  refine (reduce_any a1 X1 i1 j1 z1 a2 X2 i2 j2 y1 w3 hz1 hy1 (by omega) (by omega) hp1).mono ?_
  rintro e w4 ⟨s, A, n, c, t, B, m, d, rfl, hQ, hE4⟩
  rw [← HQ1.out] at hQ
  have hE9 := ET hE3 hE4
  have hs3 : w2.heap.size ≤ w3.heap.size := hE3.size
  clear hE3 hE4 hz1 hy1 g0 g1 g2 g3
  have HQ := LH hQ
  obtain ⟨⟨e0, e1, e2, e3⟩, ⟨f0, f1, f2, f3⟩, el⟩ := K2.out.ext hE9
  have HE9 := LH (ET HE.out hE9)
  clear hQ hE9
  go_wp2_with fail
  refine bodyPost_ret (v := .agg #[.bool s, .slice A n c, .bool t, .slice B m d]) (by simp [results, Tryz.results44, go_sem, e0, e1, e2, e3]) rfl ?_
  exact ⟨_, _, _, _, _, _, _, _, rfl, retQ_fill (by omega) (by omega) HQ.out HE9.out _ _ _ _⟩
 ·obtain ⟨a1, a2, a3, a4, a5⟩ := HS1.out rfl
  have HA := LH a5
  clear a5 HS1
  go_wp2_with fail
  refine (ratio_any N1 D1 w2 (by omega) (by omega) (by omega) (by omega)).mono ?_
  rintro e w4 ⟨s, A, n, c, t, B, m, d, rfl, hQ, hE9⟩
  rw [← HA.out] at hQ
  have HQ := LH hQ
  obtain ⟨⟨e0, e1, e2, e3⟩, ⟨f0, f1, f2, f3⟩, el⟩ := K2.out.ext hE9
  have HE9 := LH (ET HE.out hE9)
  clear hQ hE9
  go_wp2_with fail
  refine bodyPost_ret (v := .agg #[.bool s, .slice A n c, .bool t, .slice B m d]) (by simp [results, Tryz.results44, go_sem, e0, e1, e2, e3]) rfl ?_
  exact ⟨_, _, _, _, _, _, _, _, rfl, retQ_fill (by omega) (by omega) HQ.out HE9.out _ _ _ _⟩
set_option maxRecDepth 100000 in
set_option maxHeartbeats 4000000 in
theorem fsign_any (z : Int) (w : World) : Calls Tryz.prog 93 #[.int .i64 z] w fun e w' => e = .returned (.int .i64 z.sign) ∧ Ext w w' := by
 rcases sign3 z with ⟨h, hs⟩ | ⟨h, hs⟩ | ⟨h, hs⟩
 ·have hb : decide (z < 0) = true := decide_eq_true h
  have HS := LH hs
  clear hs
  go_enter Tryz.func93, Tryz.ntmps93
  go_wp2_with fail
  go_ret
  exact ⟨ret_i64 HS.out.symm, Ext.rfl'⟩
 ·subst h
  go_enter Tryz.func93, Tryz.ntmps93
  go_wp2_with fail
  go_ret
  exact ⟨ret_i64 hs.symm, Ext.rfl'⟩
 ·have hb : decide (z < 0) = false := decide_eq_false (by omega)
  have hb2 : decide (0 < z) = true := decide_eq_true h
  have HS := LH hs
  clear hs
  go_enter Tryz.func93, Tryz.ntmps93
  go_wp2_with fail
  go_ret
  exact ⟨ret_i64 HS.out.symm, Ext.rfl'⟩
set_option maxRecDepth 100000 in
set_option maxHeartbeats 4000000 in
theorem qcmp_any (s1 : Bool) (A1 : Option Addr) (n1 c1 : Nat) (t1 : Bool) (B1 : Option Addr) (m1 d1 : Nat) (p : Rat) (s2 : Bool) (A2 : Option Addr) (n2 c2 : Nat) (t2 : Bool) (B2 : Option Addr) (m2 d2 : Nat) (q : Rat) (w : World) (h1 : QArg w s1 A1 n1 c1 t1 B1 m1 d1 p) (h2 : QArg w s2 A2 n2 c2 t2 B2 m2 d2 q) :
  Calls Tryz.prog 69 #[.agg #[.bool s1, .slice A1 n1 c1, .bool t1, .slice B1 m1 d1], .agg #[.bool s2, .slice A2 n2 c2, .bool t2, .slice B2 m2 d2]] w fun e w' => e = .returned (.int .i64 (cmpQ p q)) ∧ Ext w w' := by
 go_enter Tryz.func69, Tryz.ntmps69
 go_wp2_with fail
 obtain ⟨k1, k2, hE⟩ := boxQ2 w (.bool s1) (.slice A1 n1 c1) (.bool t1) (.slice B1 m1 d1) (.bool s2) (.slice A2 n2 c2) (.bool t2) (.slice B2 m2 d2) 29
 generalize (w.alloc (.cells #[.bool s1, .slice A1 n1 c1, .bool t1, .slice B1 m1 d1] 29)).alloc (.cells #[.bool s2, .slice A2 n2 c2, .bool t2, .slice B2 m2 d2] 29) = w1 at *
 refine (parts_any s1 A1 n1 c1 t1 B1 m1 d1 p w1 (h1.ext hE)).mono ?_
 rintro e w2 ⟨a1, X1, i1, j1, a2, X2, i2, j2, z1, y1, rfl, hz1, hy1, hp1, hq1, hi1, hi2, hE2⟩
 have K2 := LH (k2.ext hE2)
 have HE2 := LH (ET hE hE2)
 have H2 := LH h2
 have HZ1 := LH hz1
 have HY1 := LH hy1
 have HQ1 := LH hq1
 clear k1 k2 hE hE2 h1 h2 hz1 hy1 hq1
 obtain ⟨⟨g0, g1, g2, g3⟩, _, hl2⟩ := K2.out
 have hl4 : w.heap.size < w2.heap.size := by omega
 go_wp2_with fail
 obtain ⟨c7, c8, hE3⟩ := two2 w2 (.bool a1) (.slice X1 i1 j1) (.bool a2) (.slice X2 i2 j2) 27
 generalize ((w2.alloc (.cells #[.bool a1, .slice X1 i1 j1] 27)).alloc (.cells #[.bool a2, .slice X2 i2 j2] 27)) = w3 at *
 refine (parts_any s2 A2 n2 c2 t2 B2 m2 d2 q w3 (H2.out.ext (ET HE2.out hE3))).mono ?_
 rintro e w4 ⟨b1, Y1, u1, v1, b2, Y2, u2, v2, z2, y2, rfl, hz2, hy2, hp2, hq2, hu1, hu2, hE4⟩
 have hE34 := ET hE3 hE4
 have C7 := LH (c7.ext hE4)
 have C8 := LH (c8.ext hE4)
 have HE4 := LH (ET HE2.out hE34)
 have HZ1' := LH (HZ1.out.ext hE34)
 have HY1' := LH (HY1.out.ext hE34)
 have HZ2 := LH hz2
 have HY2 := LH hy2
 have HQ2 := LH hq2
 have hl7 : w2.heap.size + 1 < w4.heap.size := C8.out.2.2.2.2
 clear c7 c8 hE3 hE4 hE34 hz2 hy2 hq2 HZ1 HY1 K2 g0 g1 g2 g3 HE2 H2
 go_wp2_with fail
 obtain ⟨c9, c10, hE5⟩ := two2 w4 (.bool b1) (.slice Y1 u1 v1) (.bool b2) (.slice Y2 u2 v2) 27
 generalize ((w4.alloc (.cells #[.bool b1, .slice Y1 u1 v1] 27)).alloc (.cells #[.bool b2, .slice Y2 u2 v2] 27)) = w5 at *
 have D7 := LH ((C7.out.ext hE5).ext (Ext.rfl' (w := w5)).drew)
 have D8 := LH ((C8.out.ext hE5).ext (Ext.rfl' (w := w5)).drew)
 have D9 := LH (c9.ext (Ext.rfl' (w := w5)).drew)
 have D10 := LH (c10.ext (Ext.rfl' (w := w5)).drew)
 have HE5 : Hid (Ext w w5.drew) := (ET HE4.out hE5).drew
 have G1 := LH ((HZ1'.out.ext hE5).ext (Ext.rfl' (w := w5)).drew)
 have G2 := LH ((HY1'.out.ext hE5).ext (Ext.rfl' (w := w5)).drew)
 have G3 := LH ((HZ2.out.ext hE5).ext (Ext.rfl' (w := w5)).drew)
 have G4 := LH ((HY2.out.ext hE5).ext (Ext.rfl' (w := w5)).drew)
 clear c9 c10 hE5 C7 C8 HE4 HZ1' HY1' HZ2 HY2
 refine wp_region_lex (C := InX w5.drew []) (by kernel_rfl) (by kernel_rfl) (inX_self _ _) ?_
 generalize w5.drew = wd at *
 have x0 := fun y : ExtX wd [] => y.cell (p := ⟨w2.heap.size, 0, none⟩) D7.out.1 (by simp)
 have x1 := fun y : ExtX wd [] => y.cell (p := ⟨w2.heap.size, 1, none⟩) D7.out.2.1 (by simp)
 have x2 := fun y : ExtX wd [] => y.cell (p := ⟨w4.heap.size, 0, none⟩) D9.out.1 (by simp)
 have x3 := fun y : ExtX wd [] => y.cell (p := ⟨w4.heap.size, 1, none⟩) D9.out.2.1 (by simp)
 repeat (refine wpLex_still (by rfl) ?_; go_big_quiet_step (exact ⟨rfl, rfl⟩); refine wpQuiet_nil ?_)
 refine wpLex_move (by rfl) (by rfl) ?_
 go_wp2_with fail
 refine (sign_any a1 X1 i1 j1 z1 wd G1.out).mono ?_
 rintro e w6 ⟨rfl, hE6⟩
 obtain ⟨σ1, hσ1⟩ : ∃ s, z1.sign = s := ⟨_, rfl⟩
 rw [hσ1]
 have HS1 := LH hσ1
 have hσ : -1 ≤ σ1 ∧ σ1 ≤ 1 := by rw [← hσ1]; rcases sign3 z1 with ⟨_, e⟩ | ⟨_, e⟩ | ⟨_, e⟩ <;> rw [e] <;> omega
 obtain ⟨hσa, hσb⟩ := hσ
 clear hσ1
 go_wp2_with fail
 refine And.intro (inX_of_ext _ hE6) ?_
 repeat (refine wpLex_still (by rfl) ?_; go_big_quiet_step (exact ⟨rfl, rfl⟩); refine wpQuiet_nil ?_)
 refine wpLex_move (by rfl) (by rfl) ?_
 go_wp2_with fail
 refine (sign_any b1 Y1 u1 v1 z2 w6 (G3.out.ext hE6)).mono ?_
 rintro e w7 ⟨rfl, hE7⟩
 obtain ⟨σ2, hσ2⟩ : ∃ s, z2.sign = s := ⟨_, rfl⟩
 rw [hσ2]
 have HS2 := LH hσ2
 have hτ : -1 ≤ σ2 ∧ σ2 ≤ 1 := by rw [← hσ2]; rcases sign3 z2 with ⟨_, e⟩ | ⟨_, e⟩ | ⟨_, e⟩ <;> rw [e] <;> omega
 obtain ⟨hτa, hτb⟩ := hτ
 clear hσ2
 have hE67 := ET hE6 hE7
 go_wp2_with fail
 refine And.intro (inX_of_ext _ hE67) ?_
 repeat (refine wpLex_still (by rfl) ?_; go_big_quiet_step (exact ⟨rfl, rfl⟩); refine wpQuiet_nil ?_)
 refine wpLex_nil ?_
 clear x0 x1 x2 x3
 have E7 := LH (D7.out.ext hE67)
 have E8 := LH (D8.out.ext hE67)
 have E9 := LH (D9.out.ext hE67)
 have E10 := LH (D10.out.ext hE67)
 have HE7 := LH (ET HE5.out hE67)
 have G1' := LH (G1.out.ext hE67)
 have G2' := LH (G2.out.ext hE67)
 have G3' := LH (G3.out.ext hE67)
 have G4' := LH (G4.out.ext hE67)
 clear D7 D8 D9 D10 HE5 G1 G2 G3 G4 hE6 hE7 hE67
 by_cases hd : σ1 ≠ σ2 ∨ σ1 = 0
 ·have HR : Hid ((σ1 - σ2).sign = cmpQ p q) := by
   unfold Hid
   rw [HQ1.out, HQ2.out, cmpQ_signs hp1 hp2 (by rw [HS1.out, HS2.out]; exact hd), HS1.out, HS2.out]
  have hb : (σ1 != σ2) = true ∨ ((σ1 != σ2) = false ∧ (σ1 == 0) = true) := by
   by_cases e : σ1 = σ2
   ·refine .inr ⟨by simp [e], ?_⟩
    rcases hd with hd | hd
    ·exact absurd e hd
    ·simp [hd]
   ·exact .inl (by simp [e])
  clear hd HS1 HS2
  rcases hb with hb | ⟨hb, hb2⟩
  all_goals
   go_wp2_with fail
   refine (fsign_any _ w7).mono ?_
   rintro e w8 ⟨rfl, hE8⟩
   generalize hτ : (σ1 - σ2).sign = τ at *
   clear hτ
   have HE8 := LH (ET HE7.out hE8)
   clear hE8
   go_wp2_with fail
   go_ret
   exact ⟨ret_i64 HR.out, HE8.out⟩
 ·have hb : (σ1 != σ2) = false := by
   by_cases e : σ1 = σ2
   ·simp [e]
   ·exact absurd (.inl e) hd
  have hb2 : (σ1 == 0) = false := by
   by_cases e : σ1 = 0
   ·exact absurd (.inr e) hd
   ·simp [e]
  have HR : Hid (cmpZ (z1 * y2) (z2 * y1) = cmpQ p q) := by
   unfold Hid
   rw [HQ1.out, HQ2.out, cmpQ_parts hp1 hp2]
   rfl
  clear hd HS1 HS2
  go_wp2_with fail
  refine wp_region_lex (C := InX w7.drew []) (by kernel_rfl) (by kernel_rfl) (inX_self _ _) ?_
  have hE8 : Ext w7 w7.drew := Ext.rfl'.drew
  generalize w7.drew = we at *
  have x0 := fun y : ExtX we [] => y.cell (p := ⟨w2.heap.size, 0, none⟩) (E7.out.ext hE8).1 (by simp)
  have x1 := fun y : ExtX we [] => y.cell (p := ⟨w2.heap.size, 1, none⟩) (E7.out.ext hE8).2.1 (by simp)
  have x2 := fun y : ExtX we [] => y.cell (p := ⟨w2.heap.size + 1, 0, none⟩) (E8.out.ext hE8).1 (by simp)
  have x3 := fun y : ExtX we [] => y.cell (p := ⟨w2.heap.size + 1, 1, none⟩) (E8.out.ext hE8).2.1 (by simp)
  have x4 := fun y : ExtX we [] => y.cell (p := ⟨w4.heap.size, 0, none⟩) (E9.out.ext hE8).1 (by simp)
  have x5 := fun y : ExtX we [] => y.cell (p := ⟨w4.heap.size, 1, none⟩) (E9.out.ext hE8).2.1 (by simp)
  have x6 := fun y : ExtX we [] => y.cell (p := ⟨w4.heap.size + 1, 0, none⟩) (E10.out.ext hE8).1 (by simp)
  have x7 := fun y : ExtX we [] => y.cell (p := ⟨w4.heap.size + 1, 1, none⟩) (E10.out.ext hE8).2.1 (by simp)
  repeat (refine wpLex_still (by rfl) ?_; go_big_quiet_step (exact ⟨rfl, rfl⟩); refine wpQuiet_nil ?_)
  refine wpLex_move (by rfl) (by rfl) ?_
  go_wp2_with fail
  refine (mul_any a1 X1 i1 j1 z1 b2 Y2 u2 v2 y2 we (G1'.out.ext hE8) (G4'.out.ext hE8) (by omega) (by omega)).mono ?_
  rintro e w9 ⟨r1, R1, k1, l1, rfl, hm1, hE9⟩
  have hk1 : k1 ≤ i1 + u2 := words_bd hm1 (natAbs_mul_lt (natAbs_ZIs G1'.out) (natAbs_ZIs G4'.out))
  have HM1 := LH hm1
  clear hm1
  go_wp2_with fail
  refine And.intro (inX_of_ext _ hE9) ?_
  repeat (refine wpLex_still (by rfl) ?_; go_big_quiet_step (exact ⟨rfl, rfl⟩); refine wpQuiet_nil ?_)
  refine wpLex_move (by rfl) (by rfl) ?_
  go_wp2_with fail
  refine (mul_any b1 Y1 u1 v1 z2 a2 X2 i2 j2 y1 w9 ((G3'.out.ext hE8).ext hE9) ((G2'.out.ext hE8).ext hE9) (by omega) (by omega)).mono ?_
  rintro e w10 ⟨r2, R2, k2, l2, rfl, hm2, hE10⟩
  have hk2 : k2 ≤ u1 + i2 := words_bd hm2 (natAbs_mul_lt (natAbs_ZIs G3'.out) (natAbs_ZIs G2'.out))
  have HM2 := LH hm2
  have hE910 := ET hE9 hE10
  clear hm2
  go_wp2_with fail
  refine And.intro (inX_of_ext _ hE910) ?_
  repeat (refine wpLex_still (by rfl) ?_; go_big_quiet_step (exact ⟨rfl, rfl⟩); refine wpQuiet_nil ?_)
  refine wpLex_move (by rfl) (by rfl) ?_
  go_wp2_with fail
  refine (cmp_any r1 R1 k1 l1 _ r2 R2 k2 l2 _ w10 (HM1.out.ext hE10).is HM2.out.is (by omega) (by omega)).mono ?_
  rintro e w11 ⟨rfl, hE11⟩
  rw [HR.out]
  have hE12 := ET hE910 hE11
  go_wp2_with fail
  refine And.intro (inX_of_ext _ hE12) ?_
  repeat (refine wpLex_still (by rfl) ?_; go_big_quiet_step (exact ⟨rfl, rfl⟩); refine wpQuiet_nil ?_)
  refine wpLex_nil ?_
  go_wp2_with fail
  go_ret
  exact ⟨rfl, ET HE7.out (ET hE8 hE12)⟩
end Go.Proofs.YtjinpfnefeiooaaGreat
namespace Go.Proofs.YtjinpfnefeiooaaGreat
open Go.RowKit
theorem cmpQ_neg (p q : Rat) : cmpQ p q < 0 ↔ p < q := by
 unfold cmpQ
 by_cases h1 : p < q
 ·rw [if_pos h1]; simp [h1]
 ·rw [if_neg h1]
  by_cases h2 : q < p
  ·rw [if_pos h2]; simp [h1]
  ·rw [if_neg h2]; simp [h1]
theorem cmpQ_pos (p q : Rat) : 0 < cmpQ p q ↔ q < p := by
 unfold cmpQ
 by_cases h1 : p < q
 ·rw [if_pos h1]; simp; exact Rat.not_lt.2 (Rat.le_of_lt h1)
 ·rw [if_neg h1]
  by_cases h2 : q < p
  ·rw [if_pos h2]; simp [h2]
  ·rw [if_neg h2]; simp [h2]
theorem i64_words {z : Int} {w0 : World} {B0 : Nat} {b : Bool} {A : Option Addr} {n c : Nat} (hz : I64r z) (hc : ZCan w0 B0 b A n c z) : n ≤ 2 := by
 refine words_bd hc ?_
 obtain ⟨h1, h2⟩ := hz
 rw [show 4294967296 ^ 2 = 18446744073709551616 by decide]
 omega
def minQ (p q : Rat) : Rat := if q < p then q else p
set_option maxRecDepth 100000 in
set_option maxHeartbeats 4000000 in
theorem qmin_any (s1 : Bool) (A1 : Option Addr) (n1 c1 : Nat) (t1 : Bool) (B1 : Option Addr) (m1 d1 : Nat) (p : Rat) (s2 : Bool) (A2 : Option Addr) (n2 c2 : Nat) (t2 : Bool) (B2 : Option Addr) (m2 d2 : Nat) (q : Rat) (w : World) (h1 : QArg w s1 A1 n1 c1 t1 B1 m1 d1 p) (h2 : QArg w s2 A2 n2 c2 t2 B2 m2 d2 q) :
  Calls Tryz.prog 81 #[.agg #[.bool s1, .slice A1 n1 c1, .bool t1, .slice B1 m1 d1], .agg #[.bool s2, .slice A2 n2 c2, .bool t2, .slice B2 m2 d2]] w (RetQ w (minQ p q)) := by
 go_enter Tryz.func81, Tryz.ntmps81
 go_wp2_with fail
 obtain ⟨k1, k2, k3, hE⟩ := boxQ3 w (.bool s1) (.slice A1 n1 c1) (.bool t1) (.slice B1 m1 d1) (.bool s2) (.slice A2 n2 c2) (.bool t2) (.slice B2 m2 d2) 29
 generalize ((w.alloc (.cells #[.bool s1, .slice A1 n1 c1, .bool t1, .slice B1 m1 d1] 29)).alloc (.cells #[.bool s2, .slice A2 n2 c2, .bool t2, .slice B2 m2 d2] 29)).alloc (.cells #[.bool false, .slice none 0 0, .bool false, .slice none 0 0] 29) = w1 at *
 refine (qcmp_any s2 A2 n2 c2 t2 B2 m2 d2 q s1 A1 n1 c1 t1 B1 m1 d1 p w1 (h2.ext hE) (h1.ext hE)).mono ?_
 rintro e w2 ⟨rfl, hE2⟩
 have hneg := cmpQ_neg q p
 generalize cmpQ q p = k at *
 have K3 := LH (k3.ext hE2)
 have HE := LH (ET hE hE2)
 obtain ⟨⟨g0, g1, g2, g3⟩, _, _⟩ := k1.ext hE2
 obtain ⟨⟨i0, i1, i2, i3⟩, _, _⟩ := k2.ext hE2
 have hl : w.heap.size + 1 + 1 < w2.heap.size := K3.out.2.2
 have H1 := LH (h1.ext HE.out)
 have H2 := LH (h2.ext HE.out)
 clear k1 k2 k3 hE hE2 h1 h2
 by_cases hk : k < 0
 ·have hb : decide (k < 0) = true := decide_eq_true hk
  have HR : Hid (minQ p q = q) := by unfold Hid minQ; rw [if_pos (hneg.1 hk)]
  clear hneg hk
  go_wp2_with fail
  refine (qcan_any s2 A2 n2 c2 t2 B2 m2 d2 q w2 H2.out).mono ?_
  rintro e w3 ⟨s, A, n, c, t, B, m, d, rfl, hQ, hE9⟩
  rw [← HR.out] at hQ
  have HQ := LH hQ
  obtain ⟨⟨e0, e1, e2, e3⟩, ⟨f0, f1, f2, f3⟩, el⟩ := K3.out.ext hE9
  have HE9 := LH (ET HE.out hE9)
  clear hQ hE9
  go_wp2_with fail
  refine bodyPost_ret (v := .agg #[.bool s, .slice A n c, .bool t, .slice B m d]) (by simp [results, Tryz.results81, go_sem, e0, e1, e2, e3]) rfl ?_
  exact ⟨_, _, _, _, _, _, _, _, rfl, retQ_fill (by omega) (by omega) HQ.out HE9.out _ _ _ _⟩
 ·have hb : decide (k < 0) = false := decide_eq_false hk
  have HR : Hid (minQ p q = p) := by unfold Hid minQ; rw [if_neg (fun e => hk (hneg.2 e))]
  clear hneg hk
  go_wp2_with fail
  refine (qcan_any s1 A1 n1 c1 t1 B1 m1 d1 p w2 H1.out).mono ?_
  rintro e w3 ⟨s, A, n, c, t, B, m, d, rfl, hQ, hE9⟩
  rw [← HR.out] at hQ
  have HQ := LH hQ
  obtain ⟨⟨e0, e1, e2, e3⟩, ⟨f0, f1, f2, f3⟩, el⟩ := K3.out.ext hE9
  have HE9 := LH (ET HE.out hE9)
  clear hQ hE9
  go_wp2_with fail
  refine bodyPost_ret (v := .agg #[.bool s, .slice A n c, .bool t, .slice B m d]) (by simp [results, Tryz.results81, go_sem, e0, e1, e2, e3]) rfl ?_
  exact ⟨_, _, _, _, _, _, _, _, rfl, retQ_fill (by omega) (by omega) HQ.out HE9.out _ _ _ _⟩
end Go.Proofs.YtjinpfnefeiooaaGreat
