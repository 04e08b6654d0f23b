/- Contracts of frac.Div and frac.Max. Printed by gen_div2.py. -/
import Derived.Test.YtfokholpgakjpaaDivQ
import Derived.Test.YtfokholpgakjpaaStepX
namespace Go.Proofs.Ytfokholpgakjpaa
open Go.RowKit

/-- The quotient and the error that frac.Div answers. -/
def RetDiv (w : World) (p q : Rat) (e : Ending) (w' : World) : Prop := ∃ s A n c t B m d, e = .returned (.tuple #[.agg #[.bool s, .slice A n c, .bool t, .slice B m d], .int .i64 (if q = 0 then 7 else 0)]) ∧ QCan w' w.heap.size s A n c t B m d (p / q) ∧ Ext w w'
theorem sign_zero_iff (q : Rat) : q.num.sign = 0 ↔ q = 0 := by
  rw [Int.sign_eq_zero_iff_zero]
  exact Rat.num_eq_zero
theorem ret_div {v : Value} {a b : Int} (h : a = b) : Ending.returned (.tuple #[v, .int .i64 a]) = .returned (.tuple #[v, .int .i64 b]) := by rw [h]
theorem divInt_flip (n d : Int) : Rat.divInt (-n) (-d) = Rat.divInt n d := Rat.neg_divInt_neg n d
set_option maxRecDepth 100000 in
set_option maxHeartbeats 4000000 in
theorem qdiv_any (s1 : Bool) (A1 : Option Addr) (n1 c1 : Nat) (t1 : Bool) (B1 : Option Addr) (m1 d1 : Nat) (p : Rat) (s2 : Bool) (A2 : Option Addr) (n2 c2 : Nat) (t2 : Bool) (B2 : Option Addr) (m2 d2 : Nat) (q : Rat) (w : World) (h1 : QArg w s1 A1 n1 c1 t1 B1 m1 d1 p) (h2 : QArg w s2 A2 n2 c2 t2 B2 m2 d2 q) :
    Calls Try.prog 39 #[.agg #[.bool s1, .slice A1 n1 c1, .bool t1, .slice B1 m1 d1], .agg #[.bool s2, .slice A2 n2 c2, .bool t2, .slice B2 m2 d2]] w (RetDiv w p q) := by
  go_enter Try.func39, Try.ntmps39
  go_wp2_with fail
  obtain ⟨k1, k2, k3, hE⟩ := boxQ3 w (.bool s1) (.slice A1 n1 c1) (.bool t1) (.slice B1 m1 d1) (.bool s2) (.slice A2 n2 c2) (.bool t2) (.slice B2 m2 d2) 30
  generalize ((w.alloc (.cells #[.bool s1, .slice A1 n1 c1, .bool t1, .slice B1 m1 d1] 30)).alloc (.cells #[.bool s2, .slice A2 n2 c2, .bool t2, .slice B2 m2 d2] 30)).alloc (.cells #[.bool false, .slice none 0 0, .bool false, .slice none 0 0] 30) = w1 at *
  refine (qsign_any s2 A2 n2 c2 t2 B2 m2 d2 q w1 (h2.1.ext hE)).mono ?_
  rintro e wa ⟨rfl, hEa⟩
  have HSZ := Lib.hid (sign_zero_iff q)
  obtain ⟨sg, hsg⟩ : ∃ v, q.num.sign = v := ⟨_, rfl⟩
  rw [hsg] at HSZ
  rw [hsg]
  clear hsg
  have M1 := Lib.hid (k1.ext hEa)
  have M2 := Lib.hid (k2.ext hEa)
  have M3 := Lib.hid (k3.ext hEa)
  have HEA := Lib.hid (Ext.trans hE hEa)
  have H1 := Lib.hid h1
  have H2 := Lib.hid h2
  clear k1 k2 k3 hE hEa h1 h2
  have hlA : w.heap.size + 1 + 1 < wa.heap.size := M3.out.2.2
  by_cases hz : q = 0
  · have hs0 := HSZ.out.2 hz
    subst hs0
    have HZ := Lib.hid hz
    clear hz HSZ
    obtain ⟨⟨e0, e1, e2, e3⟩, ⟨f0, f1, f2, f3⟩, el⟩ := M3.out
    go_wp2_with fail
    refine bodyPost_ret (v := .tuple #[.agg #[.bool false, .slice none 0 0, .bool false, .slice none 0 0], .int .i64 7]) (by simp [results, Try.results39, go_sem, e0, e1, e2, e3]) rfl ?_
    have hq : QCan wa (w.heap.size + 1 + 1 + 1) false none 0 0 false none 0 0 (p / q) := by rw [HZ.out, show p / (0 : Rat) = 0 by rw [Rat.div_def, Rat.inv_zero, Rat.mul_zero]]; exact qcan_zero _ _
    exact ⟨_, _, _, _, _, _, _, _, ret_div (by rw [if_pos HZ.out]), retQ_fill (by omega) (by omega) hq HEA.out _ _ _ _⟩
  have hs0 : (sg == 0) = false := by simp; exact fun e => hz (HSZ.out.1 e)
  have HZ := Lib.hid hz
  clear hz HSZ
  obtain ⟨⟨g0, g1, g2, g3⟩, -, hl1⟩ := M1.out
  go_wp2_with fail
  refine (short_any s1 A1 n1 c1 t1 B1 m1 d1 p wa (H1.out.1.ext HEA.out)).mono ?_
  rintro e w2 ⟨N1, D1, x1, rfl, hs1, hE2⟩
  have K1 := Lib.hid (M1.out.ext hE2)
  have K2 := Lib.hid (M2.out.ext hE2)
  have K3 := Lib.hid (M3.out.ext hE2)
  have HE2 := Lib.hid (Ext.trans HEA.out hE2)
  have HS1 := Lib.hid hs1
  clear hE2 hs1 g0 g1 g2 g3 hl1 M1 M2 M3 HEA
  obtain ⟨⟨g0, g1, g2, g3⟩, -, hl2⟩ := K2.out
  go_wp2_with fail
  refine (short_any s2 A2 n2 c2 t2 B2 m2 d2 q w2 (H2.out.1.ext HE2.out)).mono ?_
  rintro e w3 ⟨N2, D2, x2, rfl, hs2, hE3⟩
  have L1 := Lib.hid (K1.out.ext hE3)
  have L2 := Lib.hid (K2.out.ext hE3)
  have L3 := Lib.hid (K3.out.ext hE3)
  have HE3 := Lib.hid (Ext.trans HE2.out hE3)
  have HS2 := Lib.hid hs2
  clear hE3 hs2 K1 K2 K3 HE2 g0 g1 g2 g3 hl2
  have hl3 : w.heap.size + 1 + 1 < w3.heap.size := L3.out.2.2
  by_cases hx : x1 = true ∧ x2 = true
  · obtain ⟨rfl, rfl⟩ := hx
    obtain ⟨a1, a2, a3, a4, a5⟩ := HS1.out rfl
    obtain ⟨b1, b2, b3, b4, b5⟩ := HS2.out rfl
    have HA := Lib.hid a5
    have HB := Lib.hid b5
    have hN2 : N2 ≠ 0 := divInt_ne (y := D2) (by rw [← b5]; exact HZ.out)
    clear a5 b5 HS1 HS2
    by_cases hng : N2 < 0
    · have hb : decide (N2 < 0) = true := decide_eq_true hng
      obtain ⟨P1, hP1⟩ : ∃ v, (-N1) * D2 = v := ⟨_, rfl⟩
      have hP11 : P1 ≤ 4611686014132420609 := by rw [← hP1]; exact prod_le (-N1) D2 (by omega) (by omega) (by omega) (by omega)
      have hP10 : -4611686014132420609 ≤ P1 := by rw [← hP1]; exact prod_ge (-N1) D2 (by omega) (by omega) (by omega) (by omega)
      obtain ⟨P3, hP3⟩ : ∃ v, D1 * (-N2) = v := ⟨_, rfl⟩
      have hP30 : 0 < P3 := by rw [← hP3]; exact Int.mul_pos (by omega) (by omega)
      have hP31 : P3 ≤ 4611686014132420609 := by rw [← hP3]; exact prod_le D1 (-N2) (by omega) (by omega) (by omega) (by omega)
      have HR : Hid (p / q = Rat.divInt P1 P3) := by unfold Hid; rw [HA.out, HB.out, divInt_div', ← hP1, ← hP3, Int.neg_mul, Int.mul_neg, divInt_flip]
      clear HA HB
      go_wp2_with fail
      refine (ratio_any P1 P3 w3 (by omega) (by omega) (by omega) (by omega)).mono ?_
      rintro e w4 ⟨s, A, n, c, t, B, m, d, rfl, hQ, hE4⟩
      rw [← HR.out] at hQ
      have HQ := Lib.hid hQ
      obtain ⟨⟨e0, e1, e2, e3⟩, ⟨f0, f1, f2, f3⟩, el⟩ := L3.out.ext hE4
      have HE4 := Lib.hid (Ext.trans HE3.out hE4)
      clear hQ hE4
      go_wp2_with fail
      refine bodyPost_ret (v := .tuple #[.agg #[.bool s, .slice A n c, .bool t, .slice B m d], .int .i64 0]) (by simp [results, Try.results39, go_sem, e0, e1, e2, e3]) rfl ?_
      exact ⟨_, _, _, _, _, _, _, _, ret_div (by rw [if_neg HZ.out]), retQ_fill (by omega) (by omega) HQ.out HE4.out _ _ _ _⟩
    · have hb : decide (N2 < 0) = false := decide_eq_false hng
      obtain ⟨P1, hP1⟩ : ∃ v, N1 * D2 = v := ⟨_, rfl⟩
      have hP11 : P1 ≤ 4611686014132420609 := by rw [← hP1]; exact prod_le N1 D2 (by omega) (by omega) (by omega) (by omega)
      have hP10 : -4611686014132420609 ≤ P1 := by rw [← hP1]; exact prod_ge N1 D2 (by omega) (by omega) (by omega) (by omega)
      obtain ⟨P3, hP3⟩ : ∃ v, D1 * N2 = v := ⟨_, rfl⟩
      have hP30 : 0 < P3 := by rw [← hP3]; exact Int.mul_pos (by omega) (by omega)
      have hP31 : P3 ≤ 4611686014132420609 := by rw [← hP3]; exact prod_le D1 N2 (by omega) (by omega) (by omega) (by omega)
      have HR : Hid (p / q = Rat.divInt P1 P3) := by unfold Hid; rw [HA.out, HB.out, divInt_div', hP1, hP3]
      clear HA HB
      go_wp2_with fail
      refine (ratio_any P1 P3 w3 (by omega) (by omega) (by omega) (by omega)).mono ?_
      rintro e w4 ⟨s, A, n, c, t, B, m, d, rfl, hQ, hE4⟩
      rw [← HR.out] at hQ
      have HQ := Lib.hid hQ
      obtain ⟨⟨e0, e1, e2, e3⟩, ⟨f0, f1, f2, f3⟩, el⟩ := L3.out.ext hE4
      have HE4 := Lib.hid (Ext.trans HE3.out hE4)
      clear hQ hE4
      go_wp2_with fail
      refine bodyPost_ret (v := .tuple #[.agg #[.bool s, .slice A n c, .bool t, .slice B m d], .int .i64 0]) (by simp [results, Try.results39, go_sem, e0, e1, e2, e3]) rfl ?_
      exact ⟨_, _, _, _, _, _, _, _, ret_div (by rw [if_neg HZ.out]), retQ_fill (by omega) (by omega) HQ.out HE4.out _ _ _ _⟩
  have hb : x1 = false ∨ (x1 = true ∧ x2 = false) := by cases x1 <;> cases x2 <;> simp_all
  clear hx HS1 HS2
  obtain ⟨⟨g0, g1, g2, g3⟩, -, -⟩ := L1.out
  obtain ⟨⟨i0, i1, i2, i3⟩, -, -⟩ := L2.out
  rcases hb with rfl | ⟨rfl, rfl⟩
  all_goals
    go_wp2_with fail
    refine (calc_div s1 A1 n1 c1 t1 B1 m1 d1 p s2 A2 n2 c2 t2 B2 m2 d2 q w3 (H1.out.ext HE3.out) (H2.out.ext HE3.out) HZ.out).mono ?_
    rintro e w4 ⟨s, A, n, c, t, B, m, d, rfl, hQ, hE4⟩
    have HQ := Lib.hid hQ
    obtain ⟨⟨e0, e1, e2, e3⟩, ⟨f0, f1, f2, f3⟩, el⟩ := L3.out.ext hE4
    have HE4 := Lib.hid (Ext.trans HE3.out hE4)
    clear hQ hE4
    go_wp2_with fail
    refine bodyPost_ret (v := .tuple #[.agg #[.bool s, .slice A n c, .bool t, .slice B m d], .int .i64 0]) (by simp [results, Try.results39, go_sem, e0, e1, e2, e3]) rfl ?_
    exact ⟨_, _, _, _, _, _, _, _, ret_div (by rw [if_neg HZ.out]), retQ_fill (by omega) (by omega) HQ.out HE4.out _ _ _ _⟩
/-- The greater of the two. -/
def maxQ (p q : Rat) : Rat := if p < q then q else p
set_option maxRecDepth 100000 in
set_option maxHeartbeats 4000000 in
theorem qmax_any (s1 : Bool) (A1 : Option Addr) (n1 c1 : Nat) (t1 : Bool) (B1 : Option Addr) (m1 d1 : Nat) (p : Rat) (s2 : Bool) (A2 : Option Addr) (n2 c2 : Nat) (t2 : Bool) (B2 : Option Addr) (m2 d2 : Nat) (q : Rat) (w : World) (h1 : QArg w s1 A1 n1 c1 t1 B1 m1 d1 p) (h2 : QArg w s2 A2 n2 c2 t2 B2 m2 d2 q) :
    Calls Try.prog 22 #[.agg #[.bool s1, .slice A1 n1 c1, .bool t1, .slice B1 m1 d1], .agg #[.bool s2, .slice A2 n2 c2, .bool t2, .slice B2 m2 d2]] w (RetQ w (maxQ p q)) := by
  go_enter Try.func22, Try.ntmps22
  go_wp2_with fail
  obtain ⟨k1, k2, k3, hE⟩ := boxQ3 w (.bool s1) (.slice A1 n1 c1) (.bool t1) (.slice B1 m1 d1) (.bool s2) (.slice A2 n2 c2) (.bool t2) (.slice B2 m2 d2) 30
  generalize ((w.alloc (.cells #[.bool s1, .slice A1 n1 c1, .bool t1, .slice B1 m1 d1] 30)).alloc (.cells #[.bool s2, .slice A2 n2 c2, .bool t2, .slice B2 m2 d2] 30)).alloc (.cells #[.bool false, .slice none 0 0, .bool false, .slice none 0 0] 30) = w1 at *
  refine (qcmp_any s2 A2 n2 c2 t2 B2 m2 d2 q s1 A1 n1 c1 t1 B1 m1 d1 p w1 (h2.ext hE) (h1.ext hE)).mono ?_
  rintro e w2 ⟨rfl, hE2⟩
  have hneg := cmpQ_pos q p
  generalize cmpQ q p = k at *
  have K3 := Lib.hid (k3.ext hE2)
  have HE := Lib.hid (Ext.trans hE hE2)
  obtain ⟨⟨g0, g1, g2, g3⟩, _, _⟩ := k1.ext hE2
  obtain ⟨⟨i0, i1, i2, i3⟩, _, _⟩ := k2.ext hE2
  have hl : w.heap.size + 1 + 1 < w2.heap.size := K3.out.2.2
  have H1 := Lib.hid (h1.ext HE.out)
  have H2 := Lib.hid (h2.ext HE.out)
  clear k1 k2 k3 hE hE2 h1 h2
  by_cases hk : 0 < k
  · have hb : decide (0 < k) = true := decide_eq_true hk
    have HR : Hid (maxQ p q = q) := by unfold Hid maxQ; rw [if_pos (hneg.1 hk)]
    clear hneg hk
    go_wp2_with fail
    refine (qcan_any s2 A2 n2 c2 t2 B2 m2 d2 q w2 H2.out).mono ?_
    rintro e w3 ⟨s, A, n, c, t, B, m, d, rfl, hQ, hE9⟩
    rw [← HR.out] at hQ
    have HQ := Lib.hid hQ
    obtain ⟨⟨e0, e1, e2, e3⟩, ⟨f0, f1, f2, f3⟩, el⟩ := K3.out.ext hE9
    have HE9 := Lib.hid (Ext.trans HE.out hE9)
    clear hQ hE9
    go_wp2_with fail
    refine bodyPost_ret (v := .agg #[.bool s, .slice A n c, .bool t, .slice B m d]) (by simp [results, Try.results22, go_sem, e0, e1, e2, e3]) rfl ?_
    exact ⟨_, _, _, _, _, _, _, _, rfl, retQ_fill (by omega) (by omega) HQ.out HE9.out _ _ _ _⟩
  · have hb : decide (0 < k) = false := decide_eq_false hk
    have HR : Hid (maxQ p q = p) := by unfold Hid maxQ; rw [if_neg (fun e => hk (hneg.2 e))]
    clear hneg hk
    go_wp2_with fail
    refine (qcan_any s1 A1 n1 c1 t1 B1 m1 d1 p w2 H1.out).mono ?_
    rintro e w3 ⟨s, A, n, c, t, B, m, d, rfl, hQ, hE9⟩
    rw [← HR.out] at hQ
    have HQ := Lib.hid hQ
    obtain ⟨⟨e0, e1, e2, e3⟩, ⟨f0, f1, f2, f3⟩, el⟩ := K3.out.ext hE9
    have HE9 := Lib.hid (Ext.trans HE.out hE9)
    clear hQ hE9
    go_wp2_with fail
    refine bodyPost_ret (v := .agg #[.bool s, .slice A n c, .bool t, .slice B m d]) (by simp [results, Try.results22, go_sem, e0, e1, e2, e3]) rfl ?_
    exact ⟨_, _, _, _, _, _, _, _, rfl, retQ_fill (by omega) (by omega) HQ.out HE9.out _ _ _ _⟩
end Go.Proofs.Ytfokholpgakjpaa
