/- frac.reduce at a denominator that is not 0, frac.calculate at '/'. Printed by gen_div.py. -/
import Derived.Test.YtfokholpgakjpaaFracN
import Derived.Test.YtfokholpgakjpaaLexes
namespace Go.Proofs.Ytfokholpgakjpaa
open Go.RowKit

theorem zcan_len {w w0 : World} {B0 : Nat} {b b0 : Bool} {A A0 : Option Addr} {n c n0 c0 : Nat} {z z0 : Int} (h : ZCan w B0 b A n c z) (h0 : ZIs w0 b0 A0 n0 c0 z0) (e : z.natAbs = z0.natAbs) : n ≤ n0 := words_bd h (by rw [e]; exact natAbs_ZIs h0)
set_option maxRecDepth 100000 in
set_option maxHeartbeats 4000000 in
theorem reduce_neg (s : Bool) (A : Option Addr) (n c : Nat) (z : Int) (t : Bool) (B : Option Addr) (m d : Nat) (y : Int) (w : World) (h1 : ZIs w s A n c z) (h2 : ZIs w t B m d y) (hn : n ≤ 268435456) (hm : m ≤ 268435456) (hy0 : y < 0) :
    Calls Try.prog 43 #[.agg #[.bool s, .slice A n c], .agg #[.bool t, .slice B m d]] w (RetQ w (Rat.divInt z y)) := by
  have HSY : Hid (y.sign = -1) := Int.sign_eq_neg_one_of_neg hy0
  have G1 := Lib.hid h1
  have G2 := Lib.hid h2
  rw [← Rat.neg_divInt_neg z y]
  obtain ⟨z', hz'⟩ : ∃ v, -z = v := ⟨_, rfl⟩
  obtain ⟨y', hy'⟩ : ∃ v, -y = v := ⟨_, rfl⟩
  rw [hz', hy']
  have hy : 0 < y' := by omega
  have HZ' := Lib.hid hz'
  have HY' := Lib.hid hy'
  have HAZ : Hid (z'.natAbs = z.natAbs) := by unfold Hid; omega
  have HAY : Hid (y'.natAbs = y.natAbs) := by unfold Hid; omega
  clear hz' hy' h1 h2
  have HNU : Hid ((Rat.divInt z' y').num = z' / (Int.gcd z' y' : Nat)) := num_red hy
  have HDE : Hid (denOf (Rat.divInt z' y') = if y' / (Int.gcd z' y' : Nat) = 1 then 0 else y' / (Int.gcd z' y' : Nat)) := by
    unfold Hid denOf
    have := den_red (z := z') hy
    by_cases e : (Rat.divInt z' y').den = 1
    · rw [if_pos e, if_pos (by omega)]
    · rw [if_neg e, if_neg (by omega), this]
  have HGZ : Hid (((Int.gcd z' y' : Nat) : Int) ≠ 0 ∧ ((Int.gcd z' y' : Nat) : Int) ∣ z' ∧ ((Int.gcd z' y' : Nat) : Int) ∣ y') := by
    refine ⟨?_, Int.gcd_dvd_left .., Int.gcd_dvd_right ..⟩
    intro e
    have := (Int.gcd_eq_zero_iff.1 (Int.ofNat.inj e)).2
    omega
  go_enter Try.func43, Try.ntmps43
  go_wp2_with fail
  have k0 := ((Cell2.new w _ rfl (.bool s) (.slice A n c) 28).ext (Ext.al Ext.rfl' (.cells #[.bool t, .slice B m d] 28))).ext (Ext.al Ext.rfl' (.cells #[.bool false, .slice none 0 0, .bool false, .slice none 0 0] 30))
  have k1 := (Cell2.new (w.alloc (.cells #[.bool s, .slice A n c] 28)) (w.heap.size + 1) (by simp) (.bool t) (.slice B m d) 28).ext (Ext.al Ext.rfl' (.cells #[.bool false, .slice none 0 0, .bool false, .slice none 0 0] 30))
  have k2 := Cell4.new ((w.alloc (.cells #[.bool s, .slice A n c] 28)).alloc (.cells #[.bool t, .slice B m d] 28)) (w.heap.size + 1 + 1) (by simp) (.bool false) (.slice none 0 0) (.bool false) (.slice none 0 0) 30
  have hE : Ext w (((w.alloc (.cells #[.bool s, .slice A n c] 28)).alloc (.cells #[.bool t, .slice B m d] 28)).alloc (.cells #[.bool false, .slice none 0 0, .bool false, .slice none 0 0] 30)) := Ext.al (Ext.al (Ext.al Ext.rfl' _) _) _
  generalize (((w.alloc (.cells #[.bool s, .slice A n c] 28)).alloc (.cells #[.bool t, .slice B m d] 28)).alloc (.cells #[.bool false, .slice none 0 0, .bool false, .slice none 0 0] 30)) = w1 at *
  refine (sign_any t B m d y w1 (G2.out.ext hE)).mono ?_
  rintro e wa ⟨rfl, hE2⟩
  rw [HSY.out]
  have K0 := Lib.hid (k0.ext hE2)
  have K1 := Lib.hid (k1.ext hE2)
  have K2 := Lib.hid (k2.ext hE2)
  have HE := Lib.hid (Ext.trans hE hE2)
  clear k0 k1 k2 hE hE2 HSY
  have hlA : w.heap.size + 1 + 1 < wa.heap.size := K2.out.2.2
  go_wp2_with fail
  refine wp_region_lexS (C := InX wa.drew []) (by kernel_rfl) (by kernel_rfl) (inX_self _ _) ?_
  have hEd : Ext wa wa.drew := Ext.rfl'.drew
  generalize wa.drew = wd at *
  have P0 := Lib.hid (K0.out.ext hEd)
  have P1 := Lib.hid (K1.out.ext hEd)
  have P2 := Lib.hid (K2.out.ext hEd)
  have HEd := Lib.hid (Ext.trans HE.out hEd)
  have hld : w.heap.size + 1 + 1 < wd.heap.size := P2.out.2.2
  have x0 := fun y : ExtX wd [] => y.cell (p := ⟨w.heap.size, 0, none⟩) P0.out.1 (by simp)
  have x1 := fun y : ExtX wd [] => y.cell (p := ⟨w.heap.size, 1, none⟩) P0.out.2.1 (by simp)
  have x2 := fun y : ExtX wd [] => y.cell (p := ⟨w.heap.size + 1, 0, none⟩) P1.out.1 (by simp)
  have x3 := fun y : ExtX wd [] => y.cell (p := ⟨w.heap.size + 1, 1, none⟩) P1.out.2.1 (by simp)
  clear K0 K1 K2 HE hEd
  repeat (refine lexAt_still (by rfl) ?_; go_big_quiet_step (fail); refine wpQuiet_nil ?_)
  refine lexAt_move (by rfl) (by kernel_rfl) ?_
  go_wp2_with fail
  refine (neg_any s A n c z wd (G1.out.ext HEd.out) (by omega)).mono ?_
  rintro e wx ⟨s', A', n', c', rfl, hZx, hEx⟩
  rw [HZ'.out] at hZx
  have hn' : n' ≤ 268435456 := Nat.le_trans (zcan_len hZx G1.out HAZ.out) hn
  have HX := Lib.hid hZx
  have EX := Lib.hid hEx
  clear hZx hEx
  go_wp2_with fail
  refine And.intro (inX_of_ext _ EX.out) ?_
  repeat (refine lexAt_still (by rfl) ?_; go_big_quiet_step (fail); refine wpQuiet_nil ?_)
  refine lexAt_move (by rfl) (by kernel_rfl) ?_
  go_wp2_with fail
  refine (neg_any t B m d y wx (G2.out.ext (Ext.trans HEd.out EX.out)) (by omega)).mono ?_
  rintro e wy ⟨t', B', m', d', rfl, hZy, hEy⟩
  rw [HY'.out] at hZy
  have hm' : m' ≤ 268435456 := Nat.le_trans (zcan_len hZy G2.out HAY.out) hm
  have HYC := Lib.hid hZy
  have EY := Lib.hid hEy
  have EXY := Lib.hid (Ext.trans EX.out EY.out)
  clear hZy hEy x0 x1 x2 x3
  have hlx : wd.heap.size ≤ wx.heap.size := EX.out.size
  obtain ⟨a0, a1, a2, a3, al⟩ := P0.out.ext EXY.out
  obtain ⟨b0, b1, b2, b3, bl⟩ := P1.out.ext EXY.out
  go_wp2_with fail
  refine And.intro (inX_of_ext _ EXY.out) ?_
  repeat (refine lexAt_still (by rfl) ?_; go_big_quiet_step (fail); refine wpQuiet_nil ?_)
  refine lexAt_last (by rfl) (by kernel_rfl) (by kernel_rfl) ?_
  go_wp2_with fail
  refine And.intro trivial ?_
  refine lexAt_last (by rfl) (by kernel_rfl) (by kernel_rfl) ?_
  go_wp2_with fail
  refine And.intro trivial (lexAt_nil ?_)
  have K0 := Lib.hid (((P0.out.ext EXY.out).put (.bool s') (.slice A' n' c')).far (r := w.heap.size + 1) (by omega) (.bool t') (.slice B' m' d'))
  have K1 := Lib.hid (((P1.out.ext EXY.out).far (r := w.heap.size) (by omega) (.bool s') (.slice A' n' c')).put (.bool t') (.slice B' m' d'))
  have K2 := Lib.hid (((P2.out.ext EXY.out).far (r := w.heap.size) (by omega) (.bool s') (.slice A' n' c')).far (r := w.heap.size + 1) (by omega) (.bool t') (.slice B' m' d'))
  have HE := Lib.hid (ext_put2 (ext_put2 (Ext.trans HEd.out EXY.out) (r := w.heap.size) (by omega) (.bool s') (.slice A' n' c')) (r := w.heap.size + 1) (by omega) (.bool t') (.slice B' m' d'))
  have H1 := Lib.hid (((HX.out.ext EY.out).put2 (r := w.heap.size) (by omega) (.bool s') (.slice A' n' c')).put2 (r := w.heap.size + 1) (by omega) (.bool t') (.slice B' m' d'))
  have H2 := Lib.hid ((HYC.out.put2 (r := w.heap.size) (by omega) (.bool s') (.slice A' n' c')).put2 (r := w.heap.size + 1) (by omega) (.bool t') (.slice B' m' d'))
  generalize ((((wy.setCell ⟨w.heap.size, 0, none⟩ (.bool s')).setCell ⟨w.heap.size, 1, none⟩ (.slice A' n' c')).setCell ⟨w.heap.size + 1, 0, none⟩ (.bool t')).setCell ⟨w.heap.size + 1, 1, none⟩ (.slice B' m' d')) = w2 at *
  clear a0 a1 a2 a3 al b0 b1 b2 b3 bl P0 P1 P2 HEd HX HYC EX EY EXY
  obtain ⟨a0, a1, _, _, _⟩ := K0.out
  obtain ⟨b0, b1, _, _, _⟩ := K1.out
  go_wp2_with fail
  refine (gcd_any s' A' n' c' z' t' B' m' d' y' w2 H1.out.is H2.out.is (by omega) (by omega)).mono ?_
  rintro e w3 ⟨b3, A3, n3, c3, rfl, hZ3, hE3⟩
  generalize Int.gcd z' y' = g at *
  have E23 := Lib.hid hE3
  have L0 := Lib.hid (K0.out.ext hE3)
  have L1 := Lib.hid (K1.out.ext hE3)
  have L2 := Lib.hid (K2.out.ext hE3)
  have HE3 := Lib.hid (Ext.trans HE.out hE3)
  clear a0 a1 b0 b1 K0 K1 K2 HE hE3
  obtain ⟨a0, a1, _, _, hl0⟩ := L0.out
  go_wp2_with fail
  have M5 := Cell2.new w3 _ rfl (.bool b3) (.slice A3 n3 c3) 28
  have hE4 : Ext w3 (w3.alloc (.cells #[.bool b3, .slice A3 n3 c3] 28)) := Ext.al Ext.rfl' _
  generalize w3.alloc (.cells #[.bool b3, .slice A3 n3 c3] 28) = w4 at *
  have E34 := Lib.hid hE4
  have N0 := Lib.hid (L0.out.ext hE4)
  have N1 := Lib.hid (L1.out.ext hE4)
  have N2 := Lib.hid (L2.out.ext hE4)
  have N5 := Lib.hid M5
  have HZ3 := Lib.hid (hZ3.ext hE4)
  have HE4 := Lib.hid (Ext.trans HE3.out hE4)
  have hl1 : w.heap.size + 1 + 1 < w3.heap.size := L2.out.2.2
  have hl5 : w3.heap.size < w4.heap.size := M5.2.2.2.2
  clear a0 a1 hE4 M5 hZ3 L0 L1 L2 HE3
  refine (divExact_any s' A' n' c' z' b3 A3 n3 c3 g w4 ((H1.out.ext E23.out).ext E34.out).is HZ3.out.is (by omega) HGZ.out.1 HGZ.out.2.1).mono ?_
  rintro e w5 ⟨b5, A5, n5, c5, v5, rfl, hZ5, hE5⟩
  have L0 := Lib.hid (N0.out.ext hE5)
  have L1 := Lib.hid (N1.out.ext hE5)
  have L2 := Lib.hid (N2.out.ext hE5)
  have L5 := Lib.hid (N5.out.ext hE5)
  have HE5 := Lib.hid (Ext.trans HE4.out hE5)
  have HZG := Lib.hid (HZ3.out.ext hE5)
  have HZN := Lib.hid hZ5
  have hl6 : w4.heap.size ≤ w5.heap.size := hE5.size
  have E45 := Lib.hid hE5
  clear hE5 hZ5 N0 N1 N2 N5 HZ3 HE4
  obtain ⟨a0, a1, a2, a3, _⟩ := L0.out
  obtain ⟨b0, b1, _, _, _⟩ := L1.out
  obtain ⟨g0, g1, _, _, _⟩ := L5.out
  go_wp2_with fail
  have N0 := Lib.hid (L0.out.put (.bool b5) (.slice A5 n5 c5))
  have N1 := Lib.hid (L1.out.far (r := w.heap.size) (by omega) (.bool b5) (.slice A5 n5 c5))
  have N2 := Lib.hid (L2.out.far (r := w.heap.size) (by omega) (.bool b5) (.slice A5 n5 c5))
  have N5 := Lib.hid (L5.out.far (r := w.heap.size) (by omega) (.bool b5) (.slice A5 n5 c5))
  have HE6 := Lib.hid (ext_put2 HE5.out (r := w.heap.size) (by omega) (.bool b5) (.slice A5 n5 c5))
  have hs6 := size_put2 w5 w.heap.size (.bool b5) (.slice A5 n5 c5)
  have HZN2 := Lib.hid (HZN.out.put2 (r := w.heap.size) (by omega) (.bool b5) (.slice A5 n5 c5))
  have HZG2 : Hid (ZIs ((w5.setCell ⟨w.heap.size, 0, none⟩ (.bool b5)).setCell ⟨w.heap.size, 1, none⟩ (.slice A5 n5 c5)) b3 A3 n3 c3 g) := (HZG.out.put2 (r := w.heap.size) (by omega) (.bool b5) (.slice A5 n5 c5)).is
  have H26 : Hid (ZIs ((w5.setCell ⟨w.heap.size, 0, none⟩ (.bool b5)).setCell ⟨w.heap.size, 1, none⟩ (.slice A5 n5 c5)) t' B' m' d' y') := ((((H2.out.ext E23.out).ext E34.out).ext E45.out).put2 (r := w.heap.size) (by omega) (.bool b5) (.slice A5 n5 c5)).is
  generalize ((w5.setCell ⟨w.heap.size, 0, none⟩ (.bool b5)).setCell ⟨w.heap.size, 1, none⟩ (.slice A5 n5 c5)) = w6 at *
  clear L0 L1 L2 L5 HE5 HZG HZN a0 a1 a2 a3 b0 b1 g0 g1
  refine (divExact_any t' B' m' d' y' b3 A3 n3 c3 g w6 H26.out HZG2.out (by omega) HGZ.out.1 HGZ.out.2.2).mono ?_
  rintro e w7 ⟨b7, A7, n7, c7, v7, rfl, hZ7, hE7⟩
  have L0 := Lib.hid (N0.out.ext hE7)
  have L1 := Lib.hid (N1.out.ext hE7)
  have L2 := Lib.hid (N2.out.ext hE7)
  have HE7 := Lib.hid (Ext.trans HE6.out hE7)
  have HZN := Lib.hid (HZN2.out.ext hE7)
  have HZD := Lib.hid hZ7
  have hl8 : w6.heap.size ≤ w7.heap.size := hE7.size
  clear hE7 hZ7 N0 N1 N2 N5 HZN2 HZG2 HE6
  obtain ⟨b0, b1, b2, b3', _⟩ := L1.out
  go_wp2_with fail
  have N0 := Lib.hid (L0.out.far (r := w.heap.size + 1) (by omega) (.bool b7) (.slice A7 n7 c7))
  have N1 := Lib.hid (L1.out.put (.bool b7) (.slice A7 n7 c7))
  have N2 := Lib.hid (L2.out.far (r := w.heap.size + 1) (by omega) (.bool b7) (.slice A7 n7 c7))
  have HE8 := Lib.hid (ext_put2 HE7.out (r := w.heap.size + 1) (by omega) (.bool b7) (.slice A7 n7 c7))
  have hs8 := size_put2 w7 (w.heap.size + 1) (.bool b7) (.slice A7 n7 c7)
  have HZN2 := Lib.hid (HZN.out.put2 (r := w.heap.size + 1) (by omega) (.bool b7) (.slice A7 n7 c7))
  have HZD2 := Lib.hid (HZD.out.put2 (r := w.heap.size + 1) (by omega) (.bool b7) (.slice A7 n7 c7))
  generalize ((w7.setCell ⟨w.heap.size + 1, 0, none⟩ (.bool b7)).setCell ⟨w.heap.size + 1, 1, none⟩ (.slice A7 n7 c7)) = w8 at *
  clear L0 L1 L2 HE7 HZN HZD b0 b1 b2 b3'
  refine (int64_any b7 A7 n7 c7 _ w8 HZD2.out.is).mono ?_
  rintro e w9 ⟨rfl, hE9⟩
  have HI := Lib.hid (i64_one (y' / (g : Int)))
  obtain ⟨iv, hiv⟩ : ∃ v, i64V (y' / (g : Int)) = v := ⟨_, rfl⟩
  obtain ⟨ib, hib⟩ : ∃ v, i64B (y' / (g : Int)) = v := ⟨_, rfl⟩
  rw [hiv, hib] at HI
  rw [hiv, hib]
  clear hiv hib
  have L0 := Lib.hid (N0.out.ext hE9)
  have L1 := Lib.hid (N1.out.ext hE9)
  have L2 := Lib.hid (N2.out.ext hE9)
  have HE9 := Lib.hid (Ext.trans HE8.out hE9)
  have HZN := Lib.hid (HZN2.out.ext hE9)
  have HZD := Lib.hid (HZD2.out.ext hE9)
  clear hE9 N0 N1 N2 HZN2 HZD2 HE8
  obtain ⟨a0, a1, a2, a3, al⟩ := L0.out
  obtain ⟨b0, b1, b2, b3', bl⟩ := L1.out
  obtain ⟨⟨e0, e1, e2, e3⟩, ⟨f0, f1, f2, f3⟩, el⟩ := L2.out
  by_cases hone : ib = true ∧ iv = 1
  · have HD0 : Hid (denOf (Rat.divInt z' y') = 0) := by unfold Hid; rw [HDE.out, if_pos (HI.out.1 hone)]
    obtain ⟨rfl, rfl⟩ := hone
    clear HI
    go_wp2_with fail
    refine bodyPost_ret (v := .agg #[.bool b5, .slice A5 n5 c5, .bool false, .slice none 0 0]) (by simp [results, Try.results43, go_sem, e0, e1, e2, e3]) rfl ?_
    have hq : QCan ((w9.setCell ⟨w.heap.size + 1, 0, none⟩ (.bool false)).setCell ⟨w.heap.size + 1, 1, none⟩ (.slice none 0 0)) w4.heap.size b5 A5 n5 c5 false none 0 0 (Rat.divInt z' y') := ⟨by rw [HNU.out]; exact HZN.out.put2 (by omega) _ _, by rw [HD0.out]; exact zcan_zero _ _⟩
    exact ⟨_, _, _, _, _, _, _, _, rfl, retQ_fill (by omega) (by omega) hq (ext_put2 HE9.out (by omega) _ _) _ _ _ _⟩
  · have HD0 : Hid (denOf (Rat.divInt z' y') = y' / (g : Int)) := by unfold Hid; rw [HDE.out, if_neg (fun e => hone (HI.out.2 e))]
    have hb : ib = false ∨ (ib = true ∧ (iv == 1) = false) := by
      cases ib
      · exact .inl rfl
      · exact .inr ⟨rfl, by simp; intro e; exact hone ⟨rfl, e⟩⟩
    clear HI hone
    rcases hb with rfl | ⟨rfl, hb⟩
    all_goals
      go_wp2_with fail
      refine bodyPost_ret (v := .agg #[.bool b5, .slice A5 n5 c5, .bool b7, .slice A7 n7 c7]) (by simp [results, Try.results43, go_sem, e0, e1, e2, e3]) rfl ?_
      have hq : QCan w9 w4.heap.size b5 A5 n5 c5 b7 A7 n7 c7 (Rat.divInt z' y') := ⟨by rw [HNU.out]; exact HZN.out, by rw [HD0.out]; exact HZD.out.base (by omega)⟩
      exact ⟨_, _, _, _, _, _, _, _, rfl, retQ_fill (by omega) (by omega) hq HE9.out _ _ _ _⟩
theorem reduce_nz (s : Bool) (A : Option Addr) (n c : Nat) (z : Int) (t : Bool) (B : Option Addr) (m d : Nat) (y : Int) (w : World) (h1 : ZIs w s A n c z) (h2 : ZIs w t B m d y) (hn : n ≤ 268435456) (hm : m ≤ 268435456) (hy : y ≠ 0) :
    Calls Try.prog 43 #[.agg #[.bool s, .slice A n c], .agg #[.bool t, .slice B m d]] w (RetQ w (Rat.divInt z y)) := by
  rcases Int.lt_or_gt_of_ne hy with h | h
  · exact reduce_neg s A n c z t B m d y w h1 h2 hn hm h
  · exact reduce_any s A n c z t B m d y w h1 h2 hn hm h
theorem divInt_div' (n₁ d₁ n₂ d₂ : Int) : Rat.divInt n₁ d₁ / Rat.divInt n₂ d₂ = Rat.divInt (n₁ * d₂) (d₁ * n₂) := by
  rw [Rat.div_def, Rat.inv_divInt, Rat.divInt_mul_divInt]
theorem divInt_ne {z y : Int} (h : Rat.divInt z y ≠ 0) : z ≠ 0 := by
  rintro rfl
  exact h (Rat.zero_divInt y)
set_option maxRecDepth 100000 in
set_option maxHeartbeats 4000000 in
theorem calc_div (s1 : Bool) (A1 : Option Addr) (n1 c1 : Nat) (t1 : Bool) (B1 : Option Addr) (m1 d1 : Nat) (p : Rat) (s2 : Bool) (A2 : Option Addr) (n2 c2 : Nat) (t2 : Bool) (B2 : Option Addr) (m2 d2 : Nat) (q : Rat) (w : World) (h1 : QArg w s1 A1 n1 c1 t1 B1 m1 d1 p) (h2 : QArg w s2 A2 n2 c2 t2 B2 m2 d2 q) (hq0 : q ≠ 0) :
    Calls Try.prog 26 #[.int .u8 47, .agg #[.bool s1, .slice A1 n1 c1, .bool t1, .slice B1 m1 d1], .agg #[.bool s2, .slice A2 n2 c2, .bool t2, .slice B2 m2 d2]] w (RetQ w (p / q)) := by
  go_enter Try.func26, Try.ntmps26
  go_wp2_with fail
  obtain ⟨k1, k2, k3, hE⟩ := boxQ3 w (.bool s1) (.slice A1 n1 c1) (.bool t1) (.slice B1 m1 d1) (.bool s2) (.slice A2 n2 c2) (.bool t2) (.slice B2 m2 d2) 30
  generalize ((w.alloc (.cells #[.bool s1, .slice A1 n1 c1, .bool t1, .slice B1 m1 d1] 30)).alloc (.cells #[.bool s2, .slice A2 n2 c2, .bool t2, .slice B2 m2 d2] 30)).alloc (.cells #[.bool false, .slice none 0 0, .bool false, .slice none 0 0] 30) = w1 at *
  refine (parts_any s1 A1 n1 c1 t1 B1 m1 d1 p w1 (h1.ext hE)).mono ?_
  rintro e w2 ⟨a1, X1, i1, j1, a2, X2, i2, j2, z1, y1, rfl, hz1, hy1, hp1, hq1, hi1, hi2, hE2⟩
  have K2 := Lib.hid (k2.ext hE2)
  have K3 := Lib.hid (k3.ext hE2)
  have HE2 := Lib.hid (Ext.trans hE hE2)
  have H2 := Lib.hid h2
  have HZ1 := Lib.hid hz1
  have HY1 := Lib.hid hy1
  have HQ1 := Lib.hid hq1
  clear k1 k2 k3 hE hE2 h1 h2 hz1 hy1 hq1
  obtain ⟨⟨g0, g1, g2, g3⟩, _, hl2⟩ := K2.out
  have hl3 : w.heap.size + 1 + 1 < w2.heap.size := K3.out.2.2
  have hl4 : w.heap.size < w2.heap.size := by omega
  go_wp2_with fail
  obtain ⟨c7, c8, hE3⟩ := two2 w2 (.bool a1) (.slice X1 i1 j1) (.bool a2) (.slice X2 i2 j2) 28
  generalize ((w2.alloc (.cells #[.bool a1, .slice X1 i1 j1] 28)).alloc (.cells #[.bool a2, .slice X2 i2 j2] 28)) = w3 at *
  refine (parts_any s2 A2 n2 c2 t2 B2 m2 d2 q w3 (H2.out.ext (Ext.trans HE2.out hE3))).mono ?_
  rintro e w4 ⟨b1, Y1, u1, v1, b2, Y2, u2, v2, z2, y2, rfl, hz2, hy2, hp2, hq2, hu1, hu2, hE4⟩
  have hE34 := Ext.trans hE3 hE4
  have C7 := Lib.hid (c7.ext hE4)
  have C8 := Lib.hid (c8.ext hE4)
  have K3' := Lib.hid (K3.out.ext hE34)
  have HE4 := Lib.hid (Ext.trans HE2.out hE34)
  have HZ1' := Lib.hid (HZ1.out.ext hE34)
  have HY1' := Lib.hid (HY1.out.ext hE34)
  have HZ2 := Lib.hid hz2
  have HY2 := Lib.hid hy2
  have HQ2 := Lib.hid hq2
  have hl7 : w2.heap.size + 1 < w4.heap.size := C8.out.2.2.2.2
  clear c7 c8 hE3 hE4 hE34 hz2 hy2 hq2 HZ1 HY1 K2 K3 g0 g1 g2 g3 HE2 H2
  go_wp2_with fail
  obtain ⟨c9, c10, hE5⟩ := two2 w4 (.bool b1) (.slice Y1 u1 v1) (.bool b2) (.slice Y2 u2 v2) 28
  generalize ((w4.alloc (.cells #[.bool b1, .slice Y1 u1 v1] 28)).alloc (.cells #[.bool b2, .slice Y2 u2 v2] 28)) = w5 at *
  have D7 := Lib.hid ((C7.out.ext hE5).ext (Ext.rfl' (w := w5)).drew)
  have D8 := Lib.hid ((C8.out.ext hE5).ext (Ext.rfl' (w := w5)).drew)
  have D3 := Lib.hid ((K3'.out.ext hE5).ext (Ext.rfl' (w := w5)).drew)
  have D9 := Lib.hid (c9.ext (Ext.rfl' (w := w5)).drew)
  have D10 := Lib.hid (c10.ext (Ext.rfl' (w := w5)).drew)
  have HE5 : Hid (Ext w w5.drew) := (Ext.trans HE4.out hE5).drew
  have G1 := Lib.hid ((HZ1'.out.ext hE5).ext (Ext.rfl' (w := w5)).drew)
  have G2 := Lib.hid ((HY1'.out.ext hE5).ext (Ext.rfl' (w := w5)).drew)
  have G3 := Lib.hid ((HZ2.out.ext hE5).ext (Ext.rfl' (w := w5)).drew)
  have G4 := Lib.hid ((HY2.out.ext hE5).ext (Ext.rfl' (w := w5)).drew)
  have hl3' : w.heap.size + 1 + 1 < w5.drew.heap.size := D3.out.2.2
  clear c9 c10 hE5 C7 C8 K3' HE4 HZ1' HY1' HZ2 HY2
  refine wp_region_lex (C := InX w5.drew []) (by kernel_rfl) (by kernel_rfl) (inX_self _ _) ?_
  generalize w5.drew = wd at *
  have x0 := fun y : ExtX wd [] => y.cell (p := ⟨w2.heap.size, 0, none⟩) D7.out.1 (by simp)
  have x1 := fun y : ExtX wd [] => y.cell (p := ⟨w2.heap.size, 1, none⟩) D7.out.2.1 (by simp)
  have x2 := fun y : ExtX wd [] => y.cell (p := ⟨w2.heap.size + 1, 0, none⟩) D8.out.1 (by simp)
  have x3 := fun y : ExtX wd [] => y.cell (p := ⟨w2.heap.size + 1, 1, none⟩) D8.out.2.1 (by simp)
  have x4 := fun y : ExtX wd [] => y.cell (p := ⟨w4.heap.size, 0, none⟩) D9.out.1 (by simp)
  have x5 := fun y : ExtX wd [] => y.cell (p := ⟨w4.heap.size, 1, none⟩) D9.out.2.1 (by simp)
  have x6 := fun y : ExtX wd [] => y.cell (p := ⟨w4.heap.size + 1, 0, none⟩) D10.out.1 (by simp)
  have x7 := fun y : ExtX wd [] => y.cell (p := ⟨w4.heap.size + 1, 1, none⟩) D10.out.2.1 (by simp)
  repeat (refine wpLex_still (by rfl) ?_; go_big_quiet_step (exact ⟨rfl, rfl⟩); refine wpQuiet_nil ?_)
  refine wpLex_move (by rfl) (by rfl) ?_
  go_wp2_with fail
  refine (ops_any wd).mono ?_
  rintro e w6 ⟨bm, rfl, hE6, nm, hown⟩
  have hlook := look_op hown 47 (.int .u8 47) (by kernel_rfl) (opAt 63) tab_div
  unfold opAt at hlook
  clear hown
  go_wp2_with fail
  refine And.intro (inX_of_ext _ hE6) ?_
  repeat (refine wpLex_still (by rfl) ?_; go_big_quiet_step (exact ⟨rfl, rfl⟩); refine wpQuiet_nil ?_)
  refine wpLex_move (by rfl) (by rfl) ?_
  go_wp2_with fail
  refine And.intro (inX_of_ext _ hE6) ?_
  clear hlook
  repeat (refine wpLex_still (by rfl) ?_; go_big_quiet_step (exact ⟨rfl, rfl⟩); refine wpQuiet_nil ?_)
  refine wpLex_move (by rfl) (by rfl) ?_
  go_wp2_with fail
  refine (clos_div a1 X1 i1 j1 z1 a2 X2 i2 j2 y1 b1 Y1 u1 v1 z2 b2 Y2 u2 v2 y2 w6 (G1.out.ext hE6) (G2.out.ext hE6) (G3.out.ext hE6) (G4.out.ext hE6) hi1 hi2 hu1 hu2).mono ?_
  rintro e w7 ⟨r1, R1, k1, l1, r2, R2, k2, l2, rfl, hn7, hd7, hk1, hk2, hE7⟩
  have HN7 := Lib.hid hn7
  have HD7 := Lib.hid hd7
  have hE67 := Ext.trans hE6 hE7
  clear hn7 hd7
  go_wp2_with fail
  refine And.intro (inX_of_ext _ hE67) ?_
  repeat (refine wpLex_still (by rfl) ?_; go_big_quiet_step (exact ⟨rfl, rfl⟩); refine wpQuiet_nil ?_)
  refine wpLex_move (by rfl) (by rfl) ?_
  go_wp2_with fail
  refine (reduce_nz r1 R1 k1 l1 _ r2 R2 k2 l2 _ w7 HN7.out.is HD7.out.is hk1 hk2 (Int.mul_ne_zero (Int.ne_of_gt hp1) (divInt_ne (y := y2) (by rw [← HQ2.out]; exact hq0)))).mono ?_
  rintro e w8 ⟨s, A, n, c, t, B, m, d, rfl, hQ, hE8⟩
  have HQ : Hid (QCan w8 w7.heap.size s A n c t B m d (p / q)) := by
    unfold Hid
    rw [HQ1.out, HQ2.out, divInt_div']
    exact hQ
  have hE68 := Ext.trans hE67 hE8
  obtain ⟨⟨e0, e1, e2, e3⟩, ⟨f0, f1, f2, f3⟩, el⟩ := D3.out.ext hE68
  have HE8 := Lib.hid (Ext.trans HE5.out hE68)
  have HX8 := Lib.hid (inX_of_ext [] hE68)
  have hs7 : wd.heap.size ≤ w7.heap.size := hE67.size
  clear hQ hE8 hE67 hE68 hE6 hE7
  go_wp2_with fail
  refine And.intro HX8.out ?_
  refine wpLex_last (by rfl) (by kernel_rfl) (by rfl) ?_
  go_wp2_with fail
  refine And.intro trivial (wpLex_nil ?_)
  go_wp2_with fail
  refine bodyPost_ret (v := .agg #[.bool s, .slice A n c, .bool t, .slice B m d]) (by simp [results, Try.results26, go_sem, e0, e1, e2, e3]) rfl ?_
  exact ⟨_, _, _, _, _, _, _, _, rfl, retQ_fill (by omega) (by omega) HQ.out HE8.out _ _ _ _⟩
end Go.Proofs.Ytfokholpgakjpaa
