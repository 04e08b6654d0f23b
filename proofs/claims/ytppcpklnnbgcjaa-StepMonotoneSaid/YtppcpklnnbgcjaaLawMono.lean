/- The walk of the law StepMonotone. Printed by gen_mono.py. -/
import Derived.Test.YtppcpklnnbgcjaaAwake23
import Derived.Test.YtppcpklnnbgcjaaLong23
import Derived.Test.YtppcpklnnbgcjaaMonoP
namespace Go.Proofs.Ytppcpklnnbgcjaa
open Go.RowKit

set_option maxRecDepth 100000 in
set_option maxHeartbeats 8000000 in
theorem mono_any (A : Option Addr) (n c : Nat) (xs : List (Int × Int)) (s1 : Bool) (A1 : Option Addr) (n1 c1 : Nat) (t1 : Bool) (B1 : Option Addr) (m1 d1 : Nat) (p : Rat) (s2 : Bool) (A2 : Option Addr) (n2 c2 : Nat) (t2 : Bool) (B2 : Option Addr) (m2 d2 : Nat) (q : Rat) (w : World) (hs : StepsAt w A n xs) (hn : n ≤ maxLen) (h1 : QIs w s1 A1 n1 c1 t1 B1 m1 d1 p) (h2 : QIs w s2 A2 n2 c2 t2 B2 m2 d2 q) :
    Calls Try.prog 4 #[.slice A n c, .agg #[.bool s1, .slice A1 n1 c1, .bool t1, .slice B1 m1 d1], .agg #[.bool s2, .slice A2 n2 c2, .bool t2, .slice B2 m2 d2]] w fun e w' => e = .returned (.bool true) ∧ Ext w w' := by
  by_cases h100 : 100 < n
  · have hb : decide ((100 : Int) < (n : Int)) = true := by simp; omega
    have hb2 : decide (100 < n) = true := by simp; omega
    go_enter Try.func4, Try.ntmps4
    go_wp2_with fail
    refine (awake_any _).mono ?_
    rintro e wz ⟨rfl, hEz⟩
    go_wp2_with fail
    go_ret
    exact ⟨rfl, Ext.trans (Ext.al (Ext.al Ext.rfl' _) _) hEz⟩
  have hb : decide ((100 : Int) < (n : Int)) = false := by simp; omega
  have hb2 : decide (100 < n) = false := by simp; omega
  have HS := Lib.hid hs
  have H1 := Lib.hid h1
  have H2 := Lib.hid h2
  have HBL : Hid ((n1 ≤ maxLen ∧ m1 ≤ maxLen) ∧ n2 ≤ maxLen ∧ m2 ≤ maxLen) := by
    obtain ⟨z, y, ⟨_, _, a1, a2, _⟩, ⟨_, _, a3, a4, _⟩, _⟩ := h1
    obtain ⟨z', y', ⟨_, _, b1, b2, _⟩, ⟨_, _, b3, b4, _⟩, _⟩ := h2
    exact ⟨⟨by omega, by omega⟩, by omega, by omega⟩
  clear hs h1 h2
  go_enter Try.func4, Try.ntmps4
  go_wp2_with fail
  obtain ⟨k1, k2, hE⟩ := boxQ2 w (.bool s1) (.slice A1 n1 c1) (.bool t1) (.slice B1 m1 d1) (.bool s2) (.slice A2 n2 c2) (.bool t2) (.slice B2 m2 d2) 33
  have hbk := Blk.new ((w.alloc (.cells #[.bool s1, .slice A1 n1 c1, .bool t1, .slice B1 m1 d1] 33)).alloc (.cells #[.bool s2, .slice A2 n2 c2, .bool t2, .slice B2 m2 d2] 33)) 33 #[.bool s1, .slice A1 n1 c1, .bool t1, .slice B1 m1 d1, .bool s2, .slice A2 n2 c2, .bool t2, .slice B2 m2 d2]
  have hE1 : Ext ((w.alloc (.cells #[.bool s1, .slice A1 n1 c1, .bool t1, .slice B1 m1 d1] 33)).alloc (.cells #[.bool s2, .slice A2 n2 c2, .bool t2, .slice B2 m2 d2] 33)) (((w.alloc (.cells #[.bool s1, .slice A1 n1 c1, .bool t1, .slice B1 m1 d1] 33)).alloc (.cells #[.bool s2, .slice A2 n2 c2, .bool t2, .slice B2 m2 d2] 33)).alloc (.cells #[.bool s1, .slice A1 n1 c1, .bool t1, .slice B1 m1 d1, .bool s2, .slice A2 n2 c2, .bool t2, .slice B2 m2 d2] 33)) := Ext.al Ext.rfl' _
  rw [show ((w.alloc (.cells #[.bool s1, .slice A1 n1 c1, .bool t1, .slice B1 m1 d1] 33)).alloc (.cells #[.bool s2, .slice A2 n2 c2, .bool t2, .slice B2 m2 d2] 33)).heap.size = w.heap.size + 1 + 1 by simp] at hbk
  generalize ((w.alloc (.cells #[.bool s1, .slice A1 n1 c1, .bool t1, .slice B1 m1 d1] 33)).alloc (.cells #[.bool s2, .slice A2 n2 c2, .bool t2, .slice B2 m2 d2] 33)).alloc (.cells #[.bool s1, .slice A1 n1 c1, .bool t1, .slice B1 m1 d1, .bool s2, .slice A2 n2 c2, .bool t2, .slice B2 m2 d2] 33) = w2 at *
  generalize (w.alloc (.cells #[.bool s1, .slice A1 n1 c1, .bool t1, .slice B1 m1 d1] 33)).alloc (.cells #[.bool s2, .slice A2 n2 c2, .bool t2, .slice B2 m2 d2] 33) = w1 at *
  have HK1 := Lib.hid (k1.ext hE1)
  have HK2 := Lib.hid (k2.ext hE1)
  have HE0 := Lib.hid (Ext.trans hE hE1)
  refine (long_any (w.heap.size + 1 + 1) 2 2 (fun i => if i = 0 then (n1, m1) else (n2, m2)) w2 ?_ (by omega) ?_).mono ?_
  · intro i hi
    have : i = 0 ∨ i = 1 := by omega
    rcases this with rfl | rfl
    · exact ⟨A1, c1, B1, d1, by rw [hbk.cell]; rfl, by rw [hbk.cell]; rfl⟩
    · exact ⟨A2, c2, B2, d2, by rw [hbk.cell]; rfl, by rw [hbk.cell]; rfl⟩
  · intro i
    by_cases e : i = 0
    · simp only [if_pos e]; exact HBL.out.1
    · simp only [if_neg e]; exact HBL.out.2
  rintro e w3 ⟨⟨bl, rfl, hbl⟩, hE3⟩
  have HE3 := Lib.hid (Ext.trans HE0.out hE3)
  have K1 := Lib.hid (HK1.out.ext hE3)
  have K2 := Lib.hid (HK2.out.ext hE3)
  have HLN : Hid (bl = false → ((n1 ≤ 6 ∧ m1 ≤ 6) ∧ n2 ≤ 6 ∧ m2 ≤ 6)) := fun e => ⟨hbl.1 e 0 (by omega), hbl.1 e 1 (by omega)⟩
  clear hbk hE hE1 k1 k2 HK1 HK2 HE0 hE3 hbl HBL
  cases bl
  · obtain ⟨⟨ln1, lm1⟩, ln2, lm2⟩ := HLN.out rfl
    clear HLN
    go_wp2_with fail
    refine (curve_any A n c xs w3 (HS.out.below HE3.out) hn).mono ?_
    rintro e w4 ⟨rfl, hE4⟩
    by_cases h0 : crv xs = 0
    · rw [decide_eq_true h0]
      have H0 := Lib.hid h0
      clear h0
      go_wp2_with fail
      refine (awake_any w4).mono ?_
      rintro e w5 ⟨rfl, hE5⟩
      have hE35 := Ext.trans hE4 hE5
      have HE := Lib.hid (Ext.trans HE3.out hE35)
      have L1 := Lib.hid (K1.out.ext hE35)
      have L2 := Lib.hid (K2.out.ext hE35)
      have J1 : Hid (QArg w5 s1 A1 n1 c1 t1 B1 m1 d1 p) := ⟨H1.out.ext HE.out, by omega, by omega⟩
      have J2 : Hid (QArg w5 s2 A2 n2 c2 t2 B2 m2 d2 q) := ⟨H2.out.ext HE.out, by omega, by omega⟩
      have HSX := Lib.hid (HS.out.below HE.out)
      clear hE4 hE5 hE35 K1 K2 HE3
      obtain ⟨⟨x0, x1, x2, x3⟩, ⟨fx0, fx1, fx2, fx3⟩, lx⟩ := L1.out
      obtain ⟨⟨y0, y1, y2, y3⟩, ⟨fy0, fy1, fy2, fy3⟩, ly⟩ := L2.out
      go_wp2_with fail
      refine (qcmp_any s1 A1 n1 c1 t1 B1 m1 d1 p s2 A2 n2 c2 t2 B2 m2 d2 q w5 J1.out J2.out).mono ?_
      rintro e w6 ⟨rfl, hE6⟩
      have HPOS := Lib.hid (cmpQ_pos p q)
      obtain ⟨cq, hcq⟩ : ∃ v, cmpQ p q = v := ⟨_, rfl⟩
      rw [hcq] at HPOS
      rw [hcq]
      clear hcq x0 x1 x2 x3 y0 y1 y2 y3 fx0 fx1 fx2 fx3 fy0 fy1 fy2 fy3 lx ly
      have HE6 := Lib.hid (Ext.trans HE.out hE6)
      have N1 := Lib.hid (L1.out.ext hE6)
      have N2 := Lib.hid (L2.out.ext hE6)
      have O1 := Lib.hid (J1.out.ext hE6)
      have O2 := Lib.hid (J2.out.ext hE6)
      have S6 := Lib.hid (HSX.out.below hE6)
      clear hE6 L1 L2 J1 J2 HSX HE
      by_cases hgt : 0 < cq
      · have hbg : decide (0 < cq) = true := decide_eq_true hgt
        have HLE : Hid (q ≤ p) := Rat.le_of_lt (HPOS.out.1 hgt)
        clear hgt HPOS
        obtain ⟨⟨x0, x1, x2, x3⟩, ⟨fx0, fx1, fx2, fx3⟩, lx⟩ := N1.out
        obtain ⟨⟨y0, y1, y2, y3⟩, ⟨fy0, fy1, fy2, fy3⟩, ly⟩ := N2.out
        have T1 := Lib.hid ((N1.out.put4 (.bool s2) (.slice A2 n2 c2) (.bool t2) (.slice B2 m2 d2)).far4 (g := w.heap.size + 1) (off := 0) (by omega) (.bool s1) (.slice A1 n1 c1) (.bool t1) (.slice B1 m1 d1))
        have T2 := Lib.hid ((N2.out.far4 (g := w.heap.size) (off := 0) (by omega) (.bool s2) (.slice A2 n2 c2) (.bool t2) (.slice B2 m2 d2)).put4 (.bool s1) (.slice A1 n1 c1) (.bool t1) (.slice B1 m1 d1))
        have TE := Lib.hid (ext_put4 (ext_put4 HE6.out (g := w.heap.size) (Nat.le_refl _) 0 (.bool s2) (.slice A2 n2 c2) (.bool t2) (.slice B2 m2 d2)) (g := w.heap.size + 1) (by omega) 0 (.bool s1) (.slice A1 n1 c1) (.bool t1) (.slice B1 m1 d1))
        unfold put4 at T1 T2 TE
        simp only [Nat.zero_add] at T1 T2 TE
        go_wp2_with fail
        generalize ((((((((w6.setCell ⟨w.heap.size, 0, none⟩ (.bool s2)).setCell ⟨w.heap.size, 1, none⟩ (.slice A2 n2 c2)).setCell ⟨w.heap.size, 2, none⟩ (.bool t2)).setCell ⟨w.heap.size, 3, none⟩ (.slice B2 m2 d2)).setCell ⟨w.heap.size + 1, 0, none⟩ (.bool s1)).setCell ⟨w.heap.size + 1, 1, none⟩ (.slice A1 n1 c1)).setCell ⟨w.heap.size + 1, 2, none⟩ (.bool t1)).setCell ⟨w.heap.size + 1, 3, none⟩ (.slice B1 m1 d1)) = w7 at *
        have Q1 : Hid (QArg w7 s1 A1 n1 c1 t1 B1 m1 d1 p) := ⟨H1.out.ext TE.out, by omega, by omega⟩
        have Q2 : Hid (QArg w7 s2 A2 n2 c2 t2 B2 m2 d2 q) := ⟨H2.out.ext TE.out, by omega, by omega⟩
        have S7 := Lib.hid (HS.out.below TE.out)
        clear x0 x1 x2 x3 y0 y1 y2 y3 fx0 fx1 fx2 fx3 fy0 fy1 fy2 fy3 lx ly N1 N2 O1 O2 S6 HE6
        have HMF := Lib.hid (mono_facts H0.out HLE.out)
        obtain ⟨⟨x0, x1, x2, x3⟩, _, _⟩ := T1.out
        obtain ⟨⟨y0, y1, y2, y3⟩, _, _⟩ := T2.out
        refine (supply_any A n c xs s2 A2 n2 c2 t2 B2 m2 d2 q w7 S7.out hn Q2.out).mono ?_
        rintro e v1 ⟨rfl, hF1⟩
        obtain ⟨ct, hct⟩ : ∃ v, chk true xs = v := ⟨_, rfl⟩
        rw [hct] at HMF
        rw [hct]
        have HCT := Lib.hid hct
        clear hct
        obtain ⟨l1, hl1⟩ : ∃ v, wantL true xs q = v := ⟨_, rfl⟩
        obtain ⟨u1, hu1⟩ : ∃ v, wantM true xs q = v := ⟨_, rfl⟩
        rw [hl1, hu1] at HMF
        rw [hl1, hu1]
        clear hl1 hu1
        obtain ⟨⟨x0', x1', x2', x3'⟩, _, _⟩ := T1.out.ext hF1
        obtain ⟨⟨y0', y1', y2', y3'⟩, _, _⟩ := T2.out.ext hF1
        clear x0 x1 x2 x3 y0 y1 y2 y3
        go_wp2_with fail
        refine (supply_any A n c xs s1 A1 n1 c1 t1 B1 m1 d1 p v1 (S7.out.below hF1) hn ((Q1.out).ext hF1)).mono ?_
        rintro e v2 ⟨rfl, hF2'⟩
        have hF2 := Ext.trans hF1 hF2'
        rw [HCT.out]
        obtain ⟨l2, hl2⟩ : ∃ v, wantL true xs p = v := ⟨_, rfl⟩
        obtain ⟨u2, hu2⟩ : ∃ v, wantM true xs p = v := ⟨_, rfl⟩
        rw [hl2, hu2] at HMF
        rw [hl2, hu2]
        clear hl2 hu2
        obtain ⟨⟨x0, x1, x2, x3⟩, _, _⟩ := T1.out.ext hF2
        obtain ⟨⟨y0, y1, y2, y3⟩, _, _⟩ := T2.out.ext hF2
        clear x0' x1' x2' x3' y0' y1' y2' y3'
        go_wp2_with fail
        refine (demand_any A n c xs s2 A2 n2 c2 t2 B2 m2 d2 q v2 (S7.out.below hF2) hn ((Q2.out).ext hF2)).mono ?_
        rintro e v3 ⟨rfl, hF3'⟩
        have hF3 := Ext.trans hF2 hF3'
        obtain ⟨cf, hcf⟩ : ∃ v, chk false xs = v := ⟨_, rfl⟩
        rw [hcf] at HMF
        rw [hcf]
        have HCF := Lib.hid hcf
        clear hcf
        obtain ⟨l3, hl3⟩ : ∃ v, wantL false xs q = v := ⟨_, rfl⟩
        obtain ⟨u3, hu3⟩ : ∃ v, wantM false xs q = v := ⟨_, rfl⟩
        rw [hl3, hu3] at HMF
        rw [hl3, hu3]
        clear hl3 hu3
        obtain ⟨⟨x0', x1', x2', x3'⟩, _, _⟩ := T1.out.ext hF3
        obtain ⟨⟨y0', y1', y2', y3'⟩, _, _⟩ := T2.out.ext hF3
        clear x0 x1 x2 x3 y0 y1 y2 y3
        go_wp2_with fail
        refine (demand_any A n c xs s1 A1 n1 c1 t1 B1 m1 d1 p v3 (S7.out.below hF3) hn ((Q1.out).ext hF3)).mono ?_
        rintro e v4 ⟨rfl, hF4'⟩
        have hF4 := Ext.trans hF3 hF4'
        rw [HCF.out]
        obtain ⟨l4, hl4⟩ : ∃ v, wantL false xs p = v := ⟨_, rfl⟩
        obtain ⟨u4, hu4⟩ : ∃ v, wantM false xs p = v := ⟨_, rfl⟩
        rw [hl4, hu4] at HMF
        rw [hl4, hu4]
        clear hl4 hu4
        obtain ⟨⟨x0, x1, x2, x3⟩, _, _⟩ := T1.out.ext hF4
        obtain ⟨⟨y0, y1, y2, y3⟩, _, _⟩ := T2.out.ext hF4
        clear x0' x1' x2' x3' y0' y1' y2' y3' hF1 hF2' hF2 hF3' hF3 hF4'
        obtain ⟨g1, g2, g3, g4, _⟩ := HMF.out
        have hd1 : decide (l2 < l1) = false := by simp; omega
        have hd2 : decide (u2 < u1) = false := by simp; omega
        have hd3 : decide (l3 < l4) = false := by simp; omega
        have hd4 : decide (u3 < u4) = false := by simp; omega
        clear g1 g2 g3 g4
        go_wp2_with fail
        refine (qequal_any s2 A2 n2 c2 t2 B2 m2 d2 q s1 A1 n1 c1 t1 B1 m1 d1 p v4 ((Q2.out).ext hF4) ((Q1.out).ext hF4)).mono ?_
        rintro e v5 ⟨rfl, hF5⟩
        have HEF := Lib.hid (Ext.trans TE.out (Ext.trans hF4 hF5))
        by_cases heq : q = p
        · rw [decide_eq_true heq]
          clear heq
          go_wp2_with fail
          go_ret
          exact ⟨rfl, HEF.out⟩
        · rw [decide_eq_false heq]
          by_cases hc1 : ct = 0 ∧ u1 ≤ l2
          · obtain ⟨e1, e2⟩ := hc1
            have hq1 : (ct == 0) = true := by simp [e1]
            have hq2 : decide (u1 ≤ l2) = true := by simp; omega
            subst e1
            clear heq e2
            go_wp2_with fail
            go_ret
            exact ⟨rfl, HEF.out⟩
          · obtain ⟨e1, e2⟩ : cf = 0 ∧ u4 ≤ l3 := by
              rcases HMF.out.2.2.2.2 heq with h | h
              · exact absurd h hc1
              · exact h
            have hq1 : (cf == 0) = true := by simp [e1]
            have hq2 : decide (u4 ≤ l3) = true := by simp; omega
            have hq3 : (ct == 0) = false ∨ ((ct == 0) = true ∧ decide (u1 ≤ l2) = false) := by
              by_cases e : ct = 0
              · exact .inr ⟨by simp [e], by simp; have : ¬ u1 ≤ l2 := fun h => hc1 ⟨e, h⟩; omega⟩
              · exact .inl (by simp [e])
            subst e1
            clear heq e2 hc1
            rcases hq3 with hq3 | ⟨hq3, hq4⟩
            all_goals
              go_wp2_with fail
              go_ret
              exact ⟨rfl, HEF.out⟩
      · have hbg : decide (0 < cq) = false := decide_eq_false hgt
        have HLE : Hid (p ≤ q) := Rat.not_lt.1 (fun e => hgt (HPOS.out.2 e))
        clear hgt HPOS
        have HMF := Lib.hid (mono_facts H0.out HLE.out)
        obtain ⟨⟨x0, x1, x2, x3⟩, _, _⟩ := N1.out
        obtain ⟨⟨y0, y1, y2, y3⟩, _, _⟩ := N2.out
        go_wp2_with fail
        refine (supply_any A n c xs s1 A1 n1 c1 t1 B1 m1 d1 p w6 S6.out hn O1.out).mono ?_
        rintro e v1 ⟨rfl, hF1⟩
        obtain ⟨ct, hct⟩ : ∃ v, chk true xs = v := ⟨_, rfl⟩
        rw [hct] at HMF
        rw [hct]
        have HCT := Lib.hid hct
        clear hct
        obtain ⟨l1, hl1⟩ : ∃ v, wantL true xs p = v := ⟨_, rfl⟩
        obtain ⟨u1, hu1⟩ : ∃ v, wantM true xs p = v := ⟨_, rfl⟩
        rw [hl1, hu1] at HMF
        rw [hl1, hu1]
        clear hl1 hu1
        obtain ⟨⟨x0', x1', x2', x3'⟩, _, _⟩ := N1.out.ext hF1
        obtain ⟨⟨y0', y1', y2', y3'⟩, _, _⟩ := N2.out.ext hF1
        clear x0 x1 x2 x3 y0 y1 y2 y3
        go_wp2_with fail
        refine (supply_any A n c xs s2 A2 n2 c2 t2 B2 m2 d2 q v1 (S6.out.below hF1) hn ((O2.out).ext hF1)).mono ?_
        rintro e v2 ⟨rfl, hF2'⟩
        have hF2 := Ext.trans hF1 hF2'
        rw [HCT.out]
        obtain ⟨l2, hl2⟩ : ∃ v, wantL true xs q = v := ⟨_, rfl⟩
        obtain ⟨u2, hu2⟩ : ∃ v, wantM true xs q = v := ⟨_, rfl⟩
        rw [hl2, hu2] at HMF
        rw [hl2, hu2]
        clear hl2 hu2
        obtain ⟨⟨x0, x1, x2, x3⟩, _, _⟩ := N1.out.ext hF2
        obtain ⟨⟨y0, y1, y2, y3⟩, _, _⟩ := N2.out.ext hF2
        clear x0' x1' x2' x3' y0' y1' y2' y3'
        go_wp2_with fail
        refine (demand_any A n c xs s1 A1 n1 c1 t1 B1 m1 d1 p v2 (S6.out.below hF2) hn ((O1.out).ext hF2)).mono ?_
        rintro e v3 ⟨rfl, hF3'⟩
        have hF3 := Ext.trans hF2 hF3'
        obtain ⟨cf, hcf⟩ : ∃ v, chk false xs = v := ⟨_, rfl⟩
        rw [hcf] at HMF
        rw [hcf]
        have HCF := Lib.hid hcf
        clear hcf
        obtain ⟨l3, hl3⟩ : ∃ v, wantL false xs p = v := ⟨_, rfl⟩
        obtain ⟨u3, hu3⟩ : ∃ v, wantM false xs p = v := ⟨_, rfl⟩
        rw [hl3, hu3] at HMF
        rw [hl3, hu3]
        clear hl3 hu3
        obtain ⟨⟨x0', x1', x2', x3'⟩, _, _⟩ := N1.out.ext hF3
        obtain ⟨⟨y0', y1', y2', y3'⟩, _, _⟩ := N2.out.ext hF3
        clear x0 x1 x2 x3 y0 y1 y2 y3
        go_wp2_with fail
        refine (demand_any A n c xs s2 A2 n2 c2 t2 B2 m2 d2 q v3 (S6.out.below hF3) hn ((O2.out).ext hF3)).mono ?_
        rintro e v4 ⟨rfl, hF4'⟩
        have hF4 := Ext.trans hF3 hF4'
        rw [HCF.out]
        obtain ⟨l4, hl4⟩ : ∃ v, wantL false xs q = v := ⟨_, rfl⟩
        obtain ⟨u4, hu4⟩ : ∃ v, wantM false xs q = v := ⟨_, rfl⟩
        rw [hl4, hu4] at HMF
        rw [hl4, hu4]
        clear hl4 hu4
        obtain ⟨⟨x0, x1, x2, x3⟩, _, _⟩ := N1.out.ext hF4
        obtain ⟨⟨y0, y1, y2, y3⟩, _, _⟩ := N2.out.ext hF4
        clear x0' x1' x2' x3' y0' y1' y2' y3' hF1 hF2' hF2 hF3' hF3 hF4'
        obtain ⟨g1, g2, g3, g4, _⟩ := HMF.out
        have hd1 : decide (l2 < l1) = false := by simp; omega
        have hd2 : decide (u2 < u1) = false := by simp; omega
        have hd3 : decide (l3 < l4) = false := by simp; omega
        have hd4 : decide (u3 < u4) = false := by simp; omega
        clear g1 g2 g3 g4
        go_wp2_with fail
        refine (qequal_any s1 A1 n1 c1 t1 B1 m1 d1 p s2 A2 n2 c2 t2 B2 m2 d2 q v4 ((O1.out).ext hF4) ((O2.out).ext hF4)).mono ?_
        rintro e v5 ⟨rfl, hF5⟩
        have HEF := Lib.hid (Ext.trans HE6.out (Ext.trans hF4 hF5))
        by_cases heq : p = q
        · rw [decide_eq_true heq]
          clear heq
          go_wp2_with fail
          go_ret
          exact ⟨rfl, HEF.out⟩
        · rw [decide_eq_false heq]
          by_cases hc1 : ct = 0 ∧ u1 ≤ l2
          · obtain ⟨e1, e2⟩ := hc1
            have hq1 : (ct == 0) = true := by simp [e1]
            have hq2 : decide (u1 ≤ l2) = true := by simp; omega
            subst e1
            clear heq e2
            go_wp2_with fail
            go_ret
            exact ⟨rfl, HEF.out⟩
          · obtain ⟨e1, e2⟩ : cf = 0 ∧ u4 ≤ l3 := by
              rcases HMF.out.2.2.2.2 heq with h | h
              · exact absurd h hc1
              · exact h
            have hq1 : (cf == 0) = true := by simp [e1]
            have hq2 : decide (u4 ≤ l3) = true := by simp; omega
            have hq3 : (ct == 0) = false ∨ ((ct == 0) = true ∧ decide (u1 ≤ l2) = false) := by
              by_cases e : ct = 0
              · exact .inr ⟨by simp [e], by simp; have : ¬ u1 ≤ l2 := fun h => hc1 ⟨e, h⟩; omega⟩
              · exact .inl (by simp [e])
            subst e1
            clear heq e2 hc1
            rcases hq3 with hq3 | ⟨hq3, hq4⟩
            all_goals
              go_wp2_with fail
              go_ret
              exact ⟨rfl, HEF.out⟩
    · rw [decide_eq_false h0]
      go_wp2_with fail
      refine (awake_any w4).mono ?_
      rintro e wz ⟨rfl, hEz⟩
      go_wp2_with fail
      go_ret
      exact ⟨rfl, Ext.trans (Ext.trans HE3.out hE4) hEz⟩
  · go_wp2_with fail
    refine (awake_any w3).mono ?_
    rintro e wz ⟨rfl, hEz⟩
    go_wp2_with fail
    go_ret
    exact ⟨rfl, Ext.trans HE3.out hEz⟩
end Go.Proofs.Ytppcpklnnbgcjaa
