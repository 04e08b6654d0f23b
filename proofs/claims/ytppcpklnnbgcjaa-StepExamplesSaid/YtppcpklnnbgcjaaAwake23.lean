/- pylonlaw23.awake answers true. Printed by gen_awake23.py. -/
import Derived.Test.YtppcpklnnbgcjaaLaw23B
namespace Go.Proofs.Ytppcpklnnbgcjaa
open Go.RowKit

theorem ints4 (w : World) (a b c d : Int) (t : TypeId) : IntsAt (w.alloc (.cells #[.int .i64 a, .int .i64 b, .int .i64 c, .int .i64 d] t)) (some ⟨w.heap.size, 0, none⟩) (2 * 2) [a, b, c, d] := by
  refine ⟨rfl, w.heap.size, 0, rfl, by simp, fun i hi => ?_⟩
  have : i = 0 ∨ i = 1 ∨ i = 2 ∨ i = 3 := by omega
  rcases this with rfl | rfl | rfl | rfl <;> simp [go_sem]
theorem ints2 (w : World) (a b : Int) (t : TypeId) : IntsAt (w.alloc (.cells #[.int .i64 a, .int .i64 b] t)) (some ⟨w.heap.size, 0, none⟩) (2 * 1) [a, b] := by
  refine ⟨rfl, w.heap.size, 0, rfl, by simp, fun i hi => ?_⟩
  have : i = 0 ∨ i = 1 := by omega
  rcases this with rfl | rfl <;> simp [go_sem]
theorem aw_chk : chk true [((10 : Int), (3 : Int)), (5, 7)] = 0 ∧ chk false [((10 : Int), (3 : Int)), (5, 7)] = 3 ∧ chk false [((4 : Int), (9 : Int)), (4, 2)] = 0 ∧ total [((10 : Int), (3 : Int)), (5, 7)] = 15 ∧ chk true [((0 : Int), (1 : Int))] = 1 := by decide
theorem aw_cost : (allocE [((10 : Int), (3 : Int)), (5, 7)] (12 : Int) = 0 ∧ costV [((10 : Int), (3 : Int)), (5, 7)] (12 : Int) = (44 : Int)) ∧ (allocE [((4 : Int), (9 : Int)), (4, 2)] (6 : Int) = 0 ∧ costV [((4 : Int), (9 : Int)), (4, 2)] (6 : Int) = (40 : Int)) ∧ allocE [((10 : Int), (3 : Int)), (5, 7)] (16 : Int) = 1 := by decide +kernel
theorem aw_part : partAt (12 : Int) [((10 : Int), (3 : Int)), (5, 7)] 0 = (10 : Int) ∧ partAt (12 : Int) [((10 : Int), (3 : Int)), (5, 7)] 1 = (2 : Int) := by decide +kernel
theorem aw_sz : ∀ i, i < 2 → Sz 33554432 (partAt (12 : Int) [((10 : Int), (3 : Int)), (5, 7)] i) := by
  intro i hi
  have : i = 0 ∨ i = 1 := by omega
  rcases this with rfl | rfl
  · rw [aw_part.1]; exact (sz_small (by omega) (by omega)).mono (by omega)
  · rw [aw_part.2]; exact (sz_small (by omega) (by omega)).mono (by omega)
theorem aw_want : (chk true [((10 : Int), (3 : Int)), (5, 7)] = 0 ∧ wantL true [((10 : Int), (3 : Int)), (5, 7)] (5 : Int) = 10 ∧ wantM true [((10 : Int), (3 : Int)), (5, 7)] (5 : Int) = 10) ∧ (chk true [((10 : Int), (3 : Int)), (5, 7)] = 0 ∧ wantL true [((10 : Int), (3 : Int)), (5, 7)] (7 : Int) = 10 ∧ wantM true [((10 : Int), (3 : Int)), (5, 7)] (7 : Int) = 15) ∧ (chk true [((10 : Int), (3 : Int)), (5, 7)] = 0 ∧ wantL true [((10 : Int), (3 : Int)), (5, 7)] (3 : Int) = 0 ∧ wantM true [((10 : Int), (3 : Int)), (5, 7)] (3 : Int) = 10) ∧ (chk false [((4 : Int), (9 : Int)), (4, 2)] = 0 ∧ wantL false [((4 : Int), (9 : Int)), (4, 2)] (9 : Int) = 0 ∧ wantM false [((4 : Int), (9 : Int)), (4, 2)] (9 : Int) = 4) := by decide +kernel
theorem parts_lit (w : World) (B0 : Nat) {s1 : Bool} {A1 : Option Addr} {n1 c1 : Nat} {t1 : Bool} {B1 : Option Addr} {m1 d1 : Nat} {p : Rat} {s2 : Bool} {A2 : Option Addr} {n2 c2 : Nat} {t2 : Bool} {B2 : Option Addr} {m2 d2 : Nat} {q : Rat} (h1 : QCan w B0 s1 A1 n1 c1 t1 B1 m1 d1 p) (h2 : QCan w B0 s2 A2 n2 c2 t2 B2 m2 d2 q) (t : TypeId) :
    PartsAt (w.alloc (.cells #[.bool s1, .slice A1 n1 c1, .bool t1, .slice B1 m1 d1, .bool s2, .slice A2 n2 c2, .bool t2, .slice B2 m2 d2] t)) B0 w.heap.size 2 2 (fun i => if i = 0 then p else q) := by
  have hE : Ext w (w.alloc (.cells #[.bool s1, .slice A1 n1 c1, .bool t1, .slice B1 m1 d1, .bool s2, .slice A2 n2 c2, .bool t2, .slice B2 m2 d2] t)) := Ext.al Ext.rfl' _
  have hb := Blk.new w t #[.bool s1, .slice A1 n1 c1, .bool t1, .slice B1 m1 d1, .bool s2, .slice A2 n2 c2, .bool t2, .slice B2 m2 d2]
  refine ⟨⟨by simp, fun j hj => ?_, fun j => hb.frozen j⟩, fun i hi => ?_⟩
  · rw [hb.cell j]
    have : j < (#[.bool s1, .slice A1 n1 c1, .bool t1, .slice B1 m1 d1, .bool s2, .slice A2 n2 c2, .bool t2, .slice B2 m2 d2] : Array Value).size := by simpa using hj
    exact ⟨_, Array.getElem?_eq_getElem this⟩
  · have : i = 0 ∨ i = 1 := by omega
    rcases this with rfl | rfl
    · exact ⟨s1, A1, n1, c1, t1, B1, m1, d1, by rw [hb.cell]; rfl, by rw [hb.cell]; rfl, by rw [hb.cell]; rfl, by rw [hb.cell]; rfl, h1.ext hE⟩
    · exact ⟨s2, A2, n2, c2, t2, B2, m2, d2, by rw [hb.cell]; rfl, by rw [hb.cell]; rfl, by rw [hb.cell]; rfl, by rw [hb.cell]; rfl, h2.ext hE⟩

set_option maxRecDepth 100000 in
set_option maxHeartbeats 8000000 in
theorem awake_any (w : World) : Calls Try.prog 11 #[] w fun e w' => e = .returned (.bool true) ∧ Ext w w' := by
  have HCK := Lib.hid aw_chk
  have HCO := Lib.hid aw_cost
  have HPA := Lib.hid aw_part
  have HWA := Lib.hid aw_want
  go_enter Try.func11, Try.ntmps11
  go_wp2_with fail
  refine (steps_any _ 2 4 [10, 3, 5, 7] _ (ints4 w 10 3 5 7 _) (by omega)).mono ?_
  rintro e w1 ⟨AL, cL, rfl, hL, hL2, hL3, hE1⟩
  have hE1' : Ext w w1 := Ext.trans (Ext.al Ext.rfl' _) hE1
  clear hE1
  go_wp2_with fail
  refine (steps_any _ 2 4 [4, 9, 4, 2] _ (ints4 w1 4 9 4 2 _) (by omega)).mono ?_
  rintro e w2 ⟨AM, cM, rfl, hM, hM2, hM3, hE2⟩
  have hE2' : Ext w1 w2 := Ext.trans (Ext.al Ext.rfl' _) hE2
  have HL : Hid (StepsAt w2 AL 2 [((10 : Int), (3 : Int)), (5, 7)]) := hL.below hE2'
  have HM : Hid (StepsAt w2 AM 2 [((4 : Int), (9 : Int)), (4, 2)]) := hM
  have HEW := Lib.hid (Ext.trans hE1' hE2')
  clear hE1' hE2 hE2' hL hM
  go_wp2_with fail
  refine (lwhole_any 12 w2 ⟨by omega, by omega⟩).mono ?_
  rintro e w3 ⟨s3, A3, n3, c3, t3, B3, m3, d3, rfl, hQ3, hX3⟩
  obtain ⟨ln3, lm3⟩ := hQ3.len (sz_small (z := 12) (by omega) (by omega))
  have HQ3 := Lib.hid hQ3
  have HX3 : Hid (Ext w2 w3) := Ext.trans Ext.rfl' hX3
  clear hQ3
  go_wp2_with fail
  refine (allocate_any AL 2 cL [((10 : Int), (3 : Int)), (5, 7)] s3 A3 n3 c3 t3 B3 m3 d3 (12 : Int) w3 (HL.out.below HX3.out) (by simp [maxLen]) HQ3.out.is (by omega) (by omega)).mono ?_
  rintro e w4 ⟨hX4, vA, rfl, hvA1, hvA2⟩
  have HX4 : Hid (Ext w2 w4) := Ext.trans HX3.out hX4
  rw [HCO.out.1.1]
  obtain ⟨gA, rfl, hgA, hPA⟩ := hvA2 HCO.out.1.1
  have HPP := Lib.hid hPA
  clear hvA1 hvA2 hPA
  go_wp2_with fail
  refine (lwhole_any 16 w4 ⟨by omega, by omega⟩).mono ?_
  rintro e w5 ⟨s5, A5, n5, c5, t5, B5, m5, d5, rfl, hQ5, hX5⟩
  obtain ⟨ln5, lm5⟩ := hQ5.len (sz_small (z := 16) (by omega) (by omega))
  have HQ5 := Lib.hid hQ5
  have HX5 : Hid (Ext w2 w5) := Ext.trans HX4.out hX5
  clear hQ5
  go_wp2_with fail
  refine (cost_any AL 2 cL [((10 : Int), (3 : Int)), (5, 7)] s5 A5 n5 c5 t5 B5 m5 d5 (16 : Int) w5 (HL.out.below HX5.out) (by simp [maxLen]) HQ5.out.is (by omega) (by omega)).mono ?_
  rintro e w6 ⟨sC, AC, nC, cC, tC, BC, mC, dC, rfl, hQC, hX6⟩
  have HX6 : Hid (Ext w2 w6) := Ext.trans HX5.out hX6
  rw [HCO.out.2.2]
  clear hQC
  go_wp2_with fail
  have hXa : Ext w6 (w6.alloc (.cells #[.bool sC, .slice AC nC cC, .bool tC, .slice BC mC dC] 33)) := Ext.al Ext.rfl' _
  generalize w6.alloc (.cells #[.bool sC, .slice AC nC cC, .bool tC, .slice BC mC dC] 33) = w7 at *
  have HXa : Hid (Ext w2 w7) := Ext.trans HX6.out hXa
  refine (checkOffer_any AL 2 cL [((10 : Int), (3 : Int)), (5, 7)] w7 (HL.out.below HXa.out) (by simp [maxLen])).mono ?_
  rintro e w8 ⟨rfl, hX8⟩
  have HX8 : Hid (Ext w2 w8) := Ext.trans HXa.out hX8
  rw [HCK.out.1]
  go_wp2_with fail
  refine (checkBid_any AL 2 cL [((10 : Int), (3 : Int)), (5, 7)] w8 (HL.out.below HX8.out) (by simp [maxLen])).mono ?_
  rintro e w9 ⟨rfl, hX9⟩
  have HX9 : Hid (Ext w2 w9) := Ext.trans HX8.out hX9
  rw [HCK.out.2.1]
  go_wp2_with fail
  refine (checkBid_any AM 2 cM [((4 : Int), (9 : Int)), (4, 2)] w9 (HM.out.below HX9.out) (by simp [maxLen])).mono ?_
  rintro e w10 ⟨rfl, hX10⟩
  have HX10 : Hid (Ext w2 w10) := Ext.trans HX9.out hX10
  rw [HCK.out.2.2.1]
  go_wp2_with fail
  refine (sum_any AL 2 cL [((10 : Int), (3 : Int)), (5, 7)] w10 (HL.out.below HX10.out) (by simp [maxLen])).mono ?_
  rintro e w11 ⟨rfl, hX11⟩
  have HX11 : Hid (Ext w2 w11) := Ext.trans HX10.out hX11
  rw [HCK.out.2.2.2.1]
  go_wp2_with fail
  refine (lwhole_any 12 w11 ⟨by omega, by omega⟩).mono ?_
  rintro e w12 ⟨s12, A12, n12, c12, t12, B12, m12, d12, rfl, hQ12, hX12⟩
  obtain ⟨ln12, lm12⟩ := hQ12.len (sz_small (z := 12) (by omega) (by omega))
  have HQ12 := Lib.hid hQ12
  have HX12 : Hid (Ext w2 w12) := Ext.trans HX11.out hX12
  clear hQ12
  go_wp2_with fail
  refine (lwhole_any 44 w12 ⟨by omega, by omega⟩).mono ?_
  rintro e w13 ⟨s13, A13, n13, c13, t13, B13, m13, d13, rfl, hQ13, hX13⟩
  obtain ⟨ln13, lm13⟩ := hQ13.len (sz_small (z := 44) (by omega) (by omega))
  have HQ13 := Lib.hid hQ13
  have HX13 : Hid (Ext w2 w13) := Ext.trans HX12.out hX13
  clear hQ13
  go_wp2_with fail
  refine (costs_any AL 2 cL [((10 : Int), (3 : Int)), (5, 7)] s12 A12 n12 c12 t12 B12 m12 d12 (12 : Int) s13 A13 n13 c13 t13 B13 m13 d13 (44 : Int) _ w13 (HL.out.below HX13.out) (by simp [maxLen]) (HQ12.out.ext hX13).is (by omega) (by omega) HQ13.out).mono ?_
  rintro e w14 ⟨rfl, hX14⟩
  have HX14 : Hid (Ext w2 w14) := Ext.trans HX13.out hX14
  rw [decide_eq_true HCO.out.1]
  go_wp2_with fail
  refine (lwhole_any 6 w14 ⟨by omega, by omega⟩).mono ?_
  rintro e w15 ⟨s15, A15, n15, c15, t15, B15, m15, d15, rfl, hQ15, hX15⟩
  obtain ⟨ln15, lm15⟩ := hQ15.len (sz_small (z := 6) (by omega) (by omega))
  have HQ15 := Lib.hid hQ15
  have HX15 : Hid (Ext w2 w15) := Ext.trans HX14.out hX15
  clear hQ15
  go_wp2_with fail
  refine (lwhole_any 40 w15 ⟨by omega, by omega⟩).mono ?_
  rintro e w16 ⟨s16, A16, n16, c16, t16, B16, m16, d16, rfl, hQ16, hX16⟩
  obtain ⟨ln16, lm16⟩ := hQ16.len (sz_small (z := 40) (by omega) (by omega))
  have HQ16 := Lib.hid hQ16
  have HX16 : Hid (Ext w2 w16) := Ext.trans HX15.out hX16
  clear hQ16
  go_wp2_with fail
  refine (costs_any AM 2 cM [((4 : Int), (9 : Int)), (4, 2)] s15 A15 n15 c15 t15 B15 m15 d15 (6 : Int) s16 A16 n16 c16 t16 B16 m16 d16 (40 : Int) _ w16 (HM.out.below HX16.out) (by simp [maxLen]) (HQ15.out.ext hX16).is (by omega) (by omega) HQ16.out).mono ?_
  rintro e w17 ⟨rfl, hX17⟩
  have HX17 : Hid (Ext w2 w17) := Ext.trans HX16.out hX17
  rw [decide_eq_true HCO.out.2.1]
  go_wp2_with fail
  refine (lwhole_any 10 w17 ⟨by omega, by omega⟩).mono ?_
  rintro e w18 ⟨s18, A18, n18, c18, t18, B18, m18, d18, rfl, hQ18, hX18⟩
  obtain ⟨ln18, lm18⟩ := hQ18.len (sz_small (z := 10) (by omega) (by omega))
  have HQ18 := Lib.hid hQ18
  have HX18 : Hid (Ext w2 w18) := Ext.trans HX17.out hX18
  clear hQ18
  go_wp2_with fail
  refine (lwhole_any 2 w18 ⟨by omega, by omega⟩).mono ?_
  rintro e w19 ⟨s19, A19, n19, c19, t19, B19, m19, d19, rfl, hQ19, hX19⟩
  obtain ⟨ln19, lm19⟩ := hQ19.len (sz_small (z := 2) (by omega) (by omega))
  have HQ19 := Lib.hid hQ19
  have HX19 : Hid (Ext w2 w19) := Ext.trans HX18.out hX19
  clear hQ19
  go_wp2_with fail
  have HPL := Lib.hid (parts_lit w19 0 ((HQ18.out.ext hX19).base (Nat.zero_le _)) (HQ19.out.base (Nat.zero_le _)) 33)
  have hXb : Ext w19 (w19.alloc (.cells #[.bool s18, .slice A18 n18 c18, .bool t18, .slice B18 m18 d18, .bool s19, .slice A19 n19 c19, .bool t19, .slice B19 m19 d19] 33)) := Ext.al Ext.rfl' _
  have hsb : w19.heap.size = w19.heap.size := rfl
  generalize w19.alloc (.cells #[.bool s18, .slice A18 n18 c18, .bool t18, .slice B18 m18 d18, .bool s19, .slice A19 n19 c19, .bool t19, .slice B19 m19 d19] 33) = w20 at *
  have HXb : Hid (Ext w2 w20) := Ext.trans HX19.out hXb
  have HPE : Hid (Ext w4 w20) := Ext.trans hX5 (Ext.trans hX6 (Ext.trans hXa (Ext.trans hX8 (Ext.trans hX9 (Ext.trans hX10 (Ext.trans hX11 (Ext.trans hX12 (Ext.trans hX13 (Ext.trans hX14 (Ext.trans hX15 (Ext.trans hX16 (Ext.trans hX17 (Ext.trans hX18 (Ext.trans hX19 (hXb)))))))))))))))
  refine (rrows_any gA 2 2 (partAt (12 : Int) [((10 : Int), (3 : Int)), (5, 7)]) w19.heap.size 2 2 _ _ _ w20 (HPP.out.ext HPE.out) HPL.out aw_sz (by omega) (by omega)).mono ?_
  rintro e w21 ⟨⟨bR, rfl, hbR⟩, hX21⟩
  have HX21 : Hid (Ext w2 w21) := Ext.trans HXb.out hX21
  have hbT : bR = true := hbR.2 ⟨rfl, fun i hi => by
    have : i = 0 ∨ i = 1 := by omega
    rcases this with rfl | rfl
    · exact HPA.out.1
    · exact HPA.out.2⟩
  subst hbT
  clear hbR
  go_wp2_with fail
  refine (lwhole_any 5 w21 ⟨by omega, by omega⟩).mono ?_
  rintro e w22 ⟨s22, A22, n22, c22, t22, B22, m22, d22, rfl, hQ22, hX22⟩
  obtain ⟨ln22, lm22⟩ := hQ22.len (sz_small (z := 5) (by omega) (by omega))
  have HQ22 := Lib.hid hQ22
  have HX22 : Hid (Ext w2 w22) := Ext.trans HX21.out hX22
  clear hQ22
  go_wp2_with fail
  refine (wanted_off AL 2 cL [((10 : Int), (3 : Int)), (5, 7)] s22 A22 n22 c22 t22 B22 m22 d22 (5 : Int) 10 10 w22 (HL.out.below HX22.out) (by simp [maxLen]) (HQ22.out.arg (sz_small (z := 5) (by omega) (by omega)) (by omega))).mono ?_
  rintro e w23 ⟨rfl, hX23⟩
  have HX23 : Hid (Ext w2 w23) := Ext.trans HX22.out hX23
  rw [decide_eq_true HWA.out.1]
  go_wp2_with fail
  refine (lwhole_any 7 w23 ⟨by omega, by omega⟩).mono ?_
  rintro e w24 ⟨s24, A24, n24, c24, t24, B24, m24, d24, rfl, hQ24, hX24⟩
  obtain ⟨ln24, lm24⟩ := hQ24.len (sz_small (z := 7) (by omega) (by omega))
  have HQ24 := Lib.hid hQ24
  have HX24 : Hid (Ext w2 w24) := Ext.trans HX23.out hX24
  clear hQ24
  go_wp2_with fail
  refine (wanted_off AL 2 cL [((10 : Int), (3 : Int)), (5, 7)] s24 A24 n24 c24 t24 B24 m24 d24 (7 : Int) 10 15 w24 (HL.out.below HX24.out) (by simp [maxLen]) (HQ24.out.arg (sz_small (z := 7) (by omega) (by omega)) (by omega))).mono ?_
  rintro e w25 ⟨rfl, hX25⟩
  have HX25 : Hid (Ext w2 w25) := Ext.trans HX24.out hX25
  rw [decide_eq_true HWA.out.2.1]
  go_wp2_with fail
  refine (lwhole_any 3 w25 ⟨by omega, by omega⟩).mono ?_
  rintro e w26 ⟨s26, A26, n26, c26, t26, B26, m26, d26, rfl, hQ26, hX26⟩
  obtain ⟨ln26, lm26⟩ := hQ26.len (sz_small (z := 3) (by omega) (by omega))
  have HQ26 := Lib.hid hQ26
  have HX26 : Hid (Ext w2 w26) := Ext.trans HX25.out hX26
  clear hQ26
  go_wp2_with fail
  refine (wanted_off AL 2 cL [((10 : Int), (3 : Int)), (5, 7)] s26 A26 n26 c26 t26 B26 m26 d26 (3 : Int) 0 10 w26 (HL.out.below HX26.out) (by simp [maxLen]) (HQ26.out.arg (sz_small (z := 3) (by omega) (by omega)) (by omega))).mono ?_
  rintro e w27 ⟨rfl, hX27⟩
  have HX27 : Hid (Ext w2 w27) := Ext.trans HX26.out hX27
  rw [decide_eq_true HWA.out.2.2.1]
  go_wp2_with fail
  refine (lwhole_any 9 w27 ⟨by omega, by omega⟩).mono ?_
  rintro e w28 ⟨s28, A28, n28, c28, t28, B28, m28, d28, rfl, hQ28, hX28⟩
  obtain ⟨ln28, lm28⟩ := hQ28.len (sz_small (z := 9) (by omega) (by omega))
  have HQ28 := Lib.hid hQ28
  have HX28 : Hid (Ext w2 w28) := Ext.trans HX27.out hX28
  clear hQ28
  go_wp2_with fail
  refine (wanted_bid AM 2 cM [((4 : Int), (9 : Int)), (4, 2)] s28 A28 n28 c28 t28 B28 m28 d28 (9 : Int) 0 4 w28 (HM.out.below HX28.out) (by simp [maxLen]) (HQ28.out.arg (sz_small (z := 9) (by omega) (by omega)) (by omega))).mono ?_
  rintro e w29 ⟨rfl, hX29⟩
  have HX29 : Hid (Ext w2 w29) := Ext.trans HX28.out hX29
  rw [decide_eq_true HWA.out.2.2.2]
  go_wp2_with fail
  refine (steps_any _ 1 2 [0, 1] _ (ints2 w29 0 1 _) (by omega)).mono ?_
  rintro e w30 ⟨AZ, cZ, rfl, hZ, hZ2, hZ3, hX30⟩
  have HX30 : Hid (Ext w2 w30) := Ext.trans (Ext.al HX29.out _) hX30
  have HZ : Hid (StepsAt w30 AZ 1 [((0 : Int), (1 : Int))]) := hZ
  clear hZ
  go_wp2_with fail
  refine (checkOffer_any AZ 1 cZ [((0 : Int), (1 : Int))] w30 HZ.out (by simp [maxLen])).mono ?_
  rintro e w31 ⟨rfl, hX31⟩
  have HX31 : Hid (Ext w2 w31) := Ext.trans HX30.out hX31
  rw [HCK.out.2.2.2.2]
  go_wp2_with fail
  go_ret
  exact ⟨rfl, Ext.trans HEW.out HX31.out⟩
end Go.Proofs.Ytppcpklnnbgcjaa
