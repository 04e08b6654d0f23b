/- The walk of the law StepNegation. Printed by gen_neg.py. -/
import Derived.Test.YtppcpklnnbgcjaaAwake23
import Derived.Test.YtppcpklnnbgcjaaLong23
import Derived.Test.YtppcpklnnbgcjaaNegP
namespace Go.Proofs.Ytppcpklnnbgcjaa
open Go.RowKit

set_option maxRecDepth 100000 in
set_option maxHeartbeats 8000000 in
theorem negl_any (A : Option Addr) (n c : Nat) (xs : List (Int × Int)) (s1 : Bool) (A1 : Option Addr) (n1 c1 : Nat) (t1 : Bool) (B1 : Option Addr) (m1 d1 : Nat) (p : Rat) (s2 : Bool) (A2 : Option Addr) (n2 c2 : Nat) (t2 : Bool) (B2 : Option Addr) (m2 d2 : Nat) (q : Rat) (w : World) (hs : StepsAt w A n xs) (hn : n ≤ maxLen) (h1 : QIs w s1 A1 n1 c1 t1 B1 m1 d1 p) (h2 : QIs w s2 A2 n2 c2 t2 B2 m2 d2 q) (hi : ∀ x ∈ xs, I64r x.2) :
    Calls Try.prog 8 #[.slice A n c, .agg #[.bool s1, .slice A1 n1 c1, .bool t1, .slice B1 m1 d1], .agg #[.bool s2, .slice A2 n2 c2, .bool t2, .slice B2 m2 d2]] w fun e w' => e = .returned (.bool true) ∧ Ext w w' := by
  by_cases h100 : 100 < n
  · have hb : decide ((100 : Int) < (n : Int)) = true := by simp; omega
    have hb2 : decide (100 < n) = true := by simp; omega
    go_enter Try.func8, Try.ntmps8
    go_wp2_with fail
    refine (awake_any _).mono ?_
    rintro e wz ⟨rfl, hEz⟩
    go_wp2_with fail
    go_ret
    exact ⟨rfl, Ext.trans (Ext.al (Ext.al Ext.rfl' _) _) hEz⟩
  have hb : decide ((100 : Int) < (n : Int)) = false := by simp; omega
  have hb2 : decide (100 < n) = false := by simp; omega
  have HS := Lib.hid hs
  have H1 := Lib.hid h1
  have H2 := Lib.hid h2
  have HI := Lib.hid hi
  clear hi
  have HBL : Hid ((n1 ≤ maxLen ∧ m1 ≤ maxLen) ∧ n2 ≤ maxLen ∧ m2 ≤ maxLen) := by
    obtain ⟨z, y, ⟨_, _, a1, a2, _⟩, ⟨_, _, a3, a4, _⟩, _⟩ := h1
    obtain ⟨z', y', ⟨_, _, b1, b2, _⟩, ⟨_, _, b3, b4, _⟩, _⟩ := h2
    exact ⟨⟨by omega, by omega⟩, by omega, by omega⟩
  clear hs h1 h2
  go_enter Try.func8, Try.ntmps8
  go_wp2_with fail
  obtain ⟨k1, k2, hE⟩ := boxQ2 w (.bool s1) (.slice A1 n1 c1) (.bool t1) (.slice B1 m1 d1) (.bool s2) (.slice A2 n2 c2) (.bool t2) (.slice B2 m2 d2) 33
  have hbk := Blk.new ((w.alloc (.cells #[.bool s1, .slice A1 n1 c1, .bool t1, .slice B1 m1 d1] 33)).alloc (.cells #[.bool s2, .slice A2 n2 c2, .bool t2, .slice B2 m2 d2] 33)) 33 #[.bool s1, .slice A1 n1 c1, .bool t1, .slice B1 m1 d1, .bool s2, .slice A2 n2 c2, .bool t2, .slice B2 m2 d2]
  have hE1 : Ext ((w.alloc (.cells #[.bool s1, .slice A1 n1 c1, .bool t1, .slice B1 m1 d1] 33)).alloc (.cells #[.bool s2, .slice A2 n2 c2, .bool t2, .slice B2 m2 d2] 33)) (((w.alloc (.cells #[.bool s1, .slice A1 n1 c1, .bool t1, .slice B1 m1 d1] 33)).alloc (.cells #[.bool s2, .slice A2 n2 c2, .bool t2, .slice B2 m2 d2] 33)).alloc (.cells #[.bool s1, .slice A1 n1 c1, .bool t1, .slice B1 m1 d1, .bool s2, .slice A2 n2 c2, .bool t2, .slice B2 m2 d2] 33)) := Ext.al Ext.rfl' _
  rw [show ((w.alloc (.cells #[.bool s1, .slice A1 n1 c1, .bool t1, .slice B1 m1 d1] 33)).alloc (.cells #[.bool s2, .slice A2 n2 c2, .bool t2, .slice B2 m2 d2] 33)).heap.size = w.heap.size + 1 + 1 by simp] at hbk
  generalize ((w.alloc (.cells #[.bool s1, .slice A1 n1 c1, .bool t1, .slice B1 m1 d1] 33)).alloc (.cells #[.bool s2, .slice A2 n2 c2, .bool t2, .slice B2 m2 d2] 33)).alloc (.cells #[.bool s1, .slice A1 n1 c1, .bool t1, .slice B1 m1 d1, .bool s2, .slice A2 n2 c2, .bool t2, .slice B2 m2 d2] 33) = wb2 at *
  generalize (w.alloc (.cells #[.bool s1, .slice A1 n1 c1, .bool t1, .slice B1 m1 d1] 33)).alloc (.cells #[.bool s2, .slice A2 n2 c2, .bool t2, .slice B2 m2 d2] 33) = wb1 at *
  have Ewb1 := Lib.hid hE
  clear hE
  have K1 := Lib.hid k1
  have K2 := Lib.hid k2
  clear k1 k2
  have Ewb2 := Lib.hid hE1
  clear hE1
  refine (long_any (w.heap.size + 1 + 1) 2 2 (fun i => if i = 0 then (n1, m1) else (n2, m2)) wb2 ?_ (by omega) ?_).mono ?_
  · intro i hi
    have : i = 0 ∨ i = 1 := by omega
    rcases this with rfl | rfl
    · exact ⟨A1, c1, B1, d1, by rw [hbk.cell]; rfl, by rw [hbk.cell]; rfl⟩
    · exact ⟨A2, c2, B2, d2, by rw [hbk.cell]; rfl, by rw [hbk.cell]; rfl⟩
  · intro i
    by_cases e : i = 0
    · simp only [if_pos e]; exact HBL.out.1
    · simp only [if_neg e]; exact HBL.out.2
  rintro e w1 ⟨⟨bl, rfl, hbl⟩, hE⟩
  have Ew1 := Lib.hid hE
  clear hE
  have HLN : Hid (bl = false → ((n1 ≤ 6 ∧ m1 ≤ 6) ∧ n2 ≤ 6 ∧ m2 ≤ 6)) := fun e => ⟨hbl.1 e 0 (by omega), hbl.1 e 1 (by omega)⟩
  clear hbk hbl HBL
  cases bl
  rotate_left
  · go_wp2_with fail
    refine (awake_any w1).mono ?_
    rintro e wz ⟨rfl, hEz⟩
    go_wp2_with fail
    go_ret
    exact ⟨rfl, Ext.trans (Ext.trans Ewb1.out (Ext.trans Ewb2.out Ew1.out)) hEz⟩
  obtain ⟨⟨ln1, lm1⟩, ln2, lm2⟩ := HLN.out rfl
  clear HLN
  have HZ1 : Hid (Sz 6 p) := H1.out.sz (by omega) (by omega) (by omega)
  have HZ2 : Hid (Sz 6 q) := H2.out.sz (by omega) (by omega) (by omega)
  go_wp2_with fail
  refine (awake_any w1).mono ?_
  rintro e w2 ⟨rfl, hE⟩
  have Ew2 := Lib.hid hE
  clear hE
  go_wp2_with fail
  refine (negate_any A n c xs w2 (HS.out.below (Ext.trans Ewb1.out (Ext.trans Ewb2.out (Ext.trans Ew1.out Ew2.out)))) (by omega)).mono ?_
  rintro e w3 ⟨At, ct, rfl, hT, hnct, hcmt, hE⟩
  have Ew3 := Lib.hid hE
  clear hE
  have Tt := Lib.hid hT
  clear hT
  go_wp2_with fail
  refine (negate_any At n ct (negL xs) w3 Tt.out (by omega)).mono ?_
  rintro e w4 ⟨Au, cu, rfl, hT, hncu, hcmu, hE⟩
  have Ew4 := Lib.hid hE
  clear hE
  have Tu := Lib.hid hT
  clear hT
  have TU := Tu.out
  rw [negL_negL HI.out] at TU
  have TV := Lib.hid TU
  clear TU Tu
  go_wp2_with fail
  refine (same_steps Au n cu A c xs w4 TV.out (HS.out.below (Ext.trans Ewb1.out (Ext.trans Ewb2.out (Ext.trans Ew1.out (Ext.trans Ew2.out (Ext.trans Ew3.out Ew4.out)))))) (by omega)).mono ?_
  rintro e w5 ⟨rfl, hE⟩
  have Ew5 := Lib.hid hE
  clear hE
  go_wp2_with fail
  refine (curve_any A n c xs w5 (HS.out.below (Ext.trans Ewb1.out (Ext.trans Ewb2.out (Ext.trans Ew1.out (Ext.trans Ew2.out (Ext.trans Ew3.out (Ext.trans Ew4.out Ew5.out))))))) hn).mono ?_
  rintro e w6 ⟨rfl, hE⟩
  have Ew6 := Lib.hid hE
  clear hE
  by_cases h0 : crv xs = 0
  rotate_left
  · rw [decide_eq_false h0]
    have H0 := Lib.hid h0
    clear h0
    go_wp2_with fail
    refine (curve_any At n ct (negL xs) w6 (Tt.out.below (Ext.trans Ew4.out (Ext.trans Ew5.out Ew6.out))) hn).mono ?_
    rintro e w7 ⟨rfl, hE⟩
    have Ew7 := Lib.hid hE
    clear hE
    rw [decide_eq_false (fun h => H0.out ((crv_neg HI.out).1 h))]
    go_wp2_with fail
    go_ret
    exact ⟨rfl, (Ext.trans Ewb1.out (Ext.trans Ewb2.out (Ext.trans Ew1.out (Ext.trans Ew2.out (Ext.trans Ew3.out (Ext.trans Ew4.out (Ext.trans Ew5.out (Ext.trans Ew6.out Ew7.out))))))))⟩
  rw [decide_eq_true h0]
  have HF := Lib.hid (neg_curve h0 p q)
  have H0 := Lib.hid h0
  clear h0
  obtain ⟨⟨x10, x11, x12, x13⟩, _, z1⟩ := (K1.out.ext (Ext.trans Ewb2.out (Ext.trans Ew1.out (Ext.trans Ew2.out (Ext.trans Ew3.out (Ext.trans Ew4.out (Ext.trans Ew5.out Ew6.out)))))))
  obtain ⟨⟨x20, x21, x22, x23⟩, _, z2⟩ := (K2.out.ext (Ext.trans Ewb2.out (Ext.trans Ew1.out (Ext.trans Ew2.out (Ext.trans Ew3.out (Ext.trans Ew4.out (Ext.trans Ew5.out Ew6.out)))))))
  go_wp2_with fail
  clear x10 x11 x12 x13 z1 x20 x21 x22 x23 z2
  refine (cost_any A n c xs s1 A1 n1 c1 t1 B1 m1 d1 p w6 (HS.out.below (Ext.trans Ewb1.out (Ext.trans Ewb2.out (Ext.trans Ew1.out (Ext.trans Ew2.out (Ext.trans Ew3.out (Ext.trans Ew4.out (Ext.trans Ew5.out Ew6.out)))))))) hn (H1.out.ext (Ext.trans Ewb1.out (Ext.trans Ewb2.out (Ext.trans Ew1.out (Ext.trans Ew2.out (Ext.trans Ew3.out (Ext.trans Ew4.out (Ext.trans Ew5.out Ew6.out)))))))) (by omega) (by omega)).mono ?_
  rintro e w8 ⟨sx, Ax, nx, cx, tx, Bx, mx, dx, rfl, hQ, hE⟩
  have Ew8 := Lib.hid hE
  clear hE
  have Qx := Lib.hid hQ
  clear hQ
  obtain ⟨ea, hea⟩ : ∃ v, allocE xs p = v := ⟨_, rfl⟩
  rw [hea]
  have HEA := Lib.hid hea
  clear hea
  have HZx : Hid (Sz 8024 (costV xs p)) := sz_costV (HZ1.out.mono (by omega))
  obtain ⟨⟨x10, x11, x12, x13⟩, _, z1⟩ := (K1.out.ext (Ext.trans Ewb2.out (Ext.trans Ew1.out (Ext.trans Ew2.out (Ext.trans Ew3.out (Ext.trans Ew4.out (Ext.trans Ew5.out (Ext.trans Ew6.out Ew8.out))))))))
  obtain ⟨⟨x20, x21, x22, x23⟩, _, z2⟩ := (K2.out.ext (Ext.trans Ewb2.out (Ext.trans Ew1.out (Ext.trans Ew2.out (Ext.trans Ew3.out (Ext.trans Ew4.out (Ext.trans Ew5.out (Ext.trans Ew6.out Ew8.out))))))))
  go_wp2_with fail
  clear x10 x11 x12 x13 z1 x20 x21 x22 x23 z2
  have kw9 := Cell4.new w8 _ rfl (.bool sx) (.slice Ax nx cx) (.bool tx) (.slice Bx mx dx) 33
  have hE : Ext w8 (w8.alloc (.cells #[.bool sx, .slice Ax nx cx, .bool tx, .slice Bx mx dx] 33)) := Ext.al Ext.rfl' _
  generalize w8.alloc (.cells #[.bool sx, .slice Ax nx cx, .bool tx, .slice Bx mx dx] 33) = w9 at *
  have Ew9 := Lib.hid hE
  clear hE
  have Kx := Lib.hid kw9
  clear kw9
  refine (cost_any At n ct (negL xs) s1 A1 n1 c1 t1 B1 m1 d1 p w9 (Tt.out.below (Ext.trans Ew4.out (Ext.trans Ew5.out (Ext.trans Ew6.out (Ext.trans Ew8.out Ew9.out))))) hn (H1.out.ext (Ext.trans Ewb1.out (Ext.trans Ewb2.out (Ext.trans Ew1.out (Ext.trans Ew2.out (Ext.trans Ew3.out (Ext.trans Ew4.out (Ext.trans Ew5.out (Ext.trans Ew6.out (Ext.trans Ew8.out Ew9.out)))))))))) (by omega) (by omega)).mono ?_
  rintro e w10 ⟨sy, Ay, ny, cy, ty, By, my, dy, rfl, hQ, hE⟩
  have Ew10 := Lib.hid hE
  clear hE
  have Qy := Lib.hid hQ
  clear hQ
  rw [HF.out.1, HEA.out]
  have QyN := Qy.out
  rw [HF.out.2.1] at QyN
  have Qz := Lib.hid QyN
  clear QyN Qy
  obtain ⟨⟨x10, x11, x12, x13⟩, _, z1⟩ := (K1.out.ext (Ext.trans Ewb2.out (Ext.trans Ew1.out (Ext.trans Ew2.out (Ext.trans Ew3.out (Ext.trans Ew4.out (Ext.trans Ew5.out (Ext.trans Ew6.out (Ext.trans Ew8.out (Ext.trans Ew9.out Ew10.out))))))))))
  obtain ⟨⟨x20, x21, x22, x23⟩, _, z2⟩ := (K2.out.ext (Ext.trans Ewb2.out (Ext.trans Ew1.out (Ext.trans Ew2.out (Ext.trans Ew3.out (Ext.trans Ew4.out (Ext.trans Ew5.out (Ext.trans Ew6.out (Ext.trans Ew8.out (Ext.trans Ew9.out Ew10.out))))))))))
  go_wp2_with fail
  clear x10 x11 x12 x13 z1 x20 x21 x22 x23 z2
  have kw11 := Cell4.new w10 _ rfl (.bool sy) (.slice Ay ny cy) (.bool ty) (.slice By my dy) 33
  have hE : Ext w10 (w10.alloc (.cells #[.bool sy, .slice Ay ny cy, .bool ty, .slice By my dy] 33)) := Ext.al Ext.rfl' _
  generalize w10.alloc (.cells #[.bool sy, .slice Ay ny cy, .bool ty, .slice By my dy] 33) = w11 at *
  have Ew11 := Lib.hid hE
  clear hE
  have Ky := Lib.hid kw11
  clear kw11
  refine (supply_any A n c xs s2 A2 n2 c2 t2 B2 m2 d2 q w11 (HS.out.below (Ext.trans Ewb1.out (Ext.trans Ewb2.out (Ext.trans Ew1.out (Ext.trans Ew2.out (Ext.trans Ew3.out (Ext.trans Ew4.out (Ext.trans Ew5.out (Ext.trans Ew6.out (Ext.trans Ew8.out (Ext.trans Ew9.out (Ext.trans Ew10.out Ew11.out)))))))))))) hn ⟨(H2.out.ext (Ext.trans Ewb1.out (Ext.trans Ewb2.out (Ext.trans Ew1.out (Ext.trans Ew2.out (Ext.trans Ew3.out (Ext.trans Ew4.out (Ext.trans Ew5.out (Ext.trans Ew6.out (Ext.trans Ew8.out (Ext.trans Ew9.out (Ext.trans Ew10.out Ew11.out)))))))))))), by omega, by omega⟩).mono ?_
  rintro e w12 ⟨rfl, hE⟩
  have Ew12 := Lib.hid hE
  clear hE
  obtain ⟨l1, hl1⟩ : ∃ v, wantL true xs q = v := ⟨_, rfl⟩
  obtain ⟨u1, hu1⟩ : ∃ v, wantM true xs q = v := ⟨_, rfl⟩
  obtain ⟨ch, hch⟩ : ∃ v, chk true xs = v := ⟨_, rfl⟩
  rw [hl1, hu1, hch]
  have HL1 := Lib.hid hl1
  have HU1 := Lib.hid hu1
  have HCH := Lib.hid hch
  clear hl1 hu1 hch
  obtain ⟨⟨x10, x11, x12, x13⟩, _, z1⟩ := (K1.out.ext (Ext.trans Ewb2.out (Ext.trans Ew1.out (Ext.trans Ew2.out (Ext.trans Ew3.out (Ext.trans Ew4.out (Ext.trans Ew5.out (Ext.trans Ew6.out (Ext.trans Ew8.out (Ext.trans Ew9.out (Ext.trans Ew10.out (Ext.trans Ew11.out Ew12.out))))))))))))
  obtain ⟨⟨x20, x21, x22, x23⟩, _, z2⟩ := (K2.out.ext (Ext.trans Ewb2.out (Ext.trans Ew1.out (Ext.trans Ew2.out (Ext.trans Ew3.out (Ext.trans Ew4.out (Ext.trans Ew5.out (Ext.trans Ew6.out (Ext.trans Ew8.out (Ext.trans Ew9.out (Ext.trans Ew10.out (Ext.trans Ew11.out Ew12.out))))))))))))
  go_wp2_with fail
  clear x10 x11 x12 x13 z1 x20 x21 x22 x23 z2
  refine (qneg_any s2 A2 n2 c2 t2 B2 m2 d2 _ w12 ⟨(H2.out.ext (Ext.trans Ewb1.out (Ext.trans Ewb2.out (Ext.trans Ew1.out (Ext.trans Ew2.out (Ext.trans Ew3.out (Ext.trans Ew4.out (Ext.trans Ew5.out (Ext.trans Ew6.out (Ext.trans Ew8.out (Ext.trans Ew9.out (Ext.trans Ew10.out (Ext.trans Ew11.out Ew12.out))))))))))))), by omega, by omega⟩).mono ?_
  rintro e w13 ⟨sv, Av, nv, cv, tv, Bv, mv, dv, rfl, hQ, hE⟩
  have Ew13 := Lib.hid hE
  clear hE
  have Qv := Lib.hid hQ
  clear hQ
  go_wp2_with fail
  refine (demand_any At n ct (negL xs) sv Av nv cv tv Bv mv dv (-q) w13 (Tt.out.below (Ext.trans Ew4.out (Ext.trans Ew5.out (Ext.trans Ew6.out (Ext.trans Ew8.out (Ext.trans Ew9.out (Ext.trans Ew10.out (Ext.trans Ew11.out (Ext.trans Ew12.out Ew13.out))))))))) hn (Qv.out.arg HZ2.out.neg (by omega))).mono ?_
  rintro e w14 ⟨rfl, hE⟩
  have Ew14 := Lib.hid hE
  clear hE
  rw [← HF.out.2.2.1, ← HF.out.2.2.2, chk_neg false HI.out, Bool.not_false, HL1.out, HU1.out, HCH.out]
  go_wp2_with fail
  refine wp_region_lex (C := InX w14.drew []) (by kernel_rfl) (by kernel_rfl) (inX_self _ _) ?_
  have hE : Ext w14 w14.drew := Ext.rfl'.drew
  generalize w14.drew = w15 at *
  have Ew15 := Lib.hid hE
  clear hE
  have fx0 := fun z : ExtX w15 [] => z.cell (p := ⟨w8.heap.size, 0, none⟩) (Kx.out.ext (Ext.trans Ew10.out (Ext.trans Ew11.out (Ext.trans Ew12.out (Ext.trans Ew13.out (Ext.trans Ew14.out Ew15.out)))))).1.1 (by simp)
  have fx1 := fun z : ExtX w15 [] => z.cell (p := ⟨w8.heap.size, 1, none⟩) (Kx.out.ext (Ext.trans Ew10.out (Ext.trans Ew11.out (Ext.trans Ew12.out (Ext.trans Ew13.out (Ext.trans Ew14.out Ew15.out)))))).1.2.1 (by simp)
  have fx2 := fun z : ExtX w15 [] => z.cell (p := ⟨w8.heap.size, 2, none⟩) (Kx.out.ext (Ext.trans Ew10.out (Ext.trans Ew11.out (Ext.trans Ew12.out (Ext.trans Ew13.out (Ext.trans Ew14.out Ew15.out)))))).1.2.2.1 (by simp)
  have fx3 := fun z : ExtX w15 [] => z.cell (p := ⟨w8.heap.size, 3, none⟩) (Kx.out.ext (Ext.trans Ew10.out (Ext.trans Ew11.out (Ext.trans Ew12.out (Ext.trans Ew13.out (Ext.trans Ew14.out Ew15.out)))))).1.2.2.2 (by simp)
  have fy0 := fun z : ExtX w15 [] => z.cell (p := ⟨w10.heap.size, 0, none⟩) (Ky.out.ext (Ext.trans Ew12.out (Ext.trans Ew13.out (Ext.trans Ew14.out Ew15.out)))).1.1 (by simp)
  have fy1 := fun z : ExtX w15 [] => z.cell (p := ⟨w10.heap.size, 1, none⟩) (Ky.out.ext (Ext.trans Ew12.out (Ext.trans Ew13.out (Ext.trans Ew14.out Ew15.out)))).1.2.1 (by simp)
  have fy2 := fun z : ExtX w15 [] => z.cell (p := ⟨w10.heap.size, 2, none⟩) (Ky.out.ext (Ext.trans Ew12.out (Ext.trans Ew13.out (Ext.trans Ew14.out Ew15.out)))).1.2.2.1 (by simp)
  have fy3 := fun z : ExtX w15 [] => z.cell (p := ⟨w10.heap.size, 3, none⟩) (Ky.out.ext (Ext.trans Ew12.out (Ext.trans Ew13.out (Ext.trans Ew14.out Ew15.out)))).1.2.2.2 (by simp)
  repeat (refine wpLex_still (by rfl) ?_; go_big_quiet_step (fail); refine wpQuiet_nil ?_)
  obtain ⟨cf, hcf⟩ : ∃ v, chk false xs = v := ⟨_, rfl⟩
  have HCF := Lib.hid hcf
  clear hcf
  refine wpLex_move (by rfl) (by rfl) ?_
  go_wp2_with fail
  refine (checkOffer_any A n c xs w15 (HS.out.below (Ext.trans Ewb1.out (Ext.trans Ewb2.out (Ext.trans Ew1.out (Ext.trans Ew2.out (Ext.trans Ew3.out (Ext.trans Ew4.out (Ext.trans Ew5.out (Ext.trans Ew6.out (Ext.trans Ew8.out (Ext.trans Ew9.out (Ext.trans Ew10.out (Ext.trans Ew11.out (Ext.trans Ew12.out (Ext.trans Ew13.out (Ext.trans Ew14.out Ew15.out)))))))))))))))) hn).mono ?_
  rintro e w16 ⟨rfl, hE⟩
  have Ew16 := Lib.hid hE
  clear hE
  rw [HCH.out]
  go_wp2_with fail
  refine And.intro (inX_of_ext _ Ew16.out) ?_
  repeat (refine wpLex_still (by rfl) ?_; go_big_quiet_step (fail); refine wpQuiet_nil ?_)
  refine wpLex_move (by rfl) (by rfl) ?_
  go_wp2_with fail
  refine (checkBid_any At n ct (negL xs) w16 (Tt.out.below (Ext.trans Ew4.out (Ext.trans Ew5.out (Ext.trans Ew6.out (Ext.trans Ew8.out (Ext.trans Ew9.out (Ext.trans Ew10.out (Ext.trans Ew11.out (Ext.trans Ew12.out (Ext.trans Ew13.out (Ext.trans Ew14.out (Ext.trans Ew15.out Ew16.out)))))))))))) hn).mono ?_
  rintro e w17 ⟨rfl, hE⟩
  have Ew17 := Lib.hid hE
  clear hE
  rw [chk_neg false HI.out, Bool.not_false, HCH.out]
  go_wp2_with fail
  refine And.intro (inX_of_ext _ (Ext.trans Ew16.out Ew17.out)) ?_
  repeat (refine wpLex_still (by rfl) ?_; go_big_quiet_step (fail); refine wpQuiet_nil ?_)
  refine wpLex_move (by rfl) (by rfl) ?_
  go_wp2_with fail
  refine (checkBid_any A n c xs w17 (HS.out.below (Ext.trans Ewb1.out (Ext.trans Ewb2.out (Ext.trans Ew1.out (Ext.trans Ew2.out (Ext.trans Ew3.out (Ext.trans Ew4.out (Ext.trans Ew5.out (Ext.trans Ew6.out (Ext.trans Ew8.out (Ext.trans Ew9.out (Ext.trans Ew10.out (Ext.trans Ew11.out (Ext.trans Ew12.out (Ext.trans Ew13.out (Ext.trans Ew14.out (Ext.trans Ew15.out (Ext.trans Ew16.out Ew17.out)))))))))))))))))) hn).mono ?_
  rintro e w18 ⟨rfl, hE⟩
  have Ew18 := Lib.hid hE
  clear hE
  rw [HCF.out]
  go_wp2_with fail
  refine And.intro (inX_of_ext _ (Ext.trans Ew16.out (Ext.trans Ew17.out Ew18.out))) ?_
  repeat (refine wpLex_still (by rfl) ?_; go_big_quiet_step (fail); refine wpQuiet_nil ?_)
  refine wpLex_move (by rfl) (by rfl) ?_
  go_wp2_with fail
  refine (checkOffer_any At n ct (negL xs) w18 (Tt.out.below (Ext.trans Ew4.out (Ext.trans Ew5.out (Ext.trans Ew6.out (Ext.trans Ew8.out (Ext.trans Ew9.out (Ext.trans Ew10.out (Ext.trans Ew11.out (Ext.trans Ew12.out (Ext.trans Ew13.out (Ext.trans Ew14.out (Ext.trans Ew15.out (Ext.trans Ew16.out (Ext.trans Ew17.out Ew18.out)))))))))))))) hn).mono ?_
  rintro e w19 ⟨rfl, hE⟩
  have Ew19 := Lib.hid hE
  clear hE
  rw [chk_neg true HI.out, Bool.not_true, HCF.out]
  go_wp2_with fail
  refine And.intro (inX_of_ext _ (Ext.trans Ew16.out (Ext.trans Ew17.out (Ext.trans Ew18.out Ew19.out)))) ?_
  repeat (refine wpLex_still (by rfl) ?_; go_big_quiet_step (fail); refine wpQuiet_nil ?_)
  refine wpLex_move (by rfl) (by rfl) ?_
  go_wp2_with fail
  refine (qneg_any sx Ax nx cx tx Bx mx dx _ w19 ((Qx.out.ext (Ext.trans Ew9.out (Ext.trans Ew10.out (Ext.trans Ew11.out (Ext.trans Ew12.out (Ext.trans Ew13.out (Ext.trans Ew14.out (Ext.trans Ew15.out (Ext.trans Ew16.out (Ext.trans Ew17.out (Ext.trans Ew18.out Ew19.out))))))))))).arg HZx.out (by omega))).mono ?_
  rintro e w20 ⟨sg, Ag, ng, cg, tg, Bg, mg, dg, rfl, hQ, hE⟩
  have Ew20 := Lib.hid hE
  clear hE
  have Qg := Lib.hid hQ
  clear hQ
  go_wp2_with fail
  refine And.intro (inX_of_ext _ (Ext.trans Ew16.out (Ext.trans Ew17.out (Ext.trans Ew18.out (Ext.trans Ew19.out Ew20.out))))) ?_
  repeat (refine wpLex_still (by rfl) ?_; go_big_quiet_step (fail); refine wpQuiet_nil ?_)
  refine wpLex_move (by rfl) (by rfl) ?_
  go_wp2_with fail
  refine (ris_any sg Ag ng cg tg Bg mg dg _ sy Ay ny cy ty By my dy _ _ _ w20 Qg.out (Qz.out.ext (Ext.trans Ew11.out (Ext.trans Ew12.out (Ext.trans Ew13.out (Ext.trans Ew14.out (Ext.trans Ew15.out (Ext.trans Ew16.out (Ext.trans Ew17.out (Ext.trans Ew18.out (Ext.trans Ew19.out Ew20.out)))))))))) (Nat.le_trans (Qg.out.len HZx.out.neg).1 (by omega)) (Nat.le_trans (Qg.out.len HZx.out.neg).2 (by omega))).mono ?_
  rintro e w21 ⟨rfl, hE⟩
  have Ew21 := Lib.hid hE
  clear hE
  rw [decide_eq_true rfl]
  go_wp2_with fail
  refine And.intro (inX_of_ext _ (Ext.trans Ew16.out (Ext.trans Ew17.out (Ext.trans Ew18.out (Ext.trans Ew19.out (Ext.trans Ew20.out Ew21.out)))))) ?_
  repeat (refine wpLex_still (by rfl) ?_; go_big_quiet_step (fail); refine wpQuiet_nil ?_)
  refine wpLex_nil ?_
  clear fx0 fx1 fx2 fx3 fy0 fy1 fy2 fy3
  go_wp2_with fail
  go_ret
  exact ⟨rfl, (Ext.trans Ewb1.out (Ext.trans Ewb2.out (Ext.trans Ew1.out (Ext.trans Ew2.out (Ext.trans Ew3.out (Ext.trans Ew4.out (Ext.trans Ew5.out (Ext.trans Ew6.out (Ext.trans Ew8.out (Ext.trans Ew9.out (Ext.trans Ew10.out (Ext.trans Ew11.out (Ext.trans Ew12.out (Ext.trans Ew13.out (Ext.trans Ew14.out (Ext.trans Ew15.out (Ext.trans Ew16.out (Ext.trans Ew17.out (Ext.trans Ew18.out (Ext.trans Ew19.out (Ext.trans Ew20.out Ew21.out)))))))))))))))))))))⟩
end Go.Proofs.Ytppcpklnnbgcjaa
