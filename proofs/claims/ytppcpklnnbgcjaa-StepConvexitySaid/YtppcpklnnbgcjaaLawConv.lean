/- The walk of the law StepConvexity. Printed by gen_conv.py. -/
import Derived.Test.YtppcpklnnbgcjaaAwake23
import Derived.Test.YtppcpklnnbgcjaaLong23
import Derived.Test.YtppcpklnnbgcjaaConvP
import Derived.Test.YtppcpklnnbgcjaaLexF
namespace Go.Proofs.Ytppcpklnnbgcjaa
open Go.RowKit

set_option maxRecDepth 100000 in
set_option maxHeartbeats 8000000 in
theorem conv_any (A : Option Addr) (n c : Nat) (xs : List (Int × Int)) (s1 : Bool) (A1 : Option Addr) (n1 c1 : Nat) (t1 : Bool) (B1 : Option Addr) (m1 d1 : Nat) (p : Rat) (s2 : Bool) (A2 : Option Addr) (n2 c2 : Nat) (t2 : Bool) (B2 : Option Addr) (m2 d2 : Nat) (q : Rat) (w : World) (hs : StepsAt w A n xs) (hn : n ≤ maxLen) (h1 : QIs w s1 A1 n1 c1 t1 B1 m1 d1 p) (h2 : QIs w s2 A2 n2 c2 t2 B2 m2 d2 q) :
    Calls Try.prog 5 #[.slice A n c, .agg #[.bool s1, .slice A1 n1 c1, .bool t1, .slice B1 m1 d1], .agg #[.bool s2, .slice A2 n2 c2, .bool t2, .slice B2 m2 d2]] w fun e w' => e = .returned (.bool true) ∧ Ext w w' := by
  by_cases h100 : 100 < n
  · have hb : decide ((100 : Int) < (n : Int)) = true := by simp; omega
    have hb2 : decide (100 < n) = true := by simp; omega
    go_enter Try.func5, Try.ntmps5
    go_wp2_with fail
    refine (awake_any _).mono ?_
    rintro e wz ⟨rfl, hEz⟩
    go_wp2_with fail
    go_ret
    exact ⟨rfl, Ext.trans (Ext.al (Ext.al Ext.rfl' _) _) hEz⟩
  have hb : decide ((100 : Int) < (n : Int)) = false := by simp; omega
  have hb2 : decide (100 < n) = false := by simp; omega
  have HS := Lib.hid hs
  have H1 := Lib.hid h1
  have H2 := Lib.hid h2
  have HBL : Hid ((n1 ≤ maxLen ∧ m1 ≤ maxLen) ∧ n2 ≤ maxLen ∧ m2 ≤ maxLen) := by
    obtain ⟨z, y, ⟨_, _, a1, a2, _⟩, ⟨_, _, a3, a4, _⟩, _⟩ := h1
    obtain ⟨z', y', ⟨_, _, b1, b2, _⟩, ⟨_, _, b3, b4, _⟩, _⟩ := h2
    exact ⟨⟨by omega, by omega⟩, by omega, by omega⟩
  clear hs h1 h2
  go_enter Try.func5, Try.ntmps5
  go_wp2_with fail
  obtain ⟨k1, k2, hE⟩ := boxQ2 w (.bool s1) (.slice A1 n1 c1) (.bool t1) (.slice B1 m1 d1) (.bool s2) (.slice A2 n2 c2) (.bool t2) (.slice B2 m2 d2) 33
  have hbk := Blk.new ((w.alloc (.cells #[.bool s1, .slice A1 n1 c1, .bool t1, .slice B1 m1 d1] 33)).alloc (.cells #[.bool s2, .slice A2 n2 c2, .bool t2, .slice B2 m2 d2] 33)) 33 #[.bool s1, .slice A1 n1 c1, .bool t1, .slice B1 m1 d1, .bool s2, .slice A2 n2 c2, .bool t2, .slice B2 m2 d2]
  have hE1 : Ext ((w.alloc (.cells #[.bool s1, .slice A1 n1 c1, .bool t1, .slice B1 m1 d1] 33)).alloc (.cells #[.bool s2, .slice A2 n2 c2, .bool t2, .slice B2 m2 d2] 33)) (((w.alloc (.cells #[.bool s1, .slice A1 n1 c1, .bool t1, .slice B1 m1 d1] 33)).alloc (.cells #[.bool s2, .slice A2 n2 c2, .bool t2, .slice B2 m2 d2] 33)).alloc (.cells #[.bool s1, .slice A1 n1 c1, .bool t1, .slice B1 m1 d1, .bool s2, .slice A2 n2 c2, .bool t2, .slice B2 m2 d2] 33)) := Ext.al Ext.rfl' _
  rw [show ((w.alloc (.cells #[.bool s1, .slice A1 n1 c1, .bool t1, .slice B1 m1 d1] 33)).alloc (.cells #[.bool s2, .slice A2 n2 c2, .bool t2, .slice B2 m2 d2] 33)).heap.size = w.heap.size + 1 + 1 by simp] at hbk
  generalize ((w.alloc (.cells #[.bool s1, .slice A1 n1 c1, .bool t1, .slice B1 m1 d1] 33)).alloc (.cells #[.bool s2, .slice A2 n2 c2, .bool t2, .slice B2 m2 d2] 33)).alloc (.cells #[.bool s1, .slice A1 n1 c1, .bool t1, .slice B1 m1 d1, .bool s2, .slice A2 n2 c2, .bool t2, .slice B2 m2 d2] 33) = w2 at *
  generalize (w.alloc (.cells #[.bool s1, .slice A1 n1 c1, .bool t1, .slice B1 m1 d1] 33)).alloc (.cells #[.bool s2, .slice A2 n2 c2, .bool t2, .slice B2 m2 d2] 33) = w1 at *
  have HK1 := Lib.hid (k1.ext hE1)
  have HK2 := Lib.hid (k2.ext hE1)
  have HE0 := Lib.hid (Ext.trans hE hE1)
  refine (long_any (w.heap.size + 1 + 1) 2 2 (fun i => if i = 0 then (n1, m1) else (n2, m2)) w2 ?_ (by omega) ?_).mono ?_
  · intro i hi
    have : i = 0 ∨ i = 1 := by omega
    rcases this with rfl | rfl
    · exact ⟨A1, c1, B1, d1, by rw [hbk.cell]; rfl, by rw [hbk.cell]; rfl⟩
    · exact ⟨A2, c2, B2, d2, by rw [hbk.cell]; rfl, by rw [hbk.cell]; rfl⟩
  · intro i
    by_cases e : i = 0
    · simp only [if_pos e]; exact HBL.out.1
    · simp only [if_neg e]; exact HBL.out.2
  rintro e w3 ⟨⟨bl, rfl, hbl⟩, hE3⟩
  have HE3 := Lib.hid (Ext.trans HE0.out hE3)
  have K1 := Lib.hid (HK1.out.ext hE3)
  have K2 := Lib.hid (HK2.out.ext hE3)
  have HLN : Hid (bl = false → ((n1 ≤ 6 ∧ m1 ≤ 6) ∧ n2 ≤ 6 ∧ m2 ≤ 6)) := fun e => ⟨hbl.1 e 0 (by omega), hbl.1 e 1 (by omega)⟩
  clear hbk hE hE1 k1 k2 HK1 HK2 HE0 hE3 hbl HBL
  cases bl
  · obtain ⟨⟨ln1, lm1⟩, ln2, lm2⟩ := HLN.out rfl
    clear HLN
    go_wp2_with fail
    refine (curve_any A n c xs w3 (HS.out.below HE3.out) hn).mono ?_
    rintro e w4 ⟨rfl, hE4⟩
    by_cases h0 : crv xs = 0
    · rw [decide_eq_true h0]
      have H0 := Lib.hid h0
      clear h0
      go_wp2_with fail
      refine (awake_any w4).mono ?_
      rintro e w5 ⟨rfl, hE5⟩
      have hE35 := Ext.trans hE4 hE5
      have HE := Lib.hid (Ext.trans HE3.out hE35)
      have L1 := Lib.hid (K1.out.ext hE35)
      have L2 := Lib.hid (K2.out.ext hE35)
      have J1 : Hid (QArg w5 s1 A1 n1 c1 t1 B1 m1 d1 p) := ⟨H1.out.ext HE.out, by omega, by omega⟩
      have J2 : Hid (QArg w5 s2 A2 n2 c2 t2 B2 m2 d2 q) := ⟨H2.out.ext HE.out, by omega, by omega⟩
      have HSX := Lib.hid (HS.out.below HE.out)
      clear hE4 hE5 hE35 K1 K2 HE3
      have HZa : Hid (Sz 6 p) := H1.out.sz (by omega) (by omega) (by omega)
      have HZb : Hid (Sz 6 q) := H2.out.sz (by omega) (by omega) (by omega)
      have HZh : Hid (Sz 1 (Rat.divInt 1 2)) := sz_divInt (by omega) (by decide) (by decide)
      obtain ⟨⟨x0, x1, x2, x3⟩, _, lx⟩ := L1.out
      obtain ⟨⟨y0, y1, y2, y3⟩, _, ly⟩ := L2.out
      go_wp2_with fail
      refine (qnew_any 1 2 w5 ⟨by omega, by omega⟩ ⟨by omega, by omega⟩ (by omega)).mono ?_
      rintro e w6 ⟨sh, Ah, nh, ch, th, Bh, mh, dh, rfl, hQh, hE6⟩
      have hs6 : w.heap.size + 1 < w6.heap.size := Nat.lt_of_lt_of_le ly hE6.size
      have hs6' : w.heap.size < w6.heap.size := by omega
      obtain ⟨⟨x0', x1', x2', x3'⟩, _, _⟩ := L1.out.ext hE6
      clear x0 x1 x2 x3 y0 y1 y2 y3
      go_wp2_with fail
      have k7 := Cell4.new w6 _ rfl (.bool sh) (.slice Ah nh ch) (.bool th) (.slice Bh mh dh) 33
      have hEa7 : Ext w6 (w6.alloc (.cells #[.bool sh, .slice Ah nh ch, .bool th, .slice Bh mh dh] 33)) := Ext.al Ext.rfl' _
      generalize w6.alloc (.cells #[.bool sh, .slice Ah nh ch, .bool th, .slice Bh mh dh] 33) = w7 at *
      have hE57 := Ext.trans hE6 hEa7
      have M1 := Lib.hid (L1.out.ext hE57)
      have M2 := Lib.hid (L2.out.ext hE57)
      have HE7 := Lib.hid (Ext.trans HE.out hE57)
      have K7 := Lib.hid k7
      have HQh := Lib.hid (hQh.ext hEa7)
      clear hQh hE6 hEa7 hE57 k7 L1 L2 HE x0' x1' x2' x3' HSX J1 J2
      refine (cost_any A n c xs s1 A1 n1 c1 t1 B1 m1 d1 p w7 (HS.out.below HE7.out) hn (H1.out.ext HE7.out) (by omega) (by omega)).mono ?_
      rintro e w8 ⟨sx, Ax, nx, cx, tx, Bx, mx, dx, rfl, hQx, hE8⟩
      have hs8 : w.heap.size + 1 < w8.heap.size := Nat.lt_of_lt_of_le M2.out.2.2 hE8.size
      have hs8' : w.heap.size < w8.heap.size := by omega
      obtain ⟨⟨y0', y1', y2', y3'⟩, _, _⟩ := M2.out.ext hE8
      have HAE1 : Hid (allocE xs p = allocE xs p) := rfl
      obtain ⟨ea, hea⟩ : ∃ v, allocE xs p = v := ⟨_, rfl⟩
      rw [hea]
      have HEA := Lib.hid hea
      clear hea HAE1
      go_wp2_with fail
      have k9 := Cell4.new w8 _ rfl (.bool sx) (.slice Ax nx cx) (.bool tx) (.slice Bx mx dx) 33
      have hEa9 : Ext w8 (w8.alloc (.cells #[.bool sx, .slice Ax nx cx, .bool tx, .slice Bx mx dx] 33)) := Ext.al Ext.rfl' _
      generalize w8.alloc (.cells #[.bool sx, .slice Ax nx cx, .bool tx, .slice Bx mx dx] 33) = w9 at *
      have hE79 := Ext.trans hE8 hEa9
      have O2 := Lib.hid (M2.out.ext hE79)
      have O1 := Lib.hid (M1.out.ext hE79)
      have HE9 := Lib.hid (Ext.trans HE7.out hE79)
      have K7' := Lib.hid (K7.out.ext hE79)
      have K9 := Lib.hid k9
      have HQh' := Lib.hid (HQh.out.ext hE79)
      have HQx := Lib.hid (hQx.ext hEa9)
      clear hQx hE8 hEa9 hE79 k9 M1 M2 HE7 K7 HQh y0' y1' y2' y3'
      refine (cost_any A n c xs s2 A2 n2 c2 t2 B2 m2 d2 q w9 (HS.out.below HE9.out) hn (H2.out.ext HE9.out) (by omega) (by omega)).mono ?_
      rintro e w10 ⟨sy, Ay, ny, cy, ty, By, my, dy, rfl, hQy, hE10⟩
      obtain ⟨eb, heb⟩ : ∃ v, allocE xs q = v := ⟨_, rfl⟩
      rw [heb]
      have HEB := Lib.hid heb
      clear heb
      by_cases hab : ea = 0 ∧ eb = 0
      · obtain ⟨e1, e2⟩ := hab
        subst e1 e2
        have HCF := Lib.hid (conv_facts HEA.out HEB.out)
        go_wp2_with fail
        have k11 := Cell4.new w10 _ rfl (.bool sy) (.slice Ay ny cy) (.bool ty) (.slice By my dy) 33
        have hEa11 : Ext w10 (w10.alloc (.cells #[.bool sy, .slice Ay ny cy, .bool ty, .slice By my dy] 33)) := Ext.al Ext.rfl' _
        have hd0 : Ext (w10.alloc (.cells #[.bool sy, .slice Ay ny cy, .bool ty, .slice By my dy] 33)) (w10.alloc (.cells #[.bool sy, .slice Ay ny cy, .bool ty, .slice By my dy] 33)).drew := Ext.rfl'.drew
        refine wp_region_lexF (C := InX (w10.alloc (.cells #[.bool sy, .slice Ay ny cy, .bool ty, .slice By my dy] 33)).drew []) 10 [0, 1, 2, 3, 4, 5, 6, 7, 8, 9] [11, 12] (by kernel_rfl) (by rfl) (by rfl) (by rfl) (by kernel_rfl) (inX_self _ _) ?_
        generalize (w10.alloc (.cells #[.bool sy, .slice Ay ny cy, .bool ty, .slice By my dy] 33)).drew = wd at *
        have hEd := Ext.trans hEa11 hd0
        have hE9d := Ext.trans hE10 hEd
        have P1 := Lib.hid (O1.out.ext hE9d)
        have P2 := Lib.hid (O2.out.ext hE9d)
        have P7 := Lib.hid (K7'.out.ext hE9d)
        have P9 := Lib.hid (K9.out.ext hE9d)
        have P11 := Lib.hid (k11.ext hd0)
        have HEd := Lib.hid (Ext.trans HE9.out hE9d)
        have Gh := Lib.hid (HQh'.out.ext hE9d)
        have Gx := Lib.hid (HQx.out.ext hE9d)
        have Gy := Lib.hid (hQy.ext hEd)
        have J1 : Hid (QArg wd s1 A1 n1 c1 t1 B1 m1 d1 p) := ⟨H1.out.ext HEd.out, by omega, by omega⟩
        have J2 : Hid (QArg wd s2 A2 n2 c2 t2 B2 m2 d2 q) := ⟨H2.out.ext HEd.out, by omega, by omega⟩
        clear hQy hE10 hEa11 hd0 hEd hE9d k11 O1 O2 K7' K9 HE9 HQh' HQx
        have fa0 := fun z : ExtX wd [] => z.cell (p := ⟨w.heap.size, 0, none⟩) P1.out.1.1 (by simp)
        have fa1 := fun z : ExtX wd [] => z.cell (p := ⟨w.heap.size, 1, none⟩) P1.out.1.2.1 (by simp)
        have fa2 := fun z : ExtX wd [] => z.cell (p := ⟨w.heap.size, 2, none⟩) P1.out.1.2.2.1 (by simp)
        have fa3 := fun z : ExtX wd [] => z.cell (p := ⟨w.heap.size, 3, none⟩) P1.out.1.2.2.2 (by simp)
        have fb0 := fun z : ExtX wd [] => z.cell (p := ⟨w.heap.size + 1, 0, none⟩) P2.out.1.1 (by simp)
        have fb1 := fun z : ExtX wd [] => z.cell (p := ⟨w.heap.size + 1, 1, none⟩) P2.out.1.2.1 (by simp)
        have fb2 := fun z : ExtX wd [] => z.cell (p := ⟨w.heap.size + 1, 2, none⟩) P2.out.1.2.2.1 (by simp)
        have fb3 := fun z : ExtX wd [] => z.cell (p := ⟨w.heap.size + 1, 3, none⟩) P2.out.1.2.2.2 (by simp)
        have fh0 := fun z : ExtX wd [] => z.cell (p := ⟨w6.heap.size, 0, none⟩) P7.out.1.1 (by simp)
        have fh1 := fun z : ExtX wd [] => z.cell (p := ⟨w6.heap.size, 1, none⟩) P7.out.1.2.1 (by simp)
        have fh2 := fun z : ExtX wd [] => z.cell (p := ⟨w6.heap.size, 2, none⟩) P7.out.1.2.2.1 (by simp)
        have fh3 := fun z : ExtX wd [] => z.cell (p := ⟨w6.heap.size, 3, none⟩) P7.out.1.2.2.2 (by simp)
        have HZx : Hid (Sz 8024 (costV xs p)) := sz_costV (HZa.out.mono (by omega))
        have HZy : Hid (Sz 8024 (costV xs q)) := sz_costV (HZb.out.mono (by omega))
        have HZz : Hid (Sz 8024 (costV xs (Rat.divInt 1 2 * (p + q)))) := sz_costV ((HZh.out.mul (HZa.out.add HZb.out)).mono (by omega))
        repeat (refine wpLexF_still (by rfl) (by rfl) (by rfl) ?_; go_big_quiet_step (fail); refine wpQuiet_nil ?_)
        refine wpLexF_both (by rfl) (by rfl) (by rfl) (by rfl) (by rfl) ?_ ?_
        · skip
          go_wp2_with fail
          have c13 := Cell4.new wd _ rfl (.bool false) (.slice none 0 0) (.bool false) (.slice none 0 0) 33
          have hal : Ext wd (wd.alloc (.cells #[.bool false, .slice none 0 0, .bool false, .slice none 0 0] 33)) := Ext.al Ext.rfl' _
          have hFa : Ext wd (wd.alloc (.cells #[.bool false, .slice none 0 0, .bool false, .slice none 0 0] 33)) := Ext.trans Ext.rfl' hal
          generalize wd.alloc (.cells #[.bool false, .slice none 0 0, .bool false, .slice none 0 0] 33) = wa at *
          refine And.intro (inX_of_ext _ hFa) ?_
          have hsg : wd.heap.size ≤ wd.heap.size := Nat.le_refl _
          have hsa : wd.heap.size < wa.heap.size := c13.2.2
          repeat (refine wpLexI_still (by rfl) (by rfl) ?_; go_big_quiet_step (fail); refine wpQuiet_nil ?_)
          have hgg : Ext wa wa := Ext.rfl'
          refine wpLexI_move (by rfl) (by rfl) (by rfl) ?_
          go_wp2_with fail
          refine (qadd_any s1 A1 n1 c1 t1 B1 m1 d1 p s2 A2 n2 c2 t2 B2 m2 d2 q wa (J1.out.ext hFa) (J2.out.ext hFa)).mono ?_
          rintro e y1 ⟨su, Au, nu, cu, tu, Bu, mu, du, rfl, hQu, hG0⟩
          have HAu := Lib.hid (hQu.arg (HZa.out.add HZb.out) (by omega))
          clear hQu
          have hFy1 : Ext wd y1 := Ext.trans hFa hG0
          have hgg := Ext.trans hgg hG0
          go_wp2_with fail
          refine And.intro (inX_of_ext _ hFy1) ?_
          repeat (refine wpLexI_still (by rfl) (by rfl) ?_; go_big_quiet_step (fail); refine wpQuiet_nil ?_)
          refine wpLexI_move (by rfl) (by rfl) (by rfl) ?_
          go_wp2_with fail
          refine (qmul_any sh Ah nh ch th Bh mh dh _ su Au nu cu tu Bu mu du _ y1 ((Gh.out.ext hFy1).arg HZh.out (by omega)) HAu.out).mono ?_
          rintro e y2 ⟨sv, Av, nv, cv, tv, Bv, mv, dv, rfl, hQv, hG1⟩
          obtain ⟨lv1, lv2⟩ := hQv.len (HZh.out.mul (HZa.out.add HZb.out))
          have HQv : Hid (QIs y2 sv Av nv cv tv Bv mv dv _) := hQv.is
          clear hQv
          have hFy2 : Ext wd y2 := Ext.trans hFy1 hG1
          have hgg := Ext.trans hgg hG1
          go_wp2_with fail
          refine And.intro (inX_of_ext _ hFy2) ?_
          repeat (refine wpLexI_still (by rfl) (by rfl) ?_; go_big_quiet_step (fail); refine wpQuiet_nil ?_)
          have hszb : wa.heap.size ≤ y2.heap.size := hgg.size
          refine wpLexI_move (by rfl) (by rfl) (by rfl) ?_
          go_wp2_with fail
          refine (cost_any A n c xs sv Av nv cv tv Bv mv dv _ y2 (HS.out.below (Ext.trans HEd.out hFy2)) hn HQv.out (by omega) (by omega)).mono ?_
          rintro e y3 ⟨sz, Az, nz, cz, tz, Bz, mz, dz, rfl, hQz, hG2⟩
          rw [HCF.out.1]
          have hFy3 : Ext wd y3 := Ext.trans hFy2 hG2
          have hgg := Ext.trans hgg hG2
          go_wp2_with fail
          refine And.intro (inX_of_ext _ hFy3) ?_
          repeat (refine wpLexI_still (by rfl) (by rfl) ?_; go_big_quiet_step (fail); refine wpQuiet_nil ?_)
          obtain ⟨⟨o0, o1, o2, o3⟩, ⟨q0, q1, q2, q3⟩, ol⟩ := c13.ext hgg
          refine wpLexI_move (by rfl) (by rfl) (by rfl) ?_
          go_wp2_with fail
          refine And.intro (inX_put (p := ⟨wd.heap.size, 3, none⟩) (inX_put (p := ⟨wd.heap.size, 2, none⟩) (inX_put (p := ⟨wd.heap.size, 1, none⟩) (inX_put (p := ⟨wd.heap.size, 0, none⟩) (inX_of_ext _ hFy3) (.inr hsg) _) (.inr hsg) _) (.inr hsg) _) (.inr hsg) _) ?_
          repeat (refine wpLexI_still (by rfl) (by rfl) ?_; go_big_quiet_step (fail); refine wpQuiet_nil ?_)
          refine wpLexI_nil ?_
          have K13 := Lib.hid ((c13.ext hgg).put4 (.bool sz) (.slice Az nz cz) (.bool tz) (.slice Bz mz dz))
          have HE4 := Lib.hid (ext_put4 (Ext.trans HEd.out hFy3) (g := wd.heap.size) (by have := HEd.out.size; omega) 0 (.bool sz) (.slice Az nz cz) (.bool tz) (.slice Bz mz dz))
          have R7 := Lib.hid ((P7.out.ext hFy3).far4 (g := wd.heap.size) (off := 0) (by have := P7.out.2.2; omega) (.bool sz) (.slice Az nz cz) (.bool tz) (.slice Bz mz dz))
          have R9 := Lib.hid ((P9.out.ext hFy3).far4 (g := wd.heap.size) (off := 0) (by have := P9.out.2.2; omega) (.bool sz) (.slice Az nz cz) (.bool tz) (.slice Bz mz dz))
          have R11 := Lib.hid ((P11.out.ext hFy3).far4 (g := wd.heap.size) (off := 0) (by have := P11.out.2.2; omega) (.bool sz) (.slice Az nz cz) (.bool tz) (.slice Bz mz dz))
          have Qh := Lib.hid (((Gh.out.arg HZh.out (by omega)).ext hFy3).put4Away (lo := wd.heap.size) (hi := wd.heap.size + 1) (Gh.out.is.away _).1 (Gh.out.is.away _).2 (g := wd.heap.size) (by omega) (by omega) 0 (.bool sz) (.slice Az nz cz) (.bool tz) (.slice Bz mz dz))
          have Qx := Lib.hid (((Gx.out.arg HZx.out (by omega)).ext hFy3).put4Away (lo := wd.heap.size) (hi := wd.heap.size + 1) (Gx.out.is.away _).1 (Gx.out.is.away _).2 (g := wd.heap.size) (by omega) (by omega) 0 (.bool sz) (.slice Az nz cz) (.bool tz) (.slice Bz mz dz))
          have Qy := Lib.hid (((Gy.out.arg HZy.out (by omega)).ext hFy3).put4Away (lo := wd.heap.size) (hi := wd.heap.size + 1) (Gy.out.is.away _).1 (Gy.out.is.away _).2 (g := wd.heap.size) (by omega) (by omega) 0 (.bool sz) (.slice Az nz cz) (.bool tz) (.slice Bz mz dz))
          have Qz := Lib.hid ((hQz.arg HZz.out (by omega)).put4Away (lo := 0) (hi := wd.heap.size + 1) ((hQz.base (B1 := wd.heap.size + 1) (Nat.le_trans hsa hszb)).away _).1 ((hQz.base (B1 := wd.heap.size + 1) (Nat.le_trans hsa hszb)).away _).2 (g := wd.heap.size) (by omega) (by omega) 0 (.bool sz) (.slice Az nz cz) (.bool tz) (.slice Bz mz dz))
          unfold put4 at K13 HE4 R7 R9 R11 Qh Qx Qy Qz
          simp only [Nat.zero_add] at K13 HE4 R7 R9 R11 Qh Qx Qy Qz
          generalize ((((y3.setCell ⟨wd.heap.size, 0, none⟩ (.bool sz)).setCell ⟨wd.heap.size, 1, none⟩ (.slice Az nz cz)).setCell ⟨wd.heap.size, 2, none⟩ (.bool tz)).setCell ⟨wd.heap.size, 3, none⟩ (.slice Bz mz dz)) = v4 at *
          clear fa0 fa1 fa2 fa3 fb0 fb1 fb2 fb3 fh0 fh1 fh2 fh3
          go_wp2_with fail
          have hd4 : Ext v4 v4.drew := Ext.rfl'.drew
          refine wp_region_lex (C := InX v4.drew []) (by kernel_rfl) (by kernel_rfl) (inX_self _ _) ?_
          generalize v4.drew = ve at *
          have K13' := Lib.hid (K13.out.ext hd4)
          have R7' := Lib.hid (R7.out.ext hd4)
          have R9' := Lib.hid (R9.out.ext hd4)
          have R11' := Lib.hid (R11.out.ext hd4)
          have Qh' := Lib.hid (Qh.out.ext hd4)
          have Qx' := Lib.hid (Qx.out.ext hd4)
          have Qy' := Lib.hid (Qy.out.ext hd4)
          have Qz' := Lib.hid (Qz.out.ext hd4)
          have HE5 := Lib.hid (Ext.trans HE4.out hd4)
          clear hd4 K13 R7 R9 R11 HE4
          have gh0 := fun z : ExtX ve [] => z.cell (p := ⟨w6.heap.size, 0, none⟩) R7'.out.1.1 (by simp)
          have gh1 := fun z : ExtX ve [] => z.cell (p := ⟨w6.heap.size, 1, none⟩) R7'.out.1.2.1 (by simp)
          have gh2 := fun z : ExtX ve [] => z.cell (p := ⟨w6.heap.size, 2, none⟩) R7'.out.1.2.2.1 (by simp)
          have gh3 := fun z : ExtX ve [] => z.cell (p := ⟨w6.heap.size, 3, none⟩) R7'.out.1.2.2.2 (by simp)
          have gx0 := fun z : ExtX ve [] => z.cell (p := ⟨w8.heap.size, 0, none⟩) R9'.out.1.1 (by simp)
          have gx1 := fun z : ExtX ve [] => z.cell (p := ⟨w8.heap.size, 1, none⟩) R9'.out.1.2.1 (by simp)
          have gx2 := fun z : ExtX ve [] => z.cell (p := ⟨w8.heap.size, 2, none⟩) R9'.out.1.2.2.1 (by simp)
          have gx3 := fun z : ExtX ve [] => z.cell (p := ⟨w8.heap.size, 3, none⟩) R9'.out.1.2.2.2 (by simp)
          have gy0 := fun z : ExtX ve [] => z.cell (p := ⟨w10.heap.size, 0, none⟩) R11'.out.1.1 (by simp)
          have gy1 := fun z : ExtX ve [] => z.cell (p := ⟨w10.heap.size, 1, none⟩) R11'.out.1.2.1 (by simp)
          have gy2 := fun z : ExtX ve [] => z.cell (p := ⟨w10.heap.size, 2, none⟩) R11'.out.1.2.2.1 (by simp)
          have gy3 := fun z : ExtX ve [] => z.cell (p := ⟨w10.heap.size, 3, none⟩) R11'.out.1.2.2.2 (by simp)
          have gz0 := fun z : ExtX ve [] => z.cell (p := ⟨wd.heap.size, 0, none⟩) K13'.out.1.1 (by simp)
          have gz1 := fun z : ExtX ve [] => z.cell (p := ⟨wd.heap.size, 1, none⟩) K13'.out.1.2.1 (by simp)
          have gz2 := fun z : ExtX ve [] => z.cell (p := ⟨wd.heap.size, 2, none⟩) K13'.out.1.2.2.1 (by simp)
          have gz3 := fun z : ExtX ve [] => z.cell (p := ⟨wd.heap.size, 3, none⟩) K13'.out.1.2.2.2 (by simp)
          repeat (refine wpLex_still (by rfl) ?_; go_big_quiet_step (fail); refine wpQuiet_nil ?_)
          refine wpLex_move (by rfl) (by rfl) ?_
          go_wp2_with fail
          refine (qadd_any sx Ax nx cx tx Bx mx dx _ sy Ay ny cy ty By my dy _ ve Qx'.out Qy'.out).mono ?_
          rintro e v5 ⟨si, Ai, ni, ci, ti, Bi, mi, di, rfl, hQi, hF5⟩
          have HAi := Lib.hid (hQi.arg (HZx.out.add HZy.out) (by omega))
          clear hQi
          go_wp2_with fail
          refine And.intro (inX_of_ext _ hF5) ?_
          repeat (refine wpLex_still (by rfl) ?_; go_big_quiet_step (fail); refine wpQuiet_nil ?_)
          refine wpLex_move (by rfl) (by rfl) ?_
          go_wp2_with fail
          refine (qmul_any sh Ah nh ch th Bh mh dh _ si Ai ni ci ti Bi mi di _ v5 (Qh'.out.ext hF5) HAi.out).mono ?_
          rintro e v6 ⟨sj, Aj, nj, cj, tj, Bj, mj, dj, rfl, hQj, hF6'⟩
          have hF6 := Ext.trans hF5 hF6'
          have HAj := Lib.hid (hQj.arg (HZh.out.mul (HZx.out.add HZy.out)) (by omega))
          clear hQj
          go_wp2_with fail
          refine And.intro (inX_of_ext _ hF6) ?_
          repeat (refine wpLex_still (by rfl) ?_; go_big_quiet_step (fail); refine wpQuiet_nil ?_)
          refine wpLex_move (by rfl) (by rfl) ?_
          go_wp2_with fail
          refine (qcmp_any sj Aj nj cj tj Bj mj dj _ sz Az nz cz tz Bz mz dz _ v6 HAj.out (Qz'.out.ext hF6)).mono ?_
          rintro e v7 ⟨rfl, hF7'⟩
          have hF7 := Ext.trans hF6 hF7'
          obtain ⟨cm, hcm⟩ : ∃ v, cmpQ (Rat.divInt 1 2 * (costV xs p + costV xs q)) (costV xs (Rat.divInt 1 2 * (p + q))) = v := ⟨_, rfl⟩
          rw [hcm] at HCF
          rw [hcm]
          clear hcm
          go_wp2_with fail
          refine And.intro (inX_of_ext _ hF7) ?_
          repeat (refine wpLex_still (by rfl) ?_; go_big_quiet_step (fail); refine wpQuiet_nil ?_)
          refine wpLex_nil ?_
          have HE7 := Lib.hid (Ext.trans HE5.out hF7)
          clear gh0 gh1 gh2 gh3 gx0 gx1 gx2 gx3 gy0 gy1 gy2 gy3 gz0 gz1 gz2 gz3 hF5 hF6' hF6 hF7' hF7 HE5
          go_wp2_with fail
          refine (checkOffer_any A n c xs v7 (HS.out.below HE7.out) hn).mono ?_
          rintro e v8 ⟨rfl, hF8⟩
          have HE8 := Lib.hid (Ext.trans HE7.out hF8)
          clear hF8
          obtain ⟨ct, hct⟩ : ∃ v, chk true xs = v := ⟨_, rfl⟩
          rw [hct] at HCF
          rw [hct]
          clear hct
          have hg1 : (ct != 0) = true ∨ ((ct != 0) = false ∧ decide (0 ≤ cm) = true) := by
            by_cases e : ct = 0
            · exact .inr ⟨by simp [e], by simp; have := HCF.out.2.1 e; omega⟩
            · exact .inl (by simp [e])
          obtain ⟨cf, hcf⟩ : ∃ v, chk false xs = v := ⟨_, rfl⟩
          rw [hcf] at HCF
          have HCFF := Lib.hid hcf
          have hg2 : (cf != 0) = true ∨ ((cf != 0) = false ∧ decide (cm ≤ 0) = true) := by
            by_cases e : cf = 0
            · exact .inr ⟨by simp [e], by simp; have := HCF.out.2.2 e; omega⟩
            · exact .inl (by simp [e])
          clear hcf
          rcases hg1 with hg1 | ⟨hg1, hg1'⟩
          all_goals
            go_wp2_with fail
            refine (checkBid_any A n c xs v8 (HS.out.below HE8.out) hn).mono ?_
            rintro e v9 ⟨rfl, hF9⟩
            rw [HCFF.out]
            rcases hg2 with hg2 | ⟨hg2, hg2'⟩
            all_goals
              go_wp2_with fail
              go_ret
              exact ⟨rfl, Ext.trans HE8.out hF9⟩
        · go_wp2_with fail
          refine (qadd_any s1 A1 n1 c1 t1 B1 m1 d1 p s2 A2 n2 c2 t2 B2 m2 d2 q wd (J1.out.ext Ext.rfl') (J2.out.ext Ext.rfl')).mono ?_
          rintro e x1 ⟨su, Au, nu, cu, tu, Bu, mu, du, rfl, hQu, hG0⟩
          have HAu := Lib.hid (hQu.arg (HZa.out.add HZb.out) (by omega))
          clear hQu
          have hEx1 : Ext wd x1 := Ext.trans Ext.rfl' hG0
          go_wp2_with fail
          refine And.intro (inX_of_ext _ hEx1) ?_
          repeat (refine wpLexF_still (by rfl) (by rfl) (by rfl) ?_; go_big_quiet_step (fail); refine wpQuiet_nil ?_)
          refine wpLexF_both (by rfl) (by rfl) (by rfl) (by rfl) (by rfl) ?_ ?_
          · skip
            go_wp2_with fail
            have c13 := Cell4.new x1 _ rfl (.bool false) (.slice none 0 0) (.bool false) (.slice none 0 0) 33
            have hal : Ext x1 (x1.alloc (.cells #[.bool false, .slice none 0 0, .bool false, .slice none 0 0] 33)) := Ext.al Ext.rfl' _
            have hFa : Ext wd (x1.alloc (.cells #[.bool false, .slice none 0 0, .bool false, .slice none 0 0] 33)) := Ext.trans hEx1 hal
            generalize x1.alloc (.cells #[.bool false, .slice none 0 0, .bool false, .slice none 0 0] 33) = wa at *
            refine And.intro (inX_of_ext _ hFa) ?_
            have HAu := Lib.hid (HAu.out.ext hal)
            have hsg : wd.heap.size ≤ x1.heap.size := (hEx1).size
            have hsa : x1.heap.size < wa.heap.size := c13.2.2
            repeat (refine wpLexI_still (by rfl) (by rfl) ?_; go_big_quiet_step (fail); refine wpQuiet_nil ?_)
            have hgg : Ext wa wa := Ext.rfl'
            refine wpLexI_move (by rfl) (by rfl) (by rfl) ?_
            go_wp2_with fail
            refine (qmul_any sh Ah nh ch th Bh mh dh _ su Au nu cu tu Bu mu du _ wa ((Gh.out.ext hFa).arg HZh.out (by omega)) HAu.out).mono ?_
            rintro e y2 ⟨sv, Av, nv, cv, tv, Bv, mv, dv, rfl, hQv, hG1⟩
            obtain ⟨lv1, lv2⟩ := hQv.len (HZh.out.mul (HZa.out.add HZb.out))
            have HQv : Hid (QIs y2 sv Av nv cv tv Bv mv dv _) := hQv.is
            clear hQv
            have hFy2 : Ext wd y2 := Ext.trans hFa hG1
            have hgg := Ext.trans hgg hG1
            go_wp2_with fail
            refine And.intro (inX_of_ext _ hFy2) ?_
            repeat (refine wpLexI_still (by rfl) (by rfl) ?_; go_big_quiet_step (fail); refine wpQuiet_nil ?_)
            have hszb : wa.heap.size ≤ y2.heap.size := hgg.size
            refine wpLexI_move (by rfl) (by rfl) (by rfl) ?_
            go_wp2_with fail
            refine (cost_any A n c xs sv Av nv cv tv Bv mv dv _ y2 (HS.out.below (Ext.trans HEd.out hFy2)) hn HQv.out (by omega) (by omega)).mono ?_
            rintro e y3 ⟨sz, Az, nz, cz, tz, Bz, mz, dz, rfl, hQz, hG2⟩
            rw [HCF.out.1]
            have hFy3 : Ext wd y3 := Ext.trans hFy2 hG2
            have hgg := Ext.trans hgg hG2
            go_wp2_with fail
            refine And.intro (inX_of_ext _ hFy3) ?_
            repeat (refine wpLexI_still (by rfl) (by rfl) ?_; go_big_quiet_step (fail); refine wpQuiet_nil ?_)
            obtain ⟨⟨o0, o1, o2, o3⟩, ⟨q0, q1, q2, q3⟩, ol⟩ := c13.ext hgg
            refine wpLexI_move (by rfl) (by rfl) (by rfl) ?_
            go_wp2_with fail
            refine And.intro (inX_put (p := ⟨x1.heap.size, 3, none⟩) (inX_put (p := ⟨x1.heap.size, 2, none⟩) (inX_put (p := ⟨x1.heap.size, 1, none⟩) (inX_put (p := ⟨x1.heap.size, 0, none⟩) (inX_of_ext _ hFy3) (.inr hsg) _) (.inr hsg) _) (.inr hsg) _) (.inr hsg) _) ?_
            repeat (refine wpLexI_still (by rfl) (by rfl) ?_; go_big_quiet_step (fail); refine wpQuiet_nil ?_)
            refine wpLexI_nil ?_
            have K13 := Lib.hid ((c13.ext hgg).put4 (.bool sz) (.slice Az nz cz) (.bool tz) (.slice Bz mz dz))
            have HE4 := Lib.hid (ext_put4 (Ext.trans HEd.out hFy3) (g := x1.heap.size) (by have := HEd.out.size; omega) 0 (.bool sz) (.slice Az nz cz) (.bool tz) (.slice Bz mz dz))
            have R7 := Lib.hid ((P7.out.ext hFy3).far4 (g := x1.heap.size) (off := 0) (by have := P7.out.2.2; omega) (.bool sz) (.slice Az nz cz) (.bool tz) (.slice Bz mz dz))
            have R9 := Lib.hid ((P9.out.ext hFy3).far4 (g := x1.heap.size) (off := 0) (by have := P9.out.2.2; omega) (.bool sz) (.slice Az nz cz) (.bool tz) (.slice Bz mz dz))
            have R11 := Lib.hid ((P11.out.ext hFy3).far4 (g := x1.heap.size) (off := 0) (by have := P11.out.2.2; omega) (.bool sz) (.slice Az nz cz) (.bool tz) (.slice Bz mz dz))
            have Qh := Lib.hid (((Gh.out.arg HZh.out (by omega)).ext hFy3).put4Away (lo := wd.heap.size) (hi := x1.heap.size + 1) (Gh.out.is.away _).1 (Gh.out.is.away _).2 (g := x1.heap.size) (by omega) (by omega) 0 (.bool sz) (.slice Az nz cz) (.bool tz) (.slice Bz mz dz))
            have Qx := Lib.hid (((Gx.out.arg HZx.out (by omega)).ext hFy3).put4Away (lo := wd.heap.size) (hi := x1.heap.size + 1) (Gx.out.is.away _).1 (Gx.out.is.away _).2 (g := x1.heap.size) (by omega) (by omega) 0 (.bool sz) (.slice Az nz cz) (.bool tz) (.slice Bz mz dz))
            have Qy := Lib.hid (((Gy.out.arg HZy.out (by omega)).ext hFy3).put4Away (lo := wd.heap.size) (hi := x1.heap.size + 1) (Gy.out.is.away _).1 (Gy.out.is.away _).2 (g := x1.heap.size) (by omega) (by omega) 0 (.bool sz) (.slice Az nz cz) (.bool tz) (.slice Bz mz dz))
            have Qz := Lib.hid ((hQz.arg HZz.out (by omega)).put4Away (lo := 0) (hi := x1.heap.size + 1) ((hQz.base (B1 := x1.heap.size + 1) (Nat.le_trans hsa hszb)).away _).1 ((hQz.base (B1 := x1.heap.size + 1) (Nat.le_trans hsa hszb)).away _).2 (g := x1.heap.size) (by omega) (by omega) 0 (.bool sz) (.slice Az nz cz) (.bool tz) (.slice Bz mz dz))
            unfold put4 at K13 HE4 R7 R9 R11 Qh Qx Qy Qz
            simp only [Nat.zero_add] at K13 HE4 R7 R9 R11 Qh Qx Qy Qz
            generalize ((((y3.setCell ⟨x1.heap.size, 0, none⟩ (.bool sz)).setCell ⟨x1.heap.size, 1, none⟩ (.slice Az nz cz)).setCell ⟨x1.heap.size, 2, none⟩ (.bool tz)).setCell ⟨x1.heap.size, 3, none⟩ (.slice Bz mz dz)) = v4 at *
            clear fa0 fa1 fa2 fa3 fb0 fb1 fb2 fb3 fh0 fh1 fh2 fh3
            go_wp2_with fail
            have hd4 : Ext v4 v4.drew := Ext.rfl'.drew
            refine wp_region_lex (C := InX v4.drew []) (by kernel_rfl) (by kernel_rfl) (inX_self _ _) ?_
            generalize v4.drew = ve at *
            have K13' := Lib.hid (K13.out.ext hd4)
            have R7' := Lib.hid (R7.out.ext hd4)
            have R9' := Lib.hid (R9.out.ext hd4)
            have R11' := Lib.hid (R11.out.ext hd4)
            have Qh' := Lib.hid (Qh.out.ext hd4)
            have Qx' := Lib.hid (Qx.out.ext hd4)
            have Qy' := Lib.hid (Qy.out.ext hd4)
            have Qz' := Lib.hid (Qz.out.ext hd4)
            have HE5 := Lib.hid (Ext.trans HE4.out hd4)
            clear hd4 K13 R7 R9 R11 HE4
            have gh0 := fun z : ExtX ve [] => z.cell (p := ⟨w6.heap.size, 0, none⟩) R7'.out.1.1 (by simp)
            have gh1 := fun z : ExtX ve [] => z.cell (p := ⟨w6.heap.size, 1, none⟩) R7'.out.1.2.1 (by simp)
            have gh2 := fun z : ExtX ve [] => z.cell (p := ⟨w6.heap.size, 2, none⟩) R7'.out.1.2.2.1 (by simp)
            have gh3 := fun z : ExtX ve [] => z.cell (p := ⟨w6.heap.size, 3, none⟩) R7'.out.1.2.2.2 (by simp)
            have gx0 := fun z : ExtX ve [] => z.cell (p := ⟨w8.heap.size, 0, none⟩) R9'.out.1.1 (by simp)
            have gx1 := fun z : ExtX ve [] => z.cell (p := ⟨w8.heap.size, 1, none⟩) R9'.out.1.2.1 (by simp)
            have gx2 := fun z : ExtX ve [] => z.cell (p := ⟨w8.heap.size, 2, none⟩) R9'.out.1.2.2.1 (by simp)
            have gx3 := fun z : ExtX ve [] => z.cell (p := ⟨w8.heap.size, 3, none⟩) R9'.out.1.2.2.2 (by simp)
            have gy0 := fun z : ExtX ve [] => z.cell (p := ⟨w10.heap.size, 0, none⟩) R11'.out.1.1 (by simp)
            have gy1 := fun z : ExtX ve [] => z.cell (p := ⟨w10.heap.size, 1, none⟩) R11'.out.1.2.1 (by simp)
            have gy2 := fun z : ExtX ve [] => z.cell (p := ⟨w10.heap.size, 2, none⟩) R11'.out.1.2.2.1 (by simp)
            have gy3 := fun z : ExtX ve [] => z.cell (p := ⟨w10.heap.size, 3, none⟩) R11'.out.1.2.2.2 (by simp)
            have gz0 := fun z : ExtX ve [] => z.cell (p := ⟨x1.heap.size, 0, none⟩) K13'.out.1.1 (by simp)
            have gz1 := fun z : ExtX ve [] => z.cell (p := ⟨x1.heap.size, 1, none⟩) K13'.out.1.2.1 (by simp)
            have gz2 := fun z : ExtX ve [] => z.cell (p := ⟨x1.heap.size, 2, none⟩) K13'.out.1.2.2.1 (by simp)
            have gz3 := fun z : ExtX ve [] => z.cell (p := ⟨x1.heap.size, 3, none⟩) K13'.out.1.2.2.2 (by simp)
            repeat (refine wpLex_still (by rfl) ?_; go_big_quiet_step (fail); refine wpQuiet_nil ?_)
            refine wpLex_move (by rfl) (by rfl) ?_
            go_wp2_with fail
            refine (qadd_any sx Ax nx cx tx Bx mx dx _ sy Ay ny cy ty By my dy _ ve Qx'.out Qy'.out).mono ?_
            rintro e v5 ⟨si, Ai, ni, ci, ti, Bi, mi, di, rfl, hQi, hF5⟩
            have HAi := Lib.hid (hQi.arg (HZx.out.add HZy.out) (by omega))
            clear hQi
            go_wp2_with fail
            refine And.intro (inX_of_ext _ hF5) ?_
            repeat (refine wpLex_still (by rfl) ?_; go_big_quiet_step (fail); refine wpQuiet_nil ?_)
            refine wpLex_move (by rfl) (by rfl) ?_
            go_wp2_with fail
            refine (qmul_any sh Ah nh ch th Bh mh dh _ si Ai ni ci ti Bi mi di _ v5 (Qh'.out.ext hF5) HAi.out).mono ?_
            rintro e v6 ⟨sj, Aj, nj, cj, tj, Bj, mj, dj, rfl, hQj, hF6'⟩
            have hF6 := Ext.trans hF5 hF6'
            have HAj := Lib.hid (hQj.arg (HZh.out.mul (HZx.out.add HZy.out)) (by omega))
            clear hQj
            go_wp2_with fail
            refine And.intro (inX_of_ext _ hF6) ?_
            repeat (refine wpLex_still (by rfl) ?_; go_big_quiet_step (fail); refine wpQuiet_nil ?_)
            refine wpLex_move (by rfl) (by rfl) ?_
            go_wp2_with fail
            refine (qcmp_any sj Aj nj cj tj Bj mj dj _ sz Az nz cz tz Bz mz dz _ v6 HAj.out (Qz'.out.ext hF6)).mono ?_
            rintro e v7 ⟨rfl, hF7'⟩
            have hF7 := Ext.trans hF6 hF7'
            obtain ⟨cm, hcm⟩ : ∃ v, cmpQ (Rat.divInt 1 2 * (costV xs p + costV xs q)) (costV xs (Rat.divInt 1 2 * (p + q))) = v := ⟨_, rfl⟩
            rw [hcm] at HCF
            rw [hcm]
            clear hcm
            go_wp2_with fail
            refine And.intro (inX_of_ext _ hF7) ?_
            repeat (refine wpLex_still (by rfl) ?_; go_big_quiet_step (fail); refine wpQuiet_nil ?_)
            refine wpLex_nil ?_
            have HE7 := Lib.hid (Ext.trans HE5.out hF7)
            clear gh0 gh1 gh2 gh3 gx0 gx1 gx2 gx3 gy0 gy1 gy2 gy3 gz0 gz1 gz2 gz3 hF5 hF6' hF6 hF7' hF7 HE5
            go_wp2_with fail
            refine (checkOffer_any A n c xs v7 (HS.out.below HE7.out) hn).mono ?_
            rintro e v8 ⟨rfl, hF8⟩
            have HE8 := Lib.hid (Ext.trans HE7.out hF8)
            clear hF8
            obtain ⟨ct, hct⟩ : ∃ v, chk true xs = v := ⟨_, rfl⟩
            rw [hct] at HCF
            rw [hct]
            clear hct
            have hg1 : (ct != 0) = true ∨ ((ct != 0) = false ∧ decide (0 ≤ cm) = true) := by
              by_cases e : ct = 0
              · exact .inr ⟨by simp [e], by simp; have := HCF.out.2.1 e; omega⟩
              · exact .inl (by simp [e])
            obtain ⟨cf, hcf⟩ : ∃ v, chk false xs = v := ⟨_, rfl⟩
            rw [hcf] at HCF
            have HCFF := Lib.hid hcf
            have hg2 : (cf != 0) = true ∨ ((cf != 0) = false ∧ decide (cm ≤ 0) = true) := by
              by_cases e : cf = 0
              · exact .inr ⟨by simp [e], by simp; have := HCF.out.2.2 e; omega⟩
              · exact .inl (by simp [e])
            clear hcf
            rcases hg1 with hg1 | ⟨hg1, hg1'⟩
            all_goals
              go_wp2_with fail
              refine (checkBid_any A n c xs v8 (HS.out.below HE8.out) hn).mono ?_
              rintro e v9 ⟨rfl, hF9⟩
              rw [HCFF.out]
              rcases hg2 with hg2 | ⟨hg2, hg2'⟩
              all_goals
                go_wp2_with fail
                go_ret
                exact ⟨rfl, Ext.trans HE8.out hF9⟩
          · go_wp2_with fail
            refine (qmul_any sh Ah nh ch th Bh mh dh _ su Au nu cu tu Bu mu du _ x1 ((Gh.out.ext hEx1).arg HZh.out (by omega)) HAu.out).mono ?_
            rintro e x2 ⟨sv, Av, nv, cv, tv, Bv, mv, dv, rfl, hQv, hG1⟩
            obtain ⟨lv1, lv2⟩ := hQv.len (HZh.out.mul (HZa.out.add HZb.out))
            have HQv : Hid (QIs x2 sv Av nv cv tv Bv mv dv _) := hQv.is
            clear hQv
            have hEx2 : Ext wd x2 := Ext.trans hEx1 hG1
            go_wp2_with fail
            refine And.intro (inX_of_ext _ hEx2) ?_
            repeat (refine wpLexF_still (by rfl) (by rfl) (by rfl) ?_; go_big_quiet_step (fail); refine wpQuiet_nil ?_)
            refine wpLexF_both (by rfl) (by rfl) (by rfl) (by rfl) (by rfl) ?_ ?_
            · skip
              go_wp2_with fail
              have c13 := Cell4.new x2 _ rfl (.bool false) (.slice none 0 0) (.bool false) (.slice none 0 0) 33
              have hal : Ext x2 (x2.alloc (.cells #[.bool false, .slice none 0 0, .bool false, .slice none 0 0] 33)) := Ext.al Ext.rfl' _
              have hFa : Ext wd (x2.alloc (.cells #[.bool false, .slice none 0 0, .bool false, .slice none 0 0] 33)) := Ext.trans hEx2 hal
              generalize x2.alloc (.cells #[.bool false, .slice none 0 0, .bool false, .slice none 0 0] 33) = wa at *
              refine And.intro (inX_of_ext _ hFa) ?_
              have HQv := Lib.hid (HQv.out.ext hal)
              have hsg : wd.heap.size ≤ x2.heap.size := (hEx2).size
              have hsa : x2.heap.size < wa.heap.size := c13.2.2
              repeat (refine wpLexI_still (by rfl) (by rfl) ?_; go_big_quiet_step (fail); refine wpQuiet_nil ?_)
              have hgg : Ext wa wa := Ext.rfl'
              have hszb : wa.heap.size ≤ wa.heap.size := hgg.size
              refine wpLexI_move (by rfl) (by rfl) (by rfl) ?_
              go_wp2_with fail
              refine (cost_any A n c xs sv Av nv cv tv Bv mv dv _ wa (HS.out.below (Ext.trans HEd.out hFa)) hn HQv.out (by omega) (by omega)).mono ?_
              rintro e y3 ⟨sz, Az, nz, cz, tz, Bz, mz, dz, rfl, hQz, hG2⟩
              rw [HCF.out.1]
              have hFy3 : Ext wd y3 := Ext.trans hFa hG2
              have hgg := Ext.trans hgg hG2
              go_wp2_with fail
              refine And.intro (inX_of_ext _ hFy3) ?_
              repeat (refine wpLexI_still (by rfl) (by rfl) ?_; go_big_quiet_step (fail); refine wpQuiet_nil ?_)
              obtain ⟨⟨o0, o1, o2, o3⟩, ⟨q0, q1, q2, q3⟩, ol⟩ := c13.ext hgg
              refine wpLexI_move (by rfl) (by rfl) (by rfl) ?_
              go_wp2_with fail
              refine And.intro (inX_put (p := ⟨x2.heap.size, 3, none⟩) (inX_put (p := ⟨x2.heap.size, 2, none⟩) (inX_put (p := ⟨x2.heap.size, 1, none⟩) (inX_put (p := ⟨x2.heap.size, 0, none⟩) (inX_of_ext _ hFy3) (.inr hsg) _) (.inr hsg) _) (.inr hsg) _) (.inr hsg) _) ?_
              repeat (refine wpLexI_still (by rfl) (by rfl) ?_; go_big_quiet_step (fail); refine wpQuiet_nil ?_)
              refine wpLexI_nil ?_
              have K13 := Lib.hid ((c13.ext hgg).put4 (.bool sz) (.slice Az nz cz) (.bool tz) (.slice Bz mz dz))
              have HE4 := Lib.hid (ext_put4 (Ext.trans HEd.out hFy3) (g := x2.heap.size) (by have := HEd.out.size; omega) 0 (.bool sz) (.slice Az nz cz) (.bool tz) (.slice Bz mz dz))
              have R7 := Lib.hid ((P7.out.ext hFy3).far4 (g := x2.heap.size) (off := 0) (by have := P7.out.2.2; omega) (.bool sz) (.slice Az nz cz) (.bool tz) (.slice Bz mz dz))
              have R9 := Lib.hid ((P9.out.ext hFy3).far4 (g := x2.heap.size) (off := 0) (by have := P9.out.2.2; omega) (.bool sz) (.slice Az nz cz) (.bool tz) (.slice Bz mz dz))
              have R11 := Lib.hid ((P11.out.ext hFy3).far4 (g := x2.heap.size) (off := 0) (by have := P11.out.2.2; omega) (.bool sz) (.slice Az nz cz) (.bool tz) (.slice Bz mz dz))
              have Qh := Lib.hid (((Gh.out.arg HZh.out (by omega)).ext hFy3).put4Away (lo := wd.heap.size) (hi := x2.heap.size + 1) (Gh.out.is.away _).1 (Gh.out.is.away _).2 (g := x2.heap.size) (by omega) (by omega) 0 (.bool sz) (.slice Az nz cz) (.bool tz) (.slice Bz mz dz))
              have Qx := Lib.hid (((Gx.out.arg HZx.out (by omega)).ext hFy3).put4Away (lo := wd.heap.size) (hi := x2.heap.size + 1) (Gx.out.is.away _).1 (Gx.out.is.away _).2 (g := x2.heap.size) (by omega) (by omega) 0 (.bool sz) (.slice Az nz cz) (.bool tz) (.slice Bz mz dz))
              have Qy := Lib.hid (((Gy.out.arg HZy.out (by omega)).ext hFy3).put4Away (lo := wd.heap.size) (hi := x2.heap.size + 1) (Gy.out.is.away _).1 (Gy.out.is.away _).2 (g := x2.heap.size) (by omega) (by omega) 0 (.bool sz) (.slice Az nz cz) (.bool tz) (.slice Bz mz dz))
              have Qz := Lib.hid ((hQz.arg HZz.out (by omega)).put4Away (lo := 0) (hi := x2.heap.size + 1) ((hQz.base (B1 := x2.heap.size + 1) (Nat.le_trans hsa hszb)).away _).1 ((hQz.base (B1 := x2.heap.size + 1) (Nat.le_trans hsa hszb)).away _).2 (g := x2.heap.size) (by omega) (by omega) 0 (.bool sz) (.slice Az nz cz) (.bool tz) (.slice Bz mz dz))
              unfold put4 at K13 HE4 R7 R9 R11 Qh Qx Qy Qz
              simp only [Nat.zero_add] at K13 HE4 R7 R9 R11 Qh Qx Qy Qz
              generalize ((((y3.setCell ⟨x2.heap.size, 0, none⟩ (.bool sz)).setCell ⟨x2.heap.size, 1, none⟩ (.slice Az nz cz)).setCell ⟨x2.heap.size, 2, none⟩ (.bool tz)).setCell ⟨x2.heap.size, 3, none⟩ (.slice Bz mz dz)) = v4 at *
              clear fa0 fa1 fa2 fa3 fb0 fb1 fb2 fb3 fh0 fh1 fh2 fh3
              go_wp2_with fail
              have hd4 : Ext v4 v4.drew := Ext.rfl'.drew
              refine wp_region_lex (C := InX v4.drew []) (by kernel_rfl) (by kernel_rfl) (inX_self _ _) ?_
              generalize v4.drew = ve at *
              have K13' := Lib.hid (K13.out.ext hd4)
              have R7' := Lib.hid (R7.out.ext hd4)
              have R9' := Lib.hid (R9.out.ext hd4)
              have R11' := Lib.hid (R11.out.ext hd4)
              have Qh' := Lib.hid (Qh.out.ext hd4)
              have Qx' := Lib.hid (Qx.out.ext hd4)
              have Qy' := Lib.hid (Qy.out.ext hd4)
              have Qz' := Lib.hid (Qz.out.ext hd4)
              have HE5 := Lib.hid (Ext.trans HE4.out hd4)
              clear hd4 K13 R7 R9 R11 HE4
              have gh0 := fun z : ExtX ve [] => z.cell (p := ⟨w6.heap.size, 0, none⟩) R7'.out.1.1 (by simp)
              have gh1 := fun z : ExtX ve [] => z.cell (p := ⟨w6.heap.size, 1, none⟩) R7'.out.1.2.1 (by simp)
              have gh2 := fun z : ExtX ve [] => z.cell (p := ⟨w6.heap.size, 2, none⟩) R7'.out.1.2.2.1 (by simp)
              have gh3 := fun z : ExtX ve [] => z.cell (p := ⟨w6.heap.size, 3, none⟩) R7'.out.1.2.2.2 (by simp)
              have gx0 := fun z : ExtX ve [] => z.cell (p := ⟨w8.heap.size, 0, none⟩) R9'.out.1.1 (by simp)
              have gx1 := fun z : ExtX ve [] => z.cell (p := ⟨w8.heap.size, 1, none⟩) R9'.out.1.2.1 (by simp)
              have gx2 := fun z : ExtX ve [] => z.cell (p := ⟨w8.heap.size, 2, none⟩) R9'.out.1.2.2.1 (by simp)
              have gx3 := fun z : ExtX ve [] => z.cell (p := ⟨w8.heap.size, 3, none⟩) R9'.out.1.2.2.2 (by simp)
              have gy0 := fun z : ExtX ve [] => z.cell (p := ⟨w10.heap.size, 0, none⟩) R11'.out.1.1 (by simp)
              have gy1 := fun z : ExtX ve [] => z.cell (p := ⟨w10.heap.size, 1, none⟩) R11'.out.1.2.1 (by simp)
              have gy2 := fun z : ExtX ve [] => z.cell (p := ⟨w10.heap.size, 2, none⟩) R11'.out.1.2.2.1 (by simp)
              have gy3 := fun z : ExtX ve [] => z.cell (p := ⟨w10.heap.size, 3, none⟩) R11'.out.1.2.2.2 (by simp)
              have gz0 := fun z : ExtX ve [] => z.cell (p := ⟨x2.heap.size, 0, none⟩) K13'.out.1.1 (by simp)
              have gz1 := fun z : ExtX ve [] => z.cell (p := ⟨x2.heap.size, 1, none⟩) K13'.out.1.2.1 (by simp)
              have gz2 := fun z : ExtX ve [] => z.cell (p := ⟨x2.heap.size, 2, none⟩) K13'.out.1.2.2.1 (by simp)
              have gz3 := fun z : ExtX ve [] => z.cell (p := ⟨x2.heap.size, 3, none⟩) K13'.out.1.2.2.2 (by simp)
              repeat (refine wpLex_still (by rfl) ?_; go_big_quiet_step (fail); refine wpQuiet_nil ?_)
              refine wpLex_move (by rfl) (by rfl) ?_
              go_wp2_with fail
              refine (qadd_any sx Ax nx cx tx Bx mx dx _ sy Ay ny cy ty By my dy _ ve Qx'.out Qy'.out).mono ?_
              rintro e v5 ⟨si, Ai, ni, ci, ti, Bi, mi, di, rfl, hQi, hF5⟩
              have HAi := Lib.hid (hQi.arg (HZx.out.add HZy.out) (by omega))
              clear hQi
              go_wp2_with fail
              refine And.intro (inX_of_ext _ hF5) ?_
              repeat (refine wpLex_still (by rfl) ?_; go_big_quiet_step (fail); refine wpQuiet_nil ?_)
              refine wpLex_move (by rfl) (by rfl) ?_
              go_wp2_with fail
              refine (qmul_any sh Ah nh ch th Bh mh dh _ si Ai ni ci ti Bi mi di _ v5 (Qh'.out.ext hF5) HAi.out).mono ?_
              rintro e v6 ⟨sj, Aj, nj, cj, tj, Bj, mj, dj, rfl, hQj, hF6'⟩
              have hF6 := Ext.trans hF5 hF6'
              have HAj := Lib.hid (hQj.arg (HZh.out.mul (HZx.out.add HZy.out)) (by omega))
              clear hQj
              go_wp2_with fail
              refine And.intro (inX_of_ext _ hF6) ?_
              repeat (refine wpLex_still (by rfl) ?_; go_big_quiet_step (fail); refine wpQuiet_nil ?_)
              refine wpLex_move (by rfl) (by rfl) ?_
              go_wp2_with fail
              refine (qcmp_any sj Aj nj cj tj Bj mj dj _ sz Az nz cz tz Bz mz dz _ v6 HAj.out (Qz'.out.ext hF6)).mono ?_
              rintro e v7 ⟨rfl, hF7'⟩
              have hF7 := Ext.trans hF6 hF7'
              obtain ⟨cm, hcm⟩ : ∃ v, cmpQ (Rat.divInt 1 2 * (costV xs p + costV xs q)) (costV xs (Rat.divInt 1 2 * (p + q))) = v := ⟨_, rfl⟩
              rw [hcm] at HCF
              rw [hcm]
              clear hcm
              go_wp2_with fail
              refine And.intro (inX_of_ext _ hF7) ?_
              repeat (refine wpLex_still (by rfl) ?_; go_big_quiet_step (fail); refine wpQuiet_nil ?_)
              refine wpLex_nil ?_
              have HE7 := Lib.hid (Ext.trans HE5.out hF7)
              clear gh0 gh1 gh2 gh3 gx0 gx1 gx2 gx3 gy0 gy1 gy2 gy3 gz0 gz1 gz2 gz3 hF5 hF6' hF6 hF7' hF7 HE5
              go_wp2_with fail
              refine (checkOffer_any A n c xs v7 (HS.out.below HE7.out) hn).mono ?_
              rintro e v8 ⟨rfl, hF8⟩
              have HE8 := Lib.hid (Ext.trans HE7.out hF8)
              clear hF8
              obtain ⟨ct, hct⟩ : ∃ v, chk true xs = v := ⟨_, rfl⟩
              rw [hct] at HCF
              rw [hct]
              clear hct
              have hg1 : (ct != 0) = true ∨ ((ct != 0) = false ∧ decide (0 ≤ cm) = true) := by
                by_cases e : ct = 0
                · exact .inr ⟨by simp [e], by simp; have := HCF.out.2.1 e; omega⟩
                · exact .inl (by simp [e])
              obtain ⟨cf, hcf⟩ : ∃ v, chk false xs = v := ⟨_, rfl⟩
              rw [hcf] at HCF
              have HCFF := Lib.hid hcf
              have hg2 : (cf != 0) = true ∨ ((cf != 0) = false ∧ decide (cm ≤ 0) = true) := by
                by_cases e : cf = 0
                · exact .inr ⟨by simp [e], by simp; have := HCF.out.2.2 e; omega⟩
                · exact .inl (by simp [e])
              clear hcf
              rcases hg1 with hg1 | ⟨hg1, hg1'⟩
              all_goals
                go_wp2_with fail
                refine (checkBid_any A n c xs v8 (HS.out.below HE8.out) hn).mono ?_
                rintro e v9 ⟨rfl, hF9⟩
                rw [HCFF.out]
                rcases hg2 with hg2 | ⟨hg2, hg2'⟩
                all_goals
                  go_wp2_with fail
                  go_ret
                  exact ⟨rfl, Ext.trans HE8.out hF9⟩
            · go_wp2_with fail
              refine (cost_any A n c xs sv Av nv cv tv Bv mv dv _ x2 (HS.out.below (Ext.trans HEd.out hEx2)) hn HQv.out (by omega) (by omega)).mono ?_
              rintro e x3 ⟨sz, Az, nz, cz, tz, Bz, mz, dz, rfl, hQz, hG2⟩
              rw [HCF.out.1]
              have hEx3 : Ext wd x3 := Ext.trans hEx2 hG2
              go_wp2_with fail
              refine And.intro (inX_of_ext _ hEx3) ?_
              repeat (refine wpLexF_still (by rfl) (by rfl) (by rfl) ?_; go_big_quiet_step (fail); refine wpQuiet_nil ?_)
              refine wpLexF_end (by rfl) (by rfl) ?_
              go_wp2_with fail
              have c13 := Cell4.new x3 _ rfl (.bool false) (.slice none 0 0) (.bool false) (.slice none 0 0) 33
              have hal : Ext x3 (x3.alloc (.cells #[.bool false, .slice none 0 0, .bool false, .slice none 0 0] 33)) := Ext.al Ext.rfl' _
              have hFa : Ext wd (x3.alloc (.cells #[.bool false, .slice none 0 0, .bool false, .slice none 0 0] 33)) := Ext.trans hEx3 hal
              generalize x3.alloc (.cells #[.bool false, .slice none 0 0, .bool false, .slice none 0 0] 33) = wa at *
              refine And.intro (inX_of_ext _ hFa) ?_
              have hsg : wd.heap.size ≤ x3.heap.size := (hEx3).size
              have hsa : x3.heap.size < wa.heap.size := c13.2.2
              have HZQ := Lib.hid (hQz.ext hal)
              repeat (refine wpLexI_still (by rfl) (by rfl) ?_; go_big_quiet_step (fail); refine wpQuiet_nil ?_)
              have hgg : Ext wa wa := Ext.rfl'
              obtain ⟨⟨o0, o1, o2, o3⟩, ⟨q0, q1, q2, q3⟩, ol⟩ := c13.ext hgg
              refine wpLexI_move (by rfl) (by rfl) (by rfl) ?_
              go_wp2_with fail
              refine And.intro (inX_put (p := ⟨x3.heap.size, 3, none⟩) (inX_put (p := ⟨x3.heap.size, 2, none⟩) (inX_put (p := ⟨x3.heap.size, 1, none⟩) (inX_put (p := ⟨x3.heap.size, 0, none⟩) (inX_of_ext _ hFa) (.inr hsg) _) (.inr hsg) _) (.inr hsg) _) (.inr hsg) _) ?_
              repeat (refine wpLexI_still (by rfl) (by rfl) ?_; go_big_quiet_step (fail); refine wpQuiet_nil ?_)
              refine wpLexI_nil ?_
              have K13 := Lib.hid ((c13.ext hgg).put4 (.bool sz) (.slice Az nz cz) (.bool tz) (.slice Bz mz dz))
              have HE4 := Lib.hid (ext_put4 (Ext.trans HEd.out hFa) (g := x3.heap.size) (by have := HEd.out.size; omega) 0 (.bool sz) (.slice Az nz cz) (.bool tz) (.slice Bz mz dz))
              have R7 := Lib.hid ((P7.out.ext hFa).far4 (g := x3.heap.size) (off := 0) (by have := P7.out.2.2; omega) (.bool sz) (.slice Az nz cz) (.bool tz) (.slice Bz mz dz))
              have R9 := Lib.hid ((P9.out.ext hFa).far4 (g := x3.heap.size) (off := 0) (by have := P9.out.2.2; omega) (.bool sz) (.slice Az nz cz) (.bool tz) (.slice Bz mz dz))
              have R11 := Lib.hid ((P11.out.ext hFa).far4 (g := x3.heap.size) (off := 0) (by have := P11.out.2.2; omega) (.bool sz) (.slice Az nz cz) (.bool tz) (.slice Bz mz dz))
              have Qh := Lib.hid (((Gh.out.arg HZh.out (by omega)).ext hFa).put4Away (lo := wd.heap.size) (hi := x3.heap.size + 1) (Gh.out.is.away _).1 (Gh.out.is.away _).2 (g := x3.heap.size) (by omega) (by omega) 0 (.bool sz) (.slice Az nz cz) (.bool tz) (.slice Bz mz dz))
              have Qx := Lib.hid (((Gx.out.arg HZx.out (by omega)).ext hFa).put4Away (lo := wd.heap.size) (hi := x3.heap.size + 1) (Gx.out.is.away _).1 (Gx.out.is.away _).2 (g := x3.heap.size) (by omega) (by omega) 0 (.bool sz) (.slice Az nz cz) (.bool tz) (.slice Bz mz dz))
              have Qy := Lib.hid (((Gy.out.arg HZy.out (by omega)).ext hFa).put4Away (lo := wd.heap.size) (hi := x3.heap.size + 1) (Gy.out.is.away _).1 (Gy.out.is.away _).2 (g := x3.heap.size) (by omega) (by omega) 0 (.bool sz) (.slice Az nz cz) (.bool tz) (.slice Bz mz dz))
              have Qz := Lib.hid (((hQz.arg HZz.out (by omega)).ext hal).put4Away (lo := x3.heap.size) (hi := x3.heap.size + 1) (hQz.is.away _).1 (hQz.is.away _).2 (g := x3.heap.size) (by omega) (by omega) 0 (.bool sz) (.slice Az nz cz) (.bool tz) (.slice Bz mz dz))
              unfold put4 at K13 HE4 R7 R9 R11 Qh Qx Qy Qz
              simp only [Nat.zero_add] at K13 HE4 R7 R9 R11 Qh Qx Qy Qz
              generalize ((((wa.setCell ⟨x3.heap.size, 0, none⟩ (.bool sz)).setCell ⟨x3.heap.size, 1, none⟩ (.slice Az nz cz)).setCell ⟨x3.heap.size, 2, none⟩ (.bool tz)).setCell ⟨x3.heap.size, 3, none⟩ (.slice Bz mz dz)) = v4 at *
              clear fa0 fa1 fa2 fa3 fb0 fb1 fb2 fb3 fh0 fh1 fh2 fh3
              go_wp2_with fail
              have hd4 : Ext v4 v4.drew := Ext.rfl'.drew
              refine wp_region_lex (C := InX v4.drew []) (by kernel_rfl) (by kernel_rfl) (inX_self _ _) ?_
              generalize v4.drew = ve at *
              have K13' := Lib.hid (K13.out.ext hd4)
              have R7' := Lib.hid (R7.out.ext hd4)
              have R9' := Lib.hid (R9.out.ext hd4)
              have R11' := Lib.hid (R11.out.ext hd4)
              have Qh' := Lib.hid (Qh.out.ext hd4)
              have Qx' := Lib.hid (Qx.out.ext hd4)
              have Qy' := Lib.hid (Qy.out.ext hd4)
              have Qz' := Lib.hid (Qz.out.ext hd4)
              have HE5 := Lib.hid (Ext.trans HE4.out hd4)
              clear hd4 K13 R7 R9 R11 HE4
              have gh0 := fun z : ExtX ve [] => z.cell (p := ⟨w6.heap.size, 0, none⟩) R7'.out.1.1 (by simp)
              have gh1 := fun z : ExtX ve [] => z.cell (p := ⟨w6.heap.size, 1, none⟩) R7'.out.1.2.1 (by simp)
              have gh2 := fun z : ExtX ve [] => z.cell (p := ⟨w6.heap.size, 2, none⟩) R7'.out.1.2.2.1 (by simp)
              have gh3 := fun z : ExtX ve [] => z.cell (p := ⟨w6.heap.size, 3, none⟩) R7'.out.1.2.2.2 (by simp)
              have gx0 := fun z : ExtX ve [] => z.cell (p := ⟨w8.heap.size, 0, none⟩) R9'.out.1.1 (by simp)
              have gx1 := fun z : ExtX ve [] => z.cell (p := ⟨w8.heap.size, 1, none⟩) R9'.out.1.2.1 (by simp)
              have gx2 := fun z : ExtX ve [] => z.cell (p := ⟨w8.heap.size, 2, none⟩) R9'.out.1.2.2.1 (by simp)
              have gx3 := fun z : ExtX ve [] => z.cell (p := ⟨w8.heap.size, 3, none⟩) R9'.out.1.2.2.2 (by simp)
              have gy0 := fun z : ExtX ve [] => z.cell (p := ⟨w10.heap.size, 0, none⟩) R11'.out.1.1 (by simp)
              have gy1 := fun z : ExtX ve [] => z.cell (p := ⟨w10.heap.size, 1, none⟩) R11'.out.1.2.1 (by simp)
              have gy2 := fun z : ExtX ve [] => z.cell (p := ⟨w10.heap.size, 2, none⟩) R11'.out.1.2.2.1 (by simp)
              have gy3 := fun z : ExtX ve [] => z.cell (p := ⟨w10.heap.size, 3, none⟩) R11'.out.1.2.2.2 (by simp)
              have gz0 := fun z : ExtX ve [] => z.cell (p := ⟨x3.heap.size, 0, none⟩) K13'.out.1.1 (by simp)
              have gz1 := fun z : ExtX ve [] => z.cell (p := ⟨x3.heap.size, 1, none⟩) K13'.out.1.2.1 (by simp)
              have gz2 := fun z : ExtX ve [] => z.cell (p := ⟨x3.heap.size, 2, none⟩) K13'.out.1.2.2.1 (by simp)
              have gz3 := fun z : ExtX ve [] => z.cell (p := ⟨x3.heap.size, 3, none⟩) K13'.out.1.2.2.2 (by simp)
              repeat (refine wpLex_still (by rfl) ?_; go_big_quiet_step (fail); refine wpQuiet_nil ?_)
              refine wpLex_move (by rfl) (by rfl) ?_
              go_wp2_with fail
              refine (qadd_any sx Ax nx cx tx Bx mx dx _ sy Ay ny cy ty By my dy _ ve Qx'.out Qy'.out).mono ?_
              rintro e v5 ⟨si, Ai, ni, ci, ti, Bi, mi, di, rfl, hQi, hF5⟩
              have HAi := Lib.hid (hQi.arg (HZx.out.add HZy.out) (by omega))
              clear hQi
              go_wp2_with fail
              refine And.intro (inX_of_ext _ hF5) ?_
              repeat (refine wpLex_still (by rfl) ?_; go_big_quiet_step (fail); refine wpQuiet_nil ?_)
              refine wpLex_move (by rfl) (by rfl) ?_
              go_wp2_with fail
              refine (qmul_any sh Ah nh ch th Bh mh dh _ si Ai ni ci ti Bi mi di _ v5 (Qh'.out.ext hF5) HAi.out).mono ?_
              rintro e v6 ⟨sj, Aj, nj, cj, tj, Bj, mj, dj, rfl, hQj, hF6'⟩
              have hF6 := Ext.trans hF5 hF6'
              have HAj := Lib.hid (hQj.arg (HZh.out.mul (HZx.out.add HZy.out)) (by omega))
              clear hQj
              go_wp2_with fail
              refine And.intro (inX_of_ext _ hF6) ?_
              repeat (refine wpLex_still (by rfl) ?_; go_big_quiet_step (fail); refine wpQuiet_nil ?_)
              refine wpLex_move (by rfl) (by rfl) ?_
              go_wp2_with fail
              refine (qcmp_any sj Aj nj cj tj Bj mj dj _ sz Az nz cz tz Bz mz dz _ v6 HAj.out (Qz'.out.ext hF6)).mono ?_
              rintro e v7 ⟨rfl, hF7'⟩
              have hF7 := Ext.trans hF6 hF7'
              obtain ⟨cm, hcm⟩ : ∃ v, cmpQ (Rat.divInt 1 2 * (costV xs p + costV xs q)) (costV xs (Rat.divInt 1 2 * (p + q))) = v := ⟨_, rfl⟩
              rw [hcm] at HCF
              rw [hcm]
              clear hcm
              go_wp2_with fail
              refine And.intro (inX_of_ext _ hF7) ?_
              repeat (refine wpLex_still (by rfl) ?_; go_big_quiet_step (fail); refine wpQuiet_nil ?_)
              refine wpLex_nil ?_
              have HE7 := Lib.hid (Ext.trans HE5.out hF7)
              clear gh0 gh1 gh2 gh3 gx0 gx1 gx2 gx3 gy0 gy1 gy2 gy3 gz0 gz1 gz2 gz3 hF5 hF6' hF6 hF7' hF7 HE5
              go_wp2_with fail
              refine (checkOffer_any A n c xs v7 (HS.out.below HE7.out) hn).mono ?_
              rintro e v8 ⟨rfl, hF8⟩
              have HE8 := Lib.hid (Ext.trans HE7.out hF8)
              clear hF8
              obtain ⟨ct, hct⟩ : ∃ v, chk true xs = v := ⟨_, rfl⟩
              rw [hct] at HCF
              rw [hct]
              clear hct
              have hg1 : (ct != 0) = true ∨ ((ct != 0) = false ∧ decide (0 ≤ cm) = true) := by
                by_cases e : ct = 0
                · exact .inr ⟨by simp [e], by simp; have := HCF.out.2.1 e; omega⟩
                · exact .inl (by simp [e])
              obtain ⟨cf, hcf⟩ : ∃ v, chk false xs = v := ⟨_, rfl⟩
              rw [hcf] at HCF
              have HCFF := Lib.hid hcf
              have hg2 : (cf != 0) = true ∨ ((cf != 0) = false ∧ decide (cm ≤ 0) = true) := by
                by_cases e : cf = 0
                · exact .inr ⟨by simp [e], by simp; have := HCF.out.2.2 e; omega⟩
                · exact .inl (by simp [e])
              clear hcf
              rcases hg1 with hg1 | ⟨hg1, hg1'⟩
              all_goals
                go_wp2_with fail
                refine (checkBid_any A n c xs v8 (HS.out.below HE8.out) hn).mono ?_
                rintro e v9 ⟨rfl, hF9⟩
                rw [HCFF.out]
                rcases hg2 with hg2 | ⟨hg2, hg2'⟩
                all_goals
                  go_wp2_with fail
                  go_ret
                  exact ⟨rfl, Ext.trans HE8.out hF9⟩
      · have hE11 := Ext.trans HE9.out hE10
        have hg : (ea != 0) = true ∨ ((ea != 0) = false ∧ (eb != 0) = true) := by
          by_cases e : ea = 0
          · refine .inr ⟨by simp [e], ?_⟩
            have : eb ≠ 0 := fun e2 => hab ⟨e, e2⟩
            simp [this]
          · exact .inl (by simp [e])
        clear hab
        rcases hg with hg | ⟨hg, hg2⟩
        all_goals
          go_wp2_with fail
          go_ret
          exact ⟨rfl, Ext.al hE11 _⟩
    · rw [decide_eq_false h0]
      go_wp2_with fail
      refine (awake_any w4).mono ?_
      rintro e wz ⟨rfl, hEz⟩
      go_wp2_with fail
      go_ret
      exact ⟨rfl, Ext.trans (Ext.trans HE3.out hE4) hEz⟩
  · go_wp2_with fail
    refine (awake_any w3).mono ?_
    rintro e wz ⟨rfl, hEz⟩
    go_wp2_with fail
    go_ret
    exact ⟨rfl, Ext.trans HE3.out hEz⟩
end Go.Proofs.Ytppcpklnnbgcjaa
