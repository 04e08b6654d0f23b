/- Contract of pylonlaw23.got. Printed by gen_got.py. -/
import Derived.Test.YtppcpklnnbgcjaaLaw23A
import Derived.Test.YtppcpklnnbgcjaaLexF
namespace Go.Proofs.Ytppcpklnnbgcjaa
open Go.RowKit

/-- The profit of q. -/
def profit (xs : List (Int × Int)) (p q : Rat) (bid : Bool) : Rat := if bid then -(p * q - costV xs q) else p * q - costV xs q
set_option maxRecDepth 100000 in
set_option maxHeartbeats 8000000 in
theorem got_any (A : Option Addr) (n c : Nat) (xs : List (Int × Int)) (s1 : Bool) (A1 : Option Addr) (n1 c1 : Nat) (t1 : Bool) (B1 : Option Addr) (m1 d1 : Nat) (p : Rat) (s2 : Bool) (A2 : Option Addr) (n2 c2 : Nat) (t2 : Bool) (B2 : Option Addr) (m2 d2 : Nat) (q : Rat) (bid : Bool) (w : World) (hs : StepsAt w A n xs) (hn : n ≤ maxLen) (h1 : QIs w s1 A1 n1 c1 t1 B1 m1 d1 p) (h2 : QIs w s2 A2 n2 c2 t2 B2 m2 d2 q) (l1 : n1 ≤ 1000) (l2 : m1 ≤ 1000) (l3 : n2 ≤ 1000) (l4 : m2 ≤ 1000) :
    Calls Try.prog 33 #[.slice A n c, .agg #[.bool s1, .slice A1 n1 c1, .bool t1, .slice B1 m1 d1], .agg #[.bool s2, .slice A2 n2 c2, .bool t2, .slice B2 m2 d2], .bool bid] w (RetQ w (profit xs p q bid)) := by
  have HZp : Hid (Sz 1000 p) := h1.sz l1 l2 (by omega)
  have HZq : Hid (Sz 1000 q) := h2.sz l3 l4 (by omega)
  have HZc : Hid (Sz 8024 (costV xs q)) := sz_costV HZq.out
  have HS := Lib.hid hs
  have H1 := Lib.hid h1
  have H2 := Lib.hid h2
  clear hs h1 h2
  go_enter Try.func33, Try.ntmps33
  go_wp2_with fail
  obtain ⟨k1, k2, k3, hE⟩ := boxQ3 w (.bool s1) (.slice A1 n1 c1) (.bool t1) (.slice B1 m1 d1) (.bool s2) (.slice A2 n2 c2) (.bool t2) (.slice B2 m2 d2) 33
  generalize ((w.alloc (.cells #[.bool s1, .slice A1 n1 c1, .bool t1, .slice B1 m1 d1] 33)).alloc (.cells #[.bool s2, .slice A2 n2 c2, .bool t2, .slice B2 m2 d2] 33)).alloc (.cells #[.bool false, .slice none 0 0, .bool false, .slice none 0 0] 33) = w1 at *
  refine (cost_any A n c xs s2 A2 n2 c2 t2 B2 m2 d2 q w1 (HS.out.below hE) hn (H2.out.ext hE) l3 l4).mono ?_
  rintro e w2 ⟨sx, Ax, nx, cx, tx, Bx, mx, dx, rfl, hQx, hE2⟩
  obtain ⟨ae, hae⟩ : ∃ v, allocE xs q = v := ⟨_, rfl⟩
  rw [hae]
  clear hae
  have K1 := Lib.hid (k1.ext hE2)
  have K2 := Lib.hid (k2.ext hE2)
  have K3 := Lib.hid (k3.ext hE2)
  have HE := Lib.hid (Ext.trans hE hE2)
  have hl3 : w.heap.size + 1 + 1 < w2.heap.size := K3.out.2.2
  clear k1 k2 k3 hE hE2
  go_wp2_with fail
  have k9 := Cell4.new w2 _ rfl (.bool sx) (.slice Ax nx cx) (.bool tx) (.slice Bx mx dx) 33
  have hEa : Ext w2 (w2.alloc (.cells #[.bool sx, .slice Ax nx cx, .bool tx, .slice Bx mx dx] 33)) := Ext.al Ext.rfl' _
  have hd : Ext (w2.alloc (.cells #[.bool sx, .slice Ax nx cx, .bool tx, .slice Bx mx dx] 33)) (w2.alloc (.cells #[.bool sx, .slice Ax nx cx, .bool tx, .slice Bx mx dx] 33)).drew := Ext.rfl'.drew
  refine wp_region_lexF (C := InX (w2.alloc (.cells #[.bool sx, .slice Ax nx cx, .bool tx, .slice Bx mx dx] 33)).drew []) 5 [0, 1, 2, 3, 4] [6] (by kernel_rfl) (by rfl) (by rfl) (by rfl) (by kernel_rfl) (inX_self _ _) ?_
  generalize (w2.alloc (.cells #[.bool sx, .slice Ax nx cx, .bool tx, .slice Bx mx dx] 33)).drew = wd at *
  have hE2d := Ext.trans hEa hd
  have P1 := Lib.hid (K1.out.ext hE2d)
  have P2 := Lib.hid (K2.out.ext hE2d)
  have P3 := Lib.hid (K3.out.ext hE2d)
  have P9 := Lib.hid (k9.ext hd)
  have HEd := Lib.hid (Ext.trans HE.out hE2d)
  have Gx := Lib.hid (hQx.ext hE2d)
  have J1 : Hid (QArg wd s1 A1 n1 c1 t1 B1 m1 d1 p) := ⟨H1.out.ext HEd.out, by omega, by omega⟩
  have J2 : Hid (QArg wd s2 A2 n2 c2 t2 B2 m2 d2 q) := ⟨H2.out.ext HEd.out, by omega, by omega⟩
  have hl3d : w.heap.size + 1 + 1 < wd.heap.size := P3.out.2.2
  clear hEa hd hE2d k9 K1 K2 K3 HE hQx
  have fa0 := fun z : ExtX wd [] => z.cell (p := ⟨w.heap.size, 0, none⟩) P1.out.1.1 (by simp)
  have fa1 := fun z : ExtX wd [] => z.cell (p := ⟨w.heap.size, 1, none⟩) P1.out.1.2.1 (by simp)
  have fa2 := fun z : ExtX wd [] => z.cell (p := ⟨w.heap.size, 2, none⟩) P1.out.1.2.2.1 (by simp)
  have fa3 := fun z : ExtX wd [] => z.cell (p := ⟨w.heap.size, 3, none⟩) P1.out.1.2.2.2 (by simp)
  have fb0 := fun z : ExtX wd [] => z.cell (p := ⟨w.heap.size + 1, 0, none⟩) P2.out.1.1 (by simp)
  have fb1 := fun z : ExtX wd [] => z.cell (p := ⟨w.heap.size + 1, 1, none⟩) P2.out.1.2.1 (by simp)
  have fb2 := fun z : ExtX wd [] => z.cell (p := ⟨w.heap.size + 1, 2, none⟩) P2.out.1.2.2.1 (by simp)
  have fb3 := fun z : ExtX wd [] => z.cell (p := ⟨w.heap.size + 1, 3, none⟩) P2.out.1.2.2.2 (by simp)
  have fx0 := fun z : ExtX wd [] => z.cell (p := ⟨w2.heap.size, 0, none⟩) P9.out.1.1 (by simp)
  have fx1 := fun z : ExtX wd [] => z.cell (p := ⟨w2.heap.size, 1, none⟩) P9.out.1.2.1 (by simp)
  have fx2 := fun z : ExtX wd [] => z.cell (p := ⟨w2.heap.size, 2, none⟩) P9.out.1.2.2.1 (by simp)
  have fx3 := fun z : ExtX wd [] => z.cell (p := ⟨w2.heap.size, 3, none⟩) P9.out.1.2.2.2 (by simp)
  repeat (refine wpLexF_still (by rfl) (by rfl) (by rfl) ?_; go_big_quiet_step (fail); refine wpQuiet_nil ?_)
  refine wpLexF_both (by rfl) (by rfl) (by rfl) (by rfl) (by rfl) ?_ ?_
  · skip
    go_wp2_with fail
    have c13 := Cell4.new wd _ rfl (.bool false) (.slice none 0 0) (.bool false) (.slice none 0 0) 33
    have hal : Ext wd (wd.alloc (.cells #[.bool false, .slice none 0 0, .bool false, .slice none 0 0] 33)) := Ext.al Ext.rfl' _
    have hFa : Ext wd (wd.alloc (.cells #[.bool false, .slice none 0 0, .bool false, .slice none 0 0] 33)) := Ext.trans ((Ext.rfl' (w := wd))) hal
    generalize wd.alloc (.cells #[.bool false, .slice none 0 0, .bool false, .slice none 0 0] 33) = wa at *
    refine And.intro (inX_of_ext _ hFa) ?_
    have hsg : wd.heap.size ≤ wd.heap.size := ((Ext.rfl' (w := wd))).size
    have hgg : Ext wa wa := Ext.rfl'
    repeat (refine wpLexI_still (by rfl) (by rfl) ?_; go_big_quiet_step (fail); refine wpQuiet_nil ?_)
    refine wpLexI_move (by rfl) (by rfl) (by rfl) ?_
    go_wp2_with fail
    refine (qmul_any s1 A1 n1 c1 t1 B1 m1 d1 p s2 A2 n2 c2 t2 B2 m2 d2 q wa (J1.out.ext hFa) (J2.out.ext hFa)).mono ?_
    rintro e y1 ⟨su, Au, nu, cu, tu, Bu, mu, du, rfl, hQu, hG0⟩
    have HAu := Lib.hid (hQu.arg (HZp.out.mul HZq.out) (by omega))
    clear hQu
    have hFy1 : Ext wd y1 := Ext.trans hFa hG0
    have hgg := Ext.trans hgg hG0
    go_wp2_with fail
    refine And.intro (inX_of_ext _ hFy1) ?_
    repeat (refine wpLexI_still (by rfl) (by rfl) ?_; go_big_quiet_step (fail); refine wpQuiet_nil ?_)
    refine wpLexI_move (by rfl) (by rfl) (by rfl) ?_
    go_wp2_with fail
    refine (qsub_any su Au nu cu tu Bu mu du _ sx Ax nx cx tx Bx mx dx _ y1 HAu.out ((Gx.out.ext hFy1).arg HZc.out (by omega))).mono ?_
    rintro e y2 ⟨sz, Az, nz, cz, tz, Bz, mz, dz, rfl, hQz, hG1⟩
    have hbz : y1.heap.size ≤ y2.heap.size := hG1.size
    have hbw : wd.heap.size ≤ y1.heap.size := (hFy1).size
    have HZQ := Lib.hid (hQz.base (B1 := wd.heap.size) hbw)
    have hFy2 : Ext wd y2 := Ext.trans hFy1 hG1
    have hgg := Ext.trans hgg hG1
    go_wp2_with fail
    refine And.intro (inX_of_ext _ hFy2) ?_
    repeat (refine wpLexI_still (by rfl) (by rfl) ?_; go_big_quiet_step (fail); refine wpQuiet_nil ?_)
    have hzb : wd.heap.size < y1.heap.size := Nat.lt_of_lt_of_le c13.2.2 hG0.size
    obtain ⟨⟨o0, o1, o2, o3⟩, ⟨q0, q1, q2, q3⟩, ol⟩ := c13.ext hgg
    refine wpLexI_move (by rfl) (by rfl) (by rfl) ?_
    go_wp2_with fail
    refine And.intro (inX_put (p := ⟨wd.heap.size, 3, none⟩) (inX_put (p := ⟨wd.heap.size, 2, none⟩) (inX_put (p := ⟨wd.heap.size, 1, none⟩) (inX_put (p := ⟨wd.heap.size, 0, none⟩) (inX_of_ext _ hFy2) (.inr hsg) _) (.inr hsg) _) (.inr hsg) _) (.inr hsg) _) ?_
    refine wpLexI_nil ?_
    have N11 := Lib.hid ((c13.ext hgg).put4 (.bool sz) (.slice Az nz cz) (.bool tz) (.slice Bz mz dz))
    have N3 := Lib.hid ((P3.out.ext hFy2).far4 (g := wd.heap.size) (off := 0) (by omega) (.bool sz) (.slice Az nz cz) (.bool tz) (.slice Bz mz dz))
    have NE := Lib.hid (ext_put4 (Ext.trans HEd.out hFy2) (g := wd.heap.size) (by have := HEd.out.size; omega) 0 (.bool sz) (.slice Az nz cz) (.bool tz) (.slice Bz mz dz))
    have NQ := Lib.hid ((hQz.put4 (g := wd.heap.size) hzb 0 (.bool sz) (.slice Az nz cz) (.bool tz) (.slice Bz mz dz)).base (B1 := wd.heap.size) hbw)
    have HSV : Hid (wd.heap.size ≤ (put4 y2 wd.heap.size 0 (.bool sz) (.slice Az nz cz) (.bool tz) (.slice Bz mz dz)).heap.size) := by unfold Hid; rw [put4_size]; exact (hFy2).size
    unfold put4 at N11 N3 NE NQ HSV
    simp only [Nat.zero_add] at N11 N3 NE NQ HSV
    generalize ((((y2.setCell ⟨wd.heap.size, 0, none⟩ (.bool sz)).setCell ⟨wd.heap.size, 1, none⟩ (.slice Az nz cz)).setCell ⟨wd.heap.size, 2, none⟩ (.bool tz)).setCell ⟨wd.heap.size, 3, none⟩ (.slice Bz mz dz)) = v4 at *
    obtain ⟨⟨e0, e1, e2, e3⟩, _, _⟩ := N11.out
    clear fa0 fa1 fa2 fa3 fb0 fb1 fb2 fb3 fx0 fx1 fx2 fx3 o0 o1 o2 o3 q0 q1 q2 q3 ol hQz
    obtain ⟨⟨g0, g1, g2, g3⟩, ⟨i0, i1, i2, i3⟩, il⟩ := N3.out
    cases bid
    · go_wp2_with fail
      refine bodyPost_ret (v := .agg #[.bool sz, .slice Az nz cz, .bool tz, .slice Bz mz dz]) (by simp [results, Try.results33, go_sem, g0, g1, g2, g3]) rfl ?_
      exact ⟨_, _, _, _, _, _, _, _, rfl, retQ_fill (by omega) (by omega) NQ.out NE.out _ _ _ _⟩
    · go_wp2_with fail
      refine (qneg_any sz Az nz cz tz Bz mz dz _ v4 (NQ.out.arg ((HZp.out.mul HZq.out).sub HZc.out) (by omega))).mono ?_
      rintro e v5 ⟨sr, Ar, nr, cr, tr, Br, mr, dr, rfl, hQr, hR⟩
      have hsv : wd.heap.size ≤ v4.heap.size := HSV.out
      obtain ⟨⟨j0, j1, j2, j3⟩, ⟨l0, l1', l2', l3'⟩, jl⟩ := N3.out.ext hR
      have HQr := Lib.hid (hQr.base (B1 := wd.heap.size) hsv)
      have HRE := Lib.hid (Ext.trans NE.out hR)
      clear hQr hR
      go_wp2_with fail
      refine bodyPost_ret (v := .agg #[.bool sr, .slice Ar nr cr, .bool tr, .slice Br mr dr]) (by simp [results, Try.results33, go_sem, j0, j1, j2, j3]) rfl ?_
      exact ⟨_, _, _, _, _, _, _, _, rfl, retQ_fill (by omega) (by omega) HQr.out HRE.out _ _ _ _⟩
  · go_wp2_with fail
    refine (qmul_any s1 A1 n1 c1 t1 B1 m1 d1 p s2 A2 n2 c2 t2 B2 m2 d2 q wd (J1.out.ext (Ext.rfl' (w := wd))) (J2.out.ext (Ext.rfl' (w := wd)))).mono ?_
    rintro e x1 ⟨su, Au, nu, cu, tu, Bu, mu, du, rfl, hQu, hG0⟩
    have HAu := Lib.hid (hQu.arg (HZp.out.mul HZq.out) (by omega))
    clear hQu
    have hEx1 : Ext wd x1 := Ext.trans ((Ext.rfl' (w := wd))) hG0
    go_wp2_with fail
    refine And.intro (inX_of_ext _ hEx1) ?_
    repeat (refine wpLexF_still (by rfl) (by rfl) (by rfl) ?_; go_big_quiet_step (fail); refine wpQuiet_nil ?_)
    refine wpLexF_both (by rfl) (by rfl) (by rfl) (by rfl) (by rfl) ?_ ?_
    · skip
      go_wp2_with fail
      have c13 := Cell4.new x1 _ rfl (.bool false) (.slice none 0 0) (.bool false) (.slice none 0 0) 33
      have hal : Ext x1 (x1.alloc (.cells #[.bool false, .slice none 0 0, .bool false, .slice none 0 0] 33)) := Ext.al Ext.rfl' _
      have hFa : Ext wd (x1.alloc (.cells #[.bool false, .slice none 0 0, .bool false, .slice none 0 0] 33)) := Ext.trans (hEx1) hal
      generalize x1.alloc (.cells #[.bool false, .slice none 0 0, .bool false, .slice none 0 0] 33) = wa at *
      refine And.intro (inX_of_ext _ hFa) ?_
      have HAu := Lib.hid (HAu.out.ext hal)
      have hsg : wd.heap.size ≤ x1.heap.size := (hEx1).size
      have hgg : Ext wa wa := Ext.rfl'
      repeat (refine wpLexI_still (by rfl) (by rfl) ?_; go_big_quiet_step (fail); refine wpQuiet_nil ?_)
      refine wpLexI_move (by rfl) (by rfl) (by rfl) ?_
      go_wp2_with fail
      refine (qsub_any su Au nu cu tu Bu mu du _ sx Ax nx cx tx Bx mx dx _ wa HAu.out ((Gx.out.ext hFa).arg HZc.out (by omega))).mono ?_
      rintro e y2 ⟨sz, Az, nz, cz, tz, Bz, mz, dz, rfl, hQz, hG1⟩
      have hbz : wa.heap.size ≤ y2.heap.size := hG1.size
      have hbw : wd.heap.size ≤ wa.heap.size := (hFa).size
      have HZQ := Lib.hid (hQz.base (B1 := wd.heap.size) hbw)
      have hFy2 : Ext wd y2 := Ext.trans hFa hG1
      have hgg := Ext.trans hgg hG1
      go_wp2_with fail
      refine And.intro (inX_of_ext _ hFy2) ?_
      repeat (refine wpLexI_still (by rfl) (by rfl) ?_; go_big_quiet_step (fail); refine wpQuiet_nil ?_)
      have hzb : x1.heap.size < wa.heap.size := Nat.lt_of_lt_of_le c13.2.2 (Nat.le_refl _)
      obtain ⟨⟨o0, o1, o2, o3⟩, ⟨q0, q1, q2, q3⟩, ol⟩ := c13.ext hgg
      refine wpLexI_move (by rfl) (by rfl) (by rfl) ?_
      go_wp2_with fail
      refine And.intro (inX_put (p := ⟨x1.heap.size, 3, none⟩) (inX_put (p := ⟨x1.heap.size, 2, none⟩) (inX_put (p := ⟨x1.heap.size, 1, none⟩) (inX_put (p := ⟨x1.heap.size, 0, none⟩) (inX_of_ext _ hFy2) (.inr hsg) _) (.inr hsg) _) (.inr hsg) _) (.inr hsg) _) ?_
      refine wpLexI_nil ?_
      have N11 := Lib.hid ((c13.ext hgg).put4 (.bool sz) (.slice Az nz cz) (.bool tz) (.slice Bz mz dz))
      have N3 := Lib.hid ((P3.out.ext hFy2).far4 (g := x1.heap.size) (off := 0) (by omega) (.bool sz) (.slice Az nz cz) (.bool tz) (.slice Bz mz dz))
      have NE := Lib.hid (ext_put4 (Ext.trans HEd.out hFy2) (g := x1.heap.size) (by have := HEd.out.size; omega) 0 (.bool sz) (.slice Az nz cz) (.bool tz) (.slice Bz mz dz))
      have NQ := Lib.hid ((hQz.put4 (g := x1.heap.size) hzb 0 (.bool sz) (.slice Az nz cz) (.bool tz) (.slice Bz mz dz)).base (B1 := wd.heap.size) hbw)
      have HSV : Hid (wd.heap.size ≤ (put4 y2 x1.heap.size 0 (.bool sz) (.slice Az nz cz) (.bool tz) (.slice Bz mz dz)).heap.size) := by unfold Hid; rw [put4_size]; exact (hFy2).size
      unfold put4 at N11 N3 NE NQ HSV
      simp only [Nat.zero_add] at N11 N3 NE NQ HSV
      generalize ((((y2.setCell ⟨x1.heap.size, 0, none⟩ (.bool sz)).setCell ⟨x1.heap.size, 1, none⟩ (.slice Az nz cz)).setCell ⟨x1.heap.size, 2, none⟩ (.bool tz)).setCell ⟨x1.heap.size, 3, none⟩ (.slice Bz mz dz)) = v4 at *
      obtain ⟨⟨e0, e1, e2, e3⟩, _, _⟩ := N11.out
      clear fa0 fa1 fa2 fa3 fb0 fb1 fb2 fb3 fx0 fx1 fx2 fx3 o0 o1 o2 o3 q0 q1 q2 q3 ol hQz
      obtain ⟨⟨g0, g1, g2, g3⟩, ⟨i0, i1, i2, i3⟩, il⟩ := N3.out
      cases bid
      · go_wp2_with fail
        refine bodyPost_ret (v := .agg #[.bool sz, .slice Az nz cz, .bool tz, .slice Bz mz dz]) (by simp [results, Try.results33, go_sem, g0, g1, g2, g3]) rfl ?_
        exact ⟨_, _, _, _, _, _, _, _, rfl, retQ_fill (by omega) (by omega) NQ.out NE.out _ _ _ _⟩
      · go_wp2_with fail
        refine (qneg_any sz Az nz cz tz Bz mz dz _ v4 (NQ.out.arg ((HZp.out.mul HZq.out).sub HZc.out) (by omega))).mono ?_
        rintro e v5 ⟨sr, Ar, nr, cr, tr, Br, mr, dr, rfl, hQr, hR⟩
        have hsv : wd.heap.size ≤ v4.heap.size := HSV.out
        obtain ⟨⟨j0, j1, j2, j3⟩, ⟨l0, l1', l2', l3'⟩, jl⟩ := N3.out.ext hR
        have HQr := Lib.hid (hQr.base (B1 := wd.heap.size) hsv)
        have HRE := Lib.hid (Ext.trans NE.out hR)
        clear hQr hR
        go_wp2_with fail
        refine bodyPost_ret (v := .agg #[.bool sr, .slice Ar nr cr, .bool tr, .slice Br mr dr]) (by simp [results, Try.results33, go_sem, j0, j1, j2, j3]) rfl ?_
        exact ⟨_, _, _, _, _, _, _, _, rfl, retQ_fill (by omega) (by omega) HQr.out HRE.out _ _ _ _⟩
    · go_wp2_with fail
      refine (qsub_any su Au nu cu tu Bu mu du _ sx Ax nx cx tx Bx mx dx _ x1 HAu.out ((Gx.out.ext hEx1).arg HZc.out (by omega))).mono ?_
      rintro e x2 ⟨sz, Az, nz, cz, tz, Bz, mz, dz, rfl, hQz, hG1⟩
      have hbz : x1.heap.size ≤ x2.heap.size := hG1.size
      have hbw : wd.heap.size ≤ x1.heap.size := (hEx1).size
      have HZQ := Lib.hid (hQz.base (B1 := wd.heap.size) hbw)
      have hEx2 : Ext wd x2 := Ext.trans (hEx1) hG1
      go_wp2_with fail
      refine And.intro (inX_of_ext _ hEx2) ?_
      repeat (refine wpLexF_still (by rfl) (by rfl) (by rfl) ?_; go_big_quiet_step (fail); refine wpQuiet_nil ?_)
      refine wpLexF_end (by rfl) (by rfl) ?_
      go_wp2_with fail
      have c13 := Cell4.new x2 _ rfl (.bool false) (.slice none 0 0) (.bool false) (.slice none 0 0) 33
      have hal : Ext x2 (x2.alloc (.cells #[.bool false, .slice none 0 0, .bool false, .slice none 0 0] 33)) := Ext.al Ext.rfl' _
      have hFa : Ext wd (x2.alloc (.cells #[.bool false, .slice none 0 0, .bool false, .slice none 0 0] 33)) := Ext.trans (hEx2) hal
      generalize x2.alloc (.cells #[.bool false, .slice none 0 0, .bool false, .slice none 0 0] 33) = wa at *
      refine And.intro (inX_of_ext _ hFa) ?_
      have hsg : wd.heap.size ≤ x2.heap.size := (hEx2).size
      have hgg : Ext wa wa := Ext.rfl'
      repeat (refine wpLexI_still (by rfl) (by rfl) ?_; go_big_quiet_step (fail); refine wpQuiet_nil ?_)
      obtain ⟨⟨o0, o1, o2, o3⟩, ⟨q0, q1, q2, q3⟩, ol⟩ := c13.ext hgg
      refine wpLexI_move (by rfl) (by rfl) (by rfl) ?_
      go_wp2_with fail
      refine And.intro (inX_put (p := ⟨x2.heap.size, 3, none⟩) (inX_put (p := ⟨x2.heap.size, 2, none⟩) (inX_put (p := ⟨x2.heap.size, 1, none⟩) (inX_put (p := ⟨x2.heap.size, 0, none⟩) (inX_of_ext _ hFa) (.inr hsg) _) (.inr hsg) _) (.inr hsg) _) (.inr hsg) _) ?_
      refine wpLexI_nil ?_
      have N11 := Lib.hid ((c13.ext hgg).put4 (.bool sz) (.slice Az nz cz) (.bool tz) (.slice Bz mz dz))
      have N3 := Lib.hid ((P3.out.ext hFa).far4 (g := x2.heap.size) (off := 0) (by omega) (.bool sz) (.slice Az nz cz) (.bool tz) (.slice Bz mz dz))
      have NE := Lib.hid (ext_put4 (Ext.trans HEd.out hFa) (g := x2.heap.size) (by have := HEd.out.size; omega) 0 (.bool sz) (.slice Az nz cz) (.bool tz) (.slice Bz mz dz))
      have NQ := Lib.hid (HZQ.out.ext (ext_put4 hal (g := x2.heap.size) (Nat.le_refl _) 0 (.bool sz) (.slice Az nz cz) (.bool tz) (.slice Bz mz dz)))
      have HSV : Hid (wd.heap.size ≤ (put4 wa x2.heap.size 0 (.bool sz) (.slice Az nz cz) (.bool tz) (.slice Bz mz dz)).heap.size) := by unfold Hid; rw [put4_size]; exact (hFa).size
      unfold put4 at N11 N3 NE NQ HSV
      simp only [Nat.zero_add] at N11 N3 NE NQ HSV
      generalize ((((wa.setCell ⟨x2.heap.size, 0, none⟩ (.bool sz)).setCell ⟨x2.heap.size, 1, none⟩ (.slice Az nz cz)).setCell ⟨x2.heap.size, 2, none⟩ (.bool tz)).setCell ⟨x2.heap.size, 3, none⟩ (.slice Bz mz dz)) = v4 at *
      obtain ⟨⟨e0, e1, e2, e3⟩, _, _⟩ := N11.out
      clear fa0 fa1 fa2 fa3 fb0 fb1 fb2 fb3 fx0 fx1 fx2 fx3 o0 o1 o2 o3 q0 q1 q2 q3 ol hQz
      obtain ⟨⟨g0, g1, g2, g3⟩, ⟨i0, i1, i2, i3⟩, il⟩ := N3.out
      cases bid
      · go_wp2_with fail
        refine bodyPost_ret (v := .agg #[.bool sz, .slice Az nz cz, .bool tz, .slice Bz mz dz]) (by simp [results, Try.results33, go_sem, g0, g1, g2, g3]) rfl ?_
        exact ⟨_, _, _, _, _, _, _, _, rfl, retQ_fill (by omega) (by omega) NQ.out NE.out _ _ _ _⟩
      · go_wp2_with fail
        refine (qneg_any sz Az nz cz tz Bz mz dz _ v4 (NQ.out.arg ((HZp.out.mul HZq.out).sub HZc.out) (by omega))).mono ?_
        rintro e v5 ⟨sr, Ar, nr, cr, tr, Br, mr, dr, rfl, hQr, hR⟩
        have hsv : wd.heap.size ≤ v4.heap.size := HSV.out
        obtain ⟨⟨j0, j1, j2, j3⟩, ⟨l0, l1', l2', l3'⟩, jl⟩ := N3.out.ext hR
        have HQr := Lib.hid (hQr.base (B1 := wd.heap.size) hsv)
        have HRE := Lib.hid (Ext.trans NE.out hR)
        clear hQr hR
        go_wp2_with fail
        refine bodyPost_ret (v := .agg #[.bool sr, .slice Ar nr cr, .bool tr, .slice Br mr dr]) (by simp [results, Try.results33, go_sem, j0, j1, j2, j3]) rfl ?_
        exact ⟨_, _, _, _, _, _, _, _, rfl, retQ_fill (by omega) (by omega) HQr.out HRE.out _ _ _ _⟩
end Go.Proofs.Ytppcpklnnbgcjaa
