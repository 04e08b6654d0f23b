/- The walk of the law StepFillingOrder. Printed by gen_fill.py. -/
import Derived.Test.YtppcpklnnbgcjaaAwake23
import Derived.Test.YtppcpklnnbgcjaaLong23
import Derived.Test.YtppcpklnnbgcjaaFillQ
import Derived.Test.YtppcpklnnbgcjaaVarQ
namespace Go.Proofs.Ytppcpklnnbgcjaa
open Go.RowKit

theorem sign_pos_iff (q : Rat) : 0 < q.num.sign ↔ 0 < q := by
  rw [Int.sign_pos_iff, ← Rat.not_le]
  have h1 : q ≤ 0 ↔ 0 ≤ -q := by constructor <;> intro h <;> grind
  have h2 := Rat.num_nonneg (q := -q)
  rw [h1, ← h2, show (-q).num = -q.num from rfl]
  omega
theorem sign_of_zero {q : Rat} (h : q = 0) : q.num.sign = 0 := by subst h; rfl
theorem alloc_not {xs : List (Int × Int)} {q : Rat} (h0 : crv xs = 0) (h : ¬ allocE xs q = 0) : allocE xs q = 1 ∧ costV xs q = 0 ∧ (q < 0 ∨ ((total xs : Int) : Rat) < q) := by
  have hc : costV xs q = 0 := by unfold costV; rw [if_neg h]
  unfold allocE at h ⊢
  rw [if_neg (by simp [h0])] at h ⊢
  by_cases e : q < 0 ∨ ((total xs : Int) : Rat) < q
  · rw [if_pos e]; exact ⟨rfl, hc, e⟩
  · rw [if_neg e] at h; exact absurd rfl h
theorem alloc_yes {xs : List (Int × Int)} {q : Rat} (h0 : crv xs = 0) (h : allocE xs q = 0) : 0 ≤ q ∧ q ≤ ((total xs : Int) : Rat) := by
  obtain ⟨_, a0, a1⟩ := alloc_ok.1 h
  have ht : total xs = sumQ xs := by unfold total; rw [if_pos h0]
  rw [ht]
  exact ⟨a0, a1⟩
set_option maxRecDepth 100000 in
set_option maxHeartbeats 16000000 in
theorem fill_any (A : Option Addr) (n c : Nat) (xs : List (Int × Int)) (s1 : Bool) (A1 : Option Addr) (n1 c1 : Nat) (t1 : Bool) (B1 : Option Addr) (m1 d1 : Nat) (q : Rat) (w : World) (hs : StepsAt w A n xs) (hn : n ≤ maxLen) (h1 : QIs w s1 A1 n1 c1 t1 B1 m1 d1 q) :
    Calls Try.prog 9 #[.slice A n c, .agg #[.bool s1, .slice A1 n1 c1, .bool t1, .slice B1 m1 d1]] w fun e w' => e = .returned (.bool true) ∧ Ext w w' := by
  by_cases h100 : 100 < n
  · have hb : decide ((100 : Int) < (n : Int)) = true := by simp; omega
    have hb2 : decide (100 < n) = true := by simp; omega
    go_enter Try.func9, Try.ntmps9
    go_wp2_with fail
    refine (awake_any _).mono ?_
    rintro e wz ⟨rfl, hEz⟩
    go_wp2_with fail
    go_ret
    exact ⟨rfl, Ext.trans (Ext.al Ext.rfl' _) hEz⟩
  have hb : decide ((100 : Int) < (n : Int)) = false := by simp; omega
  have hb2 : decide (100 < n) = false := by simp; omega
  have HS := Lib.hid hs
  have H1 := Lib.hid h1
  have HBL : Hid (n1 ≤ maxLen ∧ m1 ≤ maxLen) := by
    obtain ⟨z, y, ⟨_, _, a1, a2, _⟩, ⟨_, _, a3, a4, _⟩, _⟩ := h1
    exact ⟨by omega, by omega⟩
  clear hs h1
  go_enter Try.func9, Try.ntmps9
  go_wp2_with fail
  have k1 := Cell4.new w _ rfl (.bool s1) (.slice A1 n1 c1) (.bool t1) (.slice B1 m1 d1) 33
  have hE : Ext w (w.alloc (.cells #[.bool s1, .slice A1 n1 c1, .bool t1, .slice B1 m1 d1] 33)) := Ext.al Ext.rfl' _
  have hbk := Blk.new (w.alloc (.cells #[.bool s1, .slice A1 n1 c1, .bool t1, .slice B1 m1 d1] 33)) 33 #[.bool s1, .slice A1 n1 c1, .bool t1, .slice B1 m1 d1]
  have hE1 : Ext (w.alloc (.cells #[.bool s1, .slice A1 n1 c1, .bool t1, .slice B1 m1 d1] 33)) ((w.alloc (.cells #[.bool s1, .slice A1 n1 c1, .bool t1, .slice B1 m1 d1] 33)).alloc (.cells #[.bool s1, .slice A1 n1 c1, .bool t1, .slice B1 m1 d1] 33)) := Ext.al Ext.rfl' _
  rw [show (w.alloc (.cells #[.bool s1, .slice A1 n1 c1, .bool t1, .slice B1 m1 d1] 33)).heap.size = w.heap.size + 1 by simp] at hbk
  generalize (w.alloc (.cells #[.bool s1, .slice A1 n1 c1, .bool t1, .slice B1 m1 d1] 33)).alloc (.cells #[.bool s1, .slice A1 n1 c1, .bool t1, .slice B1 m1 d1] 33) = wb2 at *
  generalize w.alloc (.cells #[.bool s1, .slice A1 n1 c1, .bool t1, .slice B1 m1 d1] 33) = wb1 at *
  have Ewb1 := Lib.hid hE
  clear hE
  have K1 := Lib.hid k1
  clear k1
  have Ewb2 := Lib.hid hE1
  clear hE1
  refine (long_any (w.heap.size + 1) 1 1 (fun _ => (n1, m1)) wb2 ?_ (by omega) ?_).mono ?_
  · intro i hi
    have : i = 0 := by omega
    subst this
    exact ⟨A1, c1, B1, d1, by rw [hbk.cell]; rfl, by rw [hbk.cell]; rfl⟩
  · intro i
    exact HBL.out
  rintro e w1 ⟨⟨bl, rfl, hbl⟩, hE⟩
  have Ew1 := Lib.hid hE
  clear hE
  have HLN : Hid (bl = false → n1 ≤ 6 ∧ m1 ≤ 6) := fun e => hbl.1 e 0 (by omega)
  clear hbk hbl HBL
  cases bl
  rotate_left
  · go_wp2_with fail
    refine (awake_any w1).mono ?_
    rintro e wz ⟨rfl, hEz⟩
    go_wp2_with fail
    go_ret
    exact ⟨rfl, Ext.trans (Ext.trans Ewb1.out (Ext.trans Ewb2.out Ew1.out)) hEz⟩
  obtain ⟨ln1, lm1⟩ := HLN.out rfl
  clear HLN
  have HZ1 : Hid (Sz 6 q) := H1.out.sz (by omega) (by omega) (by omega)
  go_wp2_with fail
  refine (curve_any A n c xs w1 (HS.out.below (Ext.trans Ewb1.out (Ext.trans Ewb2.out Ew1.out))) hn).mono ?_
  rintro e w2 ⟨rfl, hE⟩
  have Ew2 := Lib.hid hE
  clear hE
  by_cases h0 : crv xs = 0
  rotate_left
  · rw [decide_eq_false h0]
    go_wp2_with fail
    refine (awake_any w2).mono ?_
    rintro e wz ⟨rfl, hEz⟩
    go_wp2_with fail
    go_ret
    exact ⟨rfl, Ext.trans (Ext.trans Ewb1.out (Ext.trans Ewb2.out (Ext.trans Ew1.out Ew2.out))) hEz⟩
  rw [decide_eq_true h0]
  have H0 := Lib.hid h0
  clear h0
  go_wp2_with fail
  refine (awake_any w2).mono ?_
  rintro e w3 ⟨rfl, hE⟩
  have Ew3 := Lib.hid hE
  clear hE
  obtain ⟨⟨x10, x11, x12, x13⟩, -, z1⟩ := (K1.out.ext (Ext.trans Ewb2.out (Ext.trans Ew1.out (Ext.trans Ew2.out Ew3.out))))
  go_wp2_with fail
  clear x10 x11 x12 x13 z1
  refine (allocate_any A n c xs s1 A1 n1 c1 t1 B1 m1 d1 q w3 (HS.out.below (Ext.trans Ewb1.out (Ext.trans Ewb2.out (Ext.trans Ew1.out (Ext.trans Ew2.out Ew3.out))))) hn (H1.out.ext (Ext.trans Ewb1.out (Ext.trans Ewb2.out (Ext.trans Ew1.out (Ext.trans Ew2.out Ew3.out))))) (by omega) (by omega)).mono ?_
  rintro e w4 ⟨hE, v, rfl, hv1, hv2⟩
  have Ew4 := Lib.hid hE
  clear hE
  have HTB := Lib.hid (total_bd xs)
  by_cases hm : allocE xs q = 0
  rotate_left
  · obtain ⟨ha1, hcz, hcase⟩ := alloc_not H0.out hm
    have hv := hv1 hm
    subst hv
    clear hv1 hv2 hm
    have HA := Lib.hid ha1
    have HCZ := Lib.hid hcz
    clear ha1 hcz
    rw [HA.out]
    obtain ⟨⟨x10, x11, x12, x13⟩, -, z1⟩ := (K1.out.ext (Ext.trans Ewb2.out (Ext.trans Ew1.out (Ext.trans Ew2.out (Ext.trans Ew3.out Ew4.out)))))
    go_wp2_with fail
    clear x10 x11 x12 x13 z1
    refine (cost_any A n c xs s1 A1 n1 c1 t1 B1 m1 d1 q w4 (HS.out.below (Ext.trans Ewb1.out (Ext.trans Ewb2.out (Ext.trans Ew1.out (Ext.trans Ew2.out (Ext.trans Ew3.out Ew4.out)))))) hn (H1.out.ext (Ext.trans Ewb1.out (Ext.trans Ewb2.out (Ext.trans Ew1.out (Ext.trans Ew2.out (Ext.trans Ew3.out Ew4.out)))))) (by omega) (by omega)).mono ?_
    rintro e w5 ⟨sx, Ax, nx, cx, tx, Bx, mx, dx, rfl, hQ, hE⟩
    have Ew5 := Lib.hid hE
    clear hE
    have Qx := Lib.hid hQ
    clear hQ
    rw [HA.out]
    have HZx : Hid (Sz 8024 (costV xs q)) := sz_costV (HZ1.out.mono (by omega))
    obtain ⟨⟨x10, x11, x12, x13⟩, -, z1⟩ := (K1.out.ext (Ext.trans Ewb2.out (Ext.trans Ew1.out (Ext.trans Ew2.out (Ext.trans Ew3.out (Ext.trans Ew4.out Ew5.out))))))
    go_wp2_with fail
    clear x10 x11 x12 x13 z1
    have kw6 := Cell4.new w5 _ rfl (.bool sx) (.slice Ax nx cx) (.bool tx) (.slice Bx mx dx) 33
    have hE : Ext w5 (w5.alloc (.cells #[.bool sx, .slice Ax nx cx, .bool tx, .slice Bx mx dx] 33)) := Ext.al Ext.rfl' _
    generalize w5.alloc (.cells #[.bool sx, .slice Ax nx cx, .bool tx, .slice Bx mx dx] 33) = w6 at *
    have Ew6 := Lib.hid hE
    clear hE
    have Kx := Lib.hid kw6
    clear kw6
    have HSN := Lib.hid (sign_neg_iff q)
    by_cases hneg : q < 0
    · have HNG := Lib.hid hneg
      clear hneg hcase
      refine wp_region_lexS (C := InX w6.drew []) (by kernel_rfl) (by kernel_rfl) (inX_self _ _) ?_
      have hE : Ext w6 w6.drew := Ext.rfl'.drew
      generalize w6.drew = w7 at *
      have Ew7 := Lib.hid hE
      clear hE
      have f10 := fun z : ExtX w7 [] => z.cell (p := ⟨w.heap.size, 0, none⟩) (K1.out.ext (Ext.trans Ewb2.out (Ext.trans Ew1.out (Ext.trans Ew2.out (Ext.trans Ew3.out (Ext.trans Ew4.out (Ext.trans Ew5.out (Ext.trans Ew6.out Ew7.out)))))))).1.1 (by simp)
      have f11 := fun z : ExtX w7 [] => z.cell (p := ⟨w.heap.size, 1, none⟩) (K1.out.ext (Ext.trans Ewb2.out (Ext.trans Ew1.out (Ext.trans Ew2.out (Ext.trans Ew3.out (Ext.trans Ew4.out (Ext.trans Ew5.out (Ext.trans Ew6.out Ew7.out)))))))).1.2.1 (by simp)
      have f12 := fun z : ExtX w7 [] => z.cell (p := ⟨w.heap.size, 2, none⟩) (K1.out.ext (Ext.trans Ewb2.out (Ext.trans Ew1.out (Ext.trans Ew2.out (Ext.trans Ew3.out (Ext.trans Ew4.out (Ext.trans Ew5.out (Ext.trans Ew6.out Ew7.out)))))))).1.2.2.1 (by simp)
      have f13 := fun z : ExtX w7 [] => z.cell (p := ⟨w.heap.size, 3, none⟩) (K1.out.ext (Ext.trans Ewb2.out (Ext.trans Ew1.out (Ext.trans Ew2.out (Ext.trans Ew3.out (Ext.trans Ew4.out (Ext.trans Ew5.out (Ext.trans Ew6.out Ew7.out)))))))).1.2.2.2 (by simp)
      repeat (refine lexAt_still (by rfl) ?_; go_big_quiet_step (fail); refine wpQuiet_nil ?_)
      refine lexAt_move (by rfl) (by kernel_rfl) ?_
      go_wp2_with fail
      refine (qsign_any s1 A1 n1 c1 t1 B1 m1 d1 _ w7 (H1.out.ext (Ext.trans Ewb1.out (Ext.trans Ewb2.out (Ext.trans Ew1.out (Ext.trans Ew2.out (Ext.trans Ew3.out (Ext.trans Ew4.out (Ext.trans Ew5.out (Ext.trans Ew6.out Ew7.out)))))))))).mono ?_
      rintro e w8 ⟨rfl, hE⟩
      have Ew8 := Lib.hid hE
      clear hE
      obtain ⟨sg, hsg⟩ : ∃ x, Int.sign (Rat.num (q)) = x := ⟨_, rfl⟩
      rw [hsg]
      have Hsg := Lib.hid hsg
      clear hsg
      have hb3 : decide (0 ≤ sg) = false := by rw [← Hsg.out]; exact decide_eq_false (fun e => absurd (HSN.out.2 HNG.out) (Int.not_lt.2 e))
      go_wp2_with fail
      refine And.intro (inX_of_ext _ Ew8.out) ?_
      repeat (refine lexAt_still (by rfl) ?_; go_big_quiet_step (fail); refine wpQuiet_nil ?_)
      refine lexAt_skip (by kernel_rfl) ?_
      simp only [Act.put, List.setIfInBounds_toArray, List.set_cons_succ, List.set_cons_zero]
      repeat (refine lexAt_still (by rfl) ?_; go_big_quiet_step (fail); refine wpQuiet_nil ?_)
      refine lexAt_skip (by kernel_rfl) ?_
      simp only [Act.put, List.setIfInBounds_toArray, List.set_cons_succ, List.set_cons_zero]
      repeat (refine lexAt_still (by rfl) ?_; go_big_quiet_step (fail); refine wpQuiet_nil ?_)
      refine lexAt_skip (by kernel_rfl) ?_
      simp only [Act.put, List.setIfInBounds_toArray, List.set_cons_succ, List.set_cons_zero]
      repeat (refine lexAt_still (by rfl) ?_; go_big_quiet_step (fail); refine wpQuiet_nil ?_)
      refine lexAt_nil ?_
      clear f10 f11 f12 f13
      obtain ⟨⟨xx0, xx1, xx2, xx3⟩, -, zx⟩ := (Kx.out.ext (Ext.trans Ew7.out Ew8.out))
      go_wp2_with fail
      clear xx0 xx1 xx2 xx3 zx
      refine (qsign_any sx Ax nx cx tx Bx mx dx _ w8 (Qx.out.ext (Ext.trans Ew6.out (Ext.trans Ew7.out Ew8.out))).is).mono ?_
      rintro e w9 ⟨rfl, hE⟩
      have Ew9 := Lib.hid hE
      clear hE
      rw [sign_of_zero HCZ.out]
      go_wp2_with fail
      go_ret
      exact ⟨rfl, (Ext.trans Ewb1.out (Ext.trans Ewb2.out (Ext.trans Ew1.out (Ext.trans Ew2.out (Ext.trans Ew3.out (Ext.trans Ew4.out (Ext.trans Ew5.out (Ext.trans Ew6.out (Ext.trans Ew7.out (Ext.trans Ew8.out Ew9.out))))))))))⟩
    · have HGT : Hid (((total xs : Int) : Rat) < q) := hcase.resolve_left hneg
      have HNG := Lib.hid hneg
      clear hneg hcase
      refine wp_region_lexS (C := InX w6.drew []) (by kernel_rfl) (by kernel_rfl) (inX_self _ _) ?_
      have hE : Ext w6 w6.drew := Ext.rfl'.drew
      generalize w6.drew = w10 at *
      have Ew10 := Lib.hid hE
      clear hE
      have f10 := fun z : ExtX w10 [] => z.cell (p := ⟨w.heap.size, 0, none⟩) (K1.out.ext (Ext.trans Ewb2.out (Ext.trans Ew1.out (Ext.trans Ew2.out (Ext.trans Ew3.out (Ext.trans Ew4.out (Ext.trans Ew5.out (Ext.trans Ew6.out Ew10.out)))))))).1.1 (by simp)
      have f11 := fun z : ExtX w10 [] => z.cell (p := ⟨w.heap.size, 1, none⟩) (K1.out.ext (Ext.trans Ewb2.out (Ext.trans Ew1.out (Ext.trans Ew2.out (Ext.trans Ew3.out (Ext.trans Ew4.out (Ext.trans Ew5.out (Ext.trans Ew6.out Ew10.out)))))))).1.2.1 (by simp)
      have f12 := fun z : ExtX w10 [] => z.cell (p := ⟨w.heap.size, 2, none⟩) (K1.out.ext (Ext.trans Ewb2.out (Ext.trans Ew1.out (Ext.trans Ew2.out (Ext.trans Ew3.out (Ext.trans Ew4.out (Ext.trans Ew5.out (Ext.trans Ew6.out Ew10.out)))))))).1.2.2.1 (by simp)
      have f13 := fun z : ExtX w10 [] => z.cell (p := ⟨w.heap.size, 3, none⟩) (K1.out.ext (Ext.trans Ewb2.out (Ext.trans Ew1.out (Ext.trans Ew2.out (Ext.trans Ew3.out (Ext.trans Ew4.out (Ext.trans Ew5.out (Ext.trans Ew6.out Ew10.out)))))))).1.2.2.2 (by simp)
      repeat (refine lexAt_still (by rfl) ?_; go_big_quiet_step (fail); refine wpQuiet_nil ?_)
      refine lexAt_move (by rfl) (by kernel_rfl) ?_
      go_wp2_with fail
      refine (qsign_any s1 A1 n1 c1 t1 B1 m1 d1 _ w10 (H1.out.ext (Ext.trans Ewb1.out (Ext.trans Ewb2.out (Ext.trans Ew1.out (Ext.trans Ew2.out (Ext.trans Ew3.out (Ext.trans Ew4.out (Ext.trans Ew5.out (Ext.trans Ew6.out Ew10.out)))))))))).mono ?_
      rintro e w11 ⟨rfl, hE⟩
      have Ew11 := Lib.hid hE
      clear hE
      obtain ⟨sg, hsg⟩ : ∃ x, Int.sign (Rat.num (q)) = x := ⟨_, rfl⟩
      rw [hsg]
      have Hsg := Lib.hid hsg
      clear hsg
      have hb3 : decide (0 ≤ sg) = true := by rw [← Hsg.out]; exact decide_eq_true <| Int.not_lt.1 (fun e => HNG.out (HSN.out.1 e))
      go_wp2_with fail
      refine And.intro (inX_of_ext _ Ew11.out) ?_
      repeat (refine lexAt_still (by rfl) ?_; go_big_quiet_step (fail); refine wpQuiet_nil ?_)
      refine lexAt_move (by rfl) (by kernel_rfl) ?_
      go_wp2_with fail
      refine (sum_any A n c xs w11 (HS.out.below (Ext.trans Ewb1.out (Ext.trans Ewb2.out (Ext.trans Ew1.out (Ext.trans Ew2.out (Ext.trans Ew3.out (Ext.trans Ew4.out (Ext.trans Ew5.out (Ext.trans Ew6.out (Ext.trans Ew10.out Ew11.out)))))))))) hn).mono ?_
      rintro e w12 ⟨rfl, hE⟩
      have Ew12 := Lib.hid hE
      clear hE
      obtain ⟨tt, htt⟩ : ∃ x, total xs = x := ⟨_, rfl⟩
      rw [htt]
      have Htt := Lib.hid htt
      clear htt
      go_wp2_with fail
      refine And.intro (inX_of_ext _ (Ext.trans Ew11.out Ew12.out)) ?_
      repeat (refine lexAt_still (by rfl) ?_; go_big_quiet_step (fail); refine wpQuiet_nil ?_)
      have ht1 : 0 ≤ tt := by rw [← Htt.out]; exact HTB.out.1
      have ht2 : tt ≤ 3000000 := by rw [← Htt.out]; exact HTB.out.2
      refine lexAt_move (by rfl) (by kernel_rfl) ?_
      go_wp2_with fail
      refine (qfrom_any tt w12 ⟨by omega, by omega⟩).mono ?_
      rintro e w13 ⟨sb, Ab, nb, cb, tb, Bb, mb, db, rfl, hQ, hE⟩
      have Ew13 := Lib.hid hE
      clear hE
      have Qb := Lib.hid hQ
      clear hQ
      go_wp2_with fail
      refine And.intro (inX_of_ext _ (Ext.trans Ew11.out (Ext.trans Ew12.out Ew13.out))) ?_
      repeat (refine lexAt_still (by rfl) ?_; go_big_quiet_step (fail); refine wpQuiet_nil ?_)
      refine lexAt_move (by rfl) (by kernel_rfl) ?_
      go_wp2_with fail
      refine (qcmp_any s1 A1 n1 c1 t1 B1 m1 d1 _ sb Ab nb cb tb Bb mb db _ w13 ⟨(H1.out.ext (Ext.trans Ewb1.out (Ext.trans Ewb2.out (Ext.trans Ew1.out (Ext.trans Ew2.out (Ext.trans Ew3.out (Ext.trans Ew4.out (Ext.trans Ew5.out (Ext.trans Ew6.out (Ext.trans Ew10.out (Ext.trans Ew11.out (Ext.trans Ew12.out Ew13.out)))))))))))), by omega, by omega⟩ (Qb.out.arg (sz_small (z := tt) (by omega) (by omega)) (by omega))).mono ?_
      rintro e w14 ⟨rfl, hE⟩
      have Ew14 := Lib.hid hE
      clear hE
      obtain ⟨cm, hcm⟩ : ∃ x, cmpQ (q) (((tt : Int) : Rat)) = x := ⟨_, rfl⟩
      rw [hcm]
      have Hcm := Lib.hid hcm
      clear hcm
      have hb4 : decide (cm ≤ 0) = false := by
        have : 0 < cm := by rw [← Hcm.out, ← Htt.out]; exact (cmpQ_pos _ _).2 HGT.out
        simp; omega
      go_wp2_with fail
      refine And.intro (inX_of_ext _ (Ext.trans Ew11.out (Ext.trans Ew12.out (Ext.trans Ew13.out Ew14.out)))) ?_
      repeat (refine lexAt_still (by rfl) ?_; go_big_quiet_step (fail); refine wpQuiet_nil ?_)
      refine lexAt_nil ?_
      clear f10 f11 f12 f13
      obtain ⟨⟨xx0, xx1, xx2, xx3⟩, -, zx⟩ := (Kx.out.ext (Ext.trans Ew10.out (Ext.trans Ew11.out (Ext.trans Ew12.out (Ext.trans Ew13.out Ew14.out)))))
      go_wp2_with fail
      clear xx0 xx1 xx2 xx3 zx
      refine (qsign_any sx Ax nx cx tx Bx mx dx _ w14 (Qx.out.ext (Ext.trans Ew6.out (Ext.trans Ew10.out (Ext.trans Ew11.out (Ext.trans Ew12.out (Ext.trans Ew13.out Ew14.out)))))).is).mono ?_
      rintro e w15 ⟨rfl, hE⟩
      have Ew15 := Lib.hid hE
      clear hE
      rw [sign_of_zero HCZ.out]
      go_wp2_with fail
      go_ret
      exact ⟨rfl, (Ext.trans Ewb1.out (Ext.trans Ewb2.out (Ext.trans Ew1.out (Ext.trans Ew2.out (Ext.trans Ew3.out (Ext.trans Ew4.out (Ext.trans Ew5.out (Ext.trans Ew6.out (Ext.trans Ew10.out (Ext.trans Ew11.out (Ext.trans Ew12.out (Ext.trans Ew13.out (Ext.trans Ew14.out Ew15.out)))))))))))))⟩
  obtain ⟨gp, rfl, hgp, hP⟩ := hv2 hm
  obtain ⟨hl1, hl3, hr⟩ := crv_range H0.out
  have HL := Lib.hid HS.out.1
  have hn3 : n ≤ 3 := by rw [← HL.out]; exact hl3
  have hn1 : 1 ≤ n := by rw [← HL.out]; exact hl1
  have HP := Lib.hid hP
  have HR := Lib.hid hr
  have HY := Lib.hid (alloc_yes H0.out hm)
  have HV : Hid (costV xs q = costTo q xs n) := by unfold Hid costV; rw [if_pos hm, HL.out]
  have HTA : Hid (takenTo q xs n = q) := by unfold Hid; rw [← HL.out]; exact taken_all hm
  have HM := Lib.hid hm
  rw [hm, HL.out]
  rw [HL.out] at HP
  obtain ⟨b, off, rfl, hlb, hcell⟩ := HS.out.2 (by omega)
  have HC := Lib.hid hcell
  clear hv1 hv2 hm hP hl1 hl3 hr hcell hgp
  obtain ⟨⟨x10, x11, x12, x13⟩, -, z1⟩ := (K1.out.ext (Ext.trans Ewb2.out (Ext.trans Ew1.out (Ext.trans Ew2.out (Ext.trans Ew3.out Ew4.out)))))
  go_wp2_with fail
  clear x10 x11 x12 x13 z1
  have HSN := Lib.hid (sign_neg_iff q)
  refine (cost_any (some ⟨b, off, none⟩) n c xs s1 A1 n1 c1 t1 B1 m1 d1 q w4 (HS.out.below (Ext.trans Ewb1.out (Ext.trans Ewb2.out (Ext.trans Ew1.out (Ext.trans Ew2.out (Ext.trans Ew3.out Ew4.out)))))) hn (H1.out.ext (Ext.trans Ewb1.out (Ext.trans Ewb2.out (Ext.trans Ew1.out (Ext.trans Ew2.out (Ext.trans Ew3.out Ew4.out)))))) (by omega) (by omega)).mono ?_
  rintro e w16 ⟨sx, Ax, nx, cx, tx, Bx, mx, dx, rfl, hQ, hE⟩
  have Ew16 := Lib.hid hE
  clear hE
  have Qx := Lib.hid hQ
  clear hQ
  rw [HM.out]
  have HZx : Hid (Sz 8024 (costV xs q)) := sz_costV (HZ1.out.mono (by omega))
  obtain ⟨⟨x10, x11, x12, x13⟩, -, z1⟩ := (K1.out.ext (Ext.trans Ewb2.out (Ext.trans Ew1.out (Ext.trans Ew2.out (Ext.trans Ew3.out (Ext.trans Ew4.out Ew16.out))))))
  go_wp2_with fail
  clear x10 x11 x12 x13 z1
  have kw17 := Cell4.new w16 _ rfl (.bool sx) (.slice Ax nx cx) (.bool tx) (.slice Bx mx dx) 33
  have hE : Ext w16 (w16.alloc (.cells #[.bool sx, .slice Ax nx cx, .bool tx, .slice Bx mx dx] 33)) := Ext.al Ext.rfl' _
  generalize w16.alloc (.cells #[.bool sx, .slice Ax nx cx, .bool tx, .slice Bx mx dx] 33) = w17 at *
  have Ew17 := Lib.hid hE
  clear hE
  have Kx := Lib.hid kw17
  clear kw17
  refine wp_region_lexS (C := InX w17.drew []) (by kernel_rfl) (by kernel_rfl) (inX_self _ _) ?_
  have hE : Ext w17 w17.drew := Ext.rfl'.drew
  generalize w17.drew = w18 at *
  have Ew18 := Lib.hid hE
  clear hE
  have f10 := fun z : ExtX w18 [] => z.cell (p := ⟨w.heap.size, 0, none⟩) (K1.out.ext (Ext.trans Ewb2.out (Ext.trans Ew1.out (Ext.trans Ew2.out (Ext.trans Ew3.out (Ext.trans Ew4.out (Ext.trans Ew16.out (Ext.trans Ew17.out Ew18.out)))))))).1.1 (by simp)
  have f11 := fun z : ExtX w18 [] => z.cell (p := ⟨w.heap.size, 1, none⟩) (K1.out.ext (Ext.trans Ewb2.out (Ext.trans Ew1.out (Ext.trans Ew2.out (Ext.trans Ew3.out (Ext.trans Ew4.out (Ext.trans Ew16.out (Ext.trans Ew17.out Ew18.out)))))))).1.2.1 (by simp)
  have f12 := fun z : ExtX w18 [] => z.cell (p := ⟨w.heap.size, 2, none⟩) (K1.out.ext (Ext.trans Ewb2.out (Ext.trans Ew1.out (Ext.trans Ew2.out (Ext.trans Ew3.out (Ext.trans Ew4.out (Ext.trans Ew16.out (Ext.trans Ew17.out Ew18.out)))))))).1.2.2.1 (by simp)
  have f13 := fun z : ExtX w18 [] => z.cell (p := ⟨w.heap.size, 3, none⟩) (K1.out.ext (Ext.trans Ewb2.out (Ext.trans Ew1.out (Ext.trans Ew2.out (Ext.trans Ew3.out (Ext.trans Ew4.out (Ext.trans Ew16.out (Ext.trans Ew17.out Ew18.out)))))))).1.2.2.2 (by simp)
  repeat (refine lexAt_still (by rfl) ?_; go_big_quiet_step (fail); refine wpQuiet_nil ?_)
  refine lexAt_move (by rfl) (by kernel_rfl) ?_
  go_wp2_with fail
  refine (qsign_any s1 A1 n1 c1 t1 B1 m1 d1 _ w18 (H1.out.ext (Ext.trans Ewb1.out (Ext.trans Ewb2.out (Ext.trans Ew1.out (Ext.trans Ew2.out (Ext.trans Ew3.out (Ext.trans Ew4.out (Ext.trans Ew16.out (Ext.trans Ew17.out Ew18.out)))))))))).mono ?_
  rintro e w19 ⟨rfl, hE⟩
  have Ew19 := Lib.hid hE
  clear hE
  obtain ⟨sg, hsg⟩ : ∃ x, Int.sign (Rat.num (q)) = x := ⟨_, rfl⟩
  rw [hsg]
  have Hsg := Lib.hid hsg
  clear hsg
  have hb3 : decide (0 ≤ sg) = true := by rw [← Hsg.out]; exact decide_eq_true <| Int.not_lt.1 (fun e => Rat.not_lt.2 HY.out.1 (HSN.out.1 e))
  go_wp2_with fail
  refine And.intro (inX_of_ext _ Ew19.out) ?_
  repeat (refine lexAt_still (by rfl) ?_; go_big_quiet_step (fail); refine wpQuiet_nil ?_)
  refine lexAt_move (by rfl) (by kernel_rfl) ?_
  go_wp2_with fail
  refine (sum_any (some ⟨b, off, none⟩) n c xs w19 (HS.out.below (Ext.trans Ewb1.out (Ext.trans Ewb2.out (Ext.trans Ew1.out (Ext.trans Ew2.out (Ext.trans Ew3.out (Ext.trans Ew4.out (Ext.trans Ew16.out (Ext.trans Ew17.out (Ext.trans Ew18.out Ew19.out)))))))))) hn).mono ?_
  rintro e w20 ⟨rfl, hE⟩
  have Ew20 := Lib.hid hE
  clear hE
  obtain ⟨tt, htt⟩ : ∃ x, total xs = x := ⟨_, rfl⟩
  rw [htt]
  have Htt := Lib.hid htt
  clear htt
  go_wp2_with fail
  refine And.intro (inX_of_ext _ (Ext.trans Ew19.out Ew20.out)) ?_
  repeat (refine lexAt_still (by rfl) ?_; go_big_quiet_step (fail); refine wpQuiet_nil ?_)
  have ht1 : 0 ≤ tt := by rw [← Htt.out]; exact HTB.out.1
  have ht2 : tt ≤ 3000000 := by rw [← Htt.out]; exact HTB.out.2
  refine lexAt_move (by rfl) (by kernel_rfl) ?_
  go_wp2_with fail
  refine (qfrom_any tt w20 ⟨by omega, by omega⟩).mono ?_
  rintro e w21 ⟨sb, Ab, nb, cb, tb, Bb, mb, db, rfl, hQ, hE⟩
  have Ew21 := Lib.hid hE
  clear hE
  have Qb := Lib.hid hQ
  clear hQ
  go_wp2_with fail
  refine And.intro (inX_of_ext _ (Ext.trans Ew19.out (Ext.trans Ew20.out Ew21.out))) ?_
  repeat (refine lexAt_still (by rfl) ?_; go_big_quiet_step (fail); refine wpQuiet_nil ?_)
  refine lexAt_move (by rfl) (by kernel_rfl) ?_
  go_wp2_with fail
  refine (qcmp_any s1 A1 n1 c1 t1 B1 m1 d1 _ sb Ab nb cb tb Bb mb db _ w21 ⟨(H1.out.ext (Ext.trans Ewb1.out (Ext.trans Ewb2.out (Ext.trans Ew1.out (Ext.trans Ew2.out (Ext.trans Ew3.out (Ext.trans Ew4.out (Ext.trans Ew16.out (Ext.trans Ew17.out (Ext.trans Ew18.out (Ext.trans Ew19.out (Ext.trans Ew20.out Ew21.out)))))))))))), by omega, by omega⟩ (Qb.out.arg (sz_small (z := tt) (by omega) (by omega)) (by omega))).mono ?_
  rintro e w22 ⟨rfl, hE⟩
  have Ew22 := Lib.hid hE
  clear hE
  obtain ⟨cm, hcm⟩ : ∃ x, cmpQ (q) (((tt : Int) : Rat)) = x := ⟨_, rfl⟩
  rw [hcm]
  have Hcm := Lib.hid hcm
  clear hcm
  have hb4 : decide (cm ≤ 0) = true := by
    have : ¬ 0 < cm := by rw [← Hcm.out, ← Htt.out]; exact fun e => Rat.not_lt.2 HY.out.2 ((cmpQ_pos _ _).1 e)
    simp; omega
  go_wp2_with fail
  refine And.intro (inX_of_ext _ (Ext.trans Ew19.out (Ext.trans Ew20.out (Ext.trans Ew21.out Ew22.out)))) ?_
  repeat (refine lexAt_still (by rfl) ?_; go_big_quiet_step (fail); refine wpQuiet_nil ?_)
  refine lexAt_nil ?_
  clear f10 f11 f12 f13
  go_wp2_with fail
  refine (qfrom_any 0 w22 ⟨by omega, by omega⟩).mono ?_
  rintro e w23 ⟨sa, Aa, na, ca, ta, Ba, ma, da, rfl, hQ, hE⟩
  have Ew23 := Lib.hid hE
  clear hE
  have Qa := Lib.hid hQ
  clear hQ
  go_wp2_with fail
  refine (qfrom_any 0 w23 ⟨by omega, by omega⟩).mono ?_
  rintro e w24 ⟨sy, Ay, ny, cy, ty, By, my, dy, rfl, hQ, hE⟩
  have Ew24 := Lib.hid hE
  clear hE
  have Qy := Lib.hid hQ
  clear hQ
  go_wp2_with fail
  have k0 := Cell4.new (w24) (w24.heap.size) (by simp) (.bool sa) (.slice Aa na ca) (.bool ta) (.slice Ba ma da) 33
  have k1 := Cell4.new ((w24).alloc (.cells #[.bool sa, .slice Aa na ca, .bool ta, .slice Ba ma da] 33)) (w24.heap.size + 1) (by simp) (.bool sy) (.slice Ay ny cy) (.bool ty) (.slice By my dy) 33
  have hE : Ext w24 (((w24).alloc (.cells #[.bool sa, .slice Aa na ca, .bool ta, .slice Ba ma da] 33)).alloc (.cells #[.bool sy, .slice Ay ny cy, .bool ty, .slice By my dy] 33)) := (Ext.al (Ext.al Ext.rfl' _) _)
  have k0 := k0.ext (show Ext ((w24).alloc (.cells #[.bool sa, .slice Aa na ca, .bool ta, .slice Ba ma da] 33)) (((w24).alloc (.cells #[.bool sa, .slice Aa na ca, .bool ta, .slice Ba ma da] 33)).alloc (.cells #[.bool sy, .slice Ay ny cy, .bool ty, .slice By my dy] 33)) from (Ext.al Ext.rfl' _))
  generalize ((w24).alloc (.cells #[.bool sa, .slice Aa na ca, .bool ta, .slice Ba ma da] 33)).alloc (.cells #[.bool sy, .slice Ay ny cy, .bool ty, .slice By my dy] 33) = w25 at *
  have Ew25 := Lib.hid hE
  clear hE
  have Ks := Lib.hid k0
  clear k0
  have Kt := Lib.hid k1
  clear k1
  have HAWa : Hid (∀ x ∈ [w24.heap.size, w24.heap.size + 1], Away x (x + 1) Aa na ∧ Away x (x + 1) Ba ma) := fun x hx => by
      simp only [List.mem_cons, List.not_mem_nil, or_false] at hx
      rcases hx with rfl | rfl
      · exact (Qa.out.span (.inr (Nat.le_trans Ew24.out.size (Nat.le_refl _))))
      · exact (Qa.out.span (.inr (Nat.le_trans Ew24.out.size (by omega))))
  have HAWy : Hid (∀ x ∈ [w24.heap.size, w24.heap.size + 1], Away x (x + 1) Ay ny ∧ Away x (x + 1) By my) := fun x hx => by
      simp only [List.mem_cons, List.not_mem_nil, or_false] at hx
      rcases hx with rfl | rfl
      · exact (Qy.out.span (.inr (Nat.le_trans (Nat.le_refl _) (Nat.le_refl _))))
      · exact (Qy.out.span (.inr (Nat.le_trans (Nat.le_refl _) (by omega))))
  go_loopw [12] (fun i wr => ∃ k : Nat, k ≤ n ∧ i = .int .i64 k ∧ Hid (Ext w24 wr ∧ VarQ wr 0 [w24.heap.size, w24.heap.size + 1] (w24.heap.size) (takenTo q xs k) ∧ VarQ wr 0 [w24.heap.size, w24.heap.size + 1] (w24.heap.size + 1) (costTo q xs k))) (fun i _ => n - (intOf i).toNat)
  case atStart => exact ⟨0, by omega, rfl, Ew25.out, ⟨sa, Aa, na, ca, ta, Ba, ma, da, Ks.out, (Qa.out.ext (Ext.trans Ew24.out Ew25.out)).base (Nat.zero_le _), HAWa.out⟩, ⟨sy, Ay, ny, cy, ty, By, my, dy, Kt.out, (Qy.out.ext Ew25.out).base (Nat.zero_le _), HAWy.out⟩⟩
  case round =>
    obtain ⟨k, hk, rfl, HI⟩ := hrel
    obtain ⟨hEr, ⟨su, Au, nu, cu, tu, Bu, mu, du, hKu, hQu, hAu⟩, ⟨sv, Av, nv, cv, tv, Bv, mv, dv, hKv, hQv, hAv⟩⟩ := HI.out
    have HEr := Lib.hid hEr
    have HKu := Lib.hid hKu
    have HKv := Lib.hid hKv
    have HQu := Lib.hid hQu
    have HQv := Lib.hid hQv
    have HAu := Lib.hid hAu
    have HAv := Lib.hid hAv
    clear hEr hKu hKv hQu hQv hAu hAv HI HAWa HAWy
    have HZv : Hid (Sz 10000 (costTo q xs k)) := (sz_cost (HZ1.out.mono (by omega)) HR.out k (by rw [HL.out]; exact hk)).mono (by have := pow2_le (show k ≤ 3 by omega); omega)
    have HZu : Hid (Sz 20000 (takenTo q xs k)) := by
      unfold Hid
      rw [taken_rest k (by rw [HL.out]; exact hk)]
      exact (HZ1.out.sub (sz_rest (HZ1.out.mono (by omega)) HR.out k (by rw [HL.out]; exact hk))).mono (by have := pow2_le (show k ≤ 3 by omega); omega)
    by_cases hlt : k < n
    rotate_left
    · have hkn : k = n := by omega
      subst hkn
      have hbv : decide ((k : Int) < (k : Int)) = false := by simp
      obtain ⟨⟨xs0, xs1, xs2, xs3⟩, -, zs⟩ := HKu.out
      obtain ⟨⟨x10, x11, x12, x13⟩, -, z1⟩ := (K1.out.ext (Ext.trans Ewb2.out (Ext.trans Ew1.out (Ext.trans Ew2.out (Ext.trans Ew3.out (Ext.trans Ew4.out (Ext.trans Ew16.out (Ext.trans Ew17.out (Ext.trans Ew18.out (Ext.trans Ew19.out (Ext.trans Ew20.out (Ext.trans Ew21.out (Ext.trans Ew22.out (Ext.trans Ew23.out (Ext.trans Ew24.out HEr.out)))))))))))))))
      go_wp2_with fail
      clear xs0 xs1 xs2 xs3 zs x10 x11 x12 x13 z1
      refine (qequal_any su Au nu cu tu Bu mu du _ s1 A1 n1 c1 t1 B1 m1 d1 _ wr (HQu.out.arg HZu.out (by omega)) ⟨(H1.out.ext (Ext.trans Ewb1.out (Ext.trans Ewb2.out (Ext.trans Ew1.out (Ext.trans Ew2.out (Ext.trans Ew3.out (Ext.trans Ew4.out (Ext.trans Ew16.out (Ext.trans Ew17.out (Ext.trans Ew18.out (Ext.trans Ew19.out (Ext.trans Ew20.out (Ext.trans Ew21.out (Ext.trans Ew22.out (Ext.trans Ew23.out (Ext.trans Ew24.out HEr.out)))))))))))))))), by omega, by omega⟩).mono ?_
      rintro e w26 ⟨rfl, hE⟩
      have Ew26 := Lib.hid hE
      clear hE
      rw [decide_eq_true HTA.out]
      obtain ⟨⟨xt0, xt1, xt2, xt3⟩, -, zt⟩ := (HKv.out.ext Ew26.out)
      obtain ⟨⟨xx0, xx1, xx2, xx3⟩, -, zx⟩ := (Kx.out.ext (Ext.trans Ew18.out (Ext.trans Ew19.out (Ext.trans Ew20.out (Ext.trans Ew21.out (Ext.trans Ew22.out (Ext.trans Ew23.out (Ext.trans Ew24.out (Ext.trans HEr.out Ew26.out)))))))))
      go_wp2_with fail
      clear xt0 xt1 xt2 xt3 zt xx0 xx1 xx2 xx3 zx
      refine (qequal_any sv Av nv cv tv Bv mv dv _ sx Ax nx cx tx Bx mx dx _ w26 ((HQv.out.ext Ew26.out).arg HZv.out (by omega)) ((Qx.out.ext (Ext.trans Ew17.out (Ext.trans Ew18.out (Ext.trans Ew19.out (Ext.trans Ew20.out (Ext.trans Ew21.out (Ext.trans Ew22.out (Ext.trans Ew23.out (Ext.trans Ew24.out (Ext.trans HEr.out Ew26.out)))))))))).arg HZx.out (by omega))).mono ?_
      rintro e w27 ⟨rfl, hE⟩
      have Ew27 := Lib.hid hE
      clear hE
      rw [decide_eq_true HV.out.symm]
      obtain ⟨⟨xx0, xx1, xx2, xx3⟩, -, zx⟩ := (Kx.out.ext (Ext.trans Ew18.out (Ext.trans Ew19.out (Ext.trans Ew20.out (Ext.trans Ew21.out (Ext.trans Ew22.out (Ext.trans Ew23.out (Ext.trans Ew24.out (Ext.trans HEr.out (Ext.trans Ew26.out Ew27.out))))))))))
      go_wp2_with fail
      clear xx0 xx1 xx2 xx3 zx
      refine (qisCan_any sx Ax nx cx tx Bx mx dx _ _ w27 (Qx.out.ext (Ext.trans Ew17.out (Ext.trans Ew18.out (Ext.trans Ew19.out (Ext.trans Ew20.out (Ext.trans Ew21.out (Ext.trans Ew22.out (Ext.trans Ew23.out (Ext.trans Ew24.out (Ext.trans HEr.out (Ext.trans Ew26.out Ew27.out))))))))))) (Nat.le_trans (Qx.out.len HZx.out).1 (by omega)) (Nat.le_trans (Qx.out.len HZx.out).2 (by omega))).mono ?_
      rintro e w28 ⟨rfl, hE⟩
      have Ew28 := Lib.hid hE
      clear hE
      go_wp2_with fail
      go_ret
      exact ⟨rfl, (Ext.trans Ewb1.out (Ext.trans Ewb2.out (Ext.trans Ew1.out (Ext.trans Ew2.out (Ext.trans Ew3.out (Ext.trans Ew4.out (Ext.trans Ew16.out (Ext.trans Ew17.out (Ext.trans Ew18.out (Ext.trans Ew19.out (Ext.trans Ew20.out (Ext.trans Ew21.out (Ext.trans Ew22.out (Ext.trans Ew23.out (Ext.trans Ew24.out (Ext.trans HEr.out (Ext.trans Ew26.out (Ext.trans Ew27.out Ew28.out))))))))))))))))))⟩
    have hbv : decide ((k : Int) < (n : Int)) = true := by simp; omega
    have hz0 : (0 : Int) ≤ (k : Int) := by omega
    have hzn : (k : Int) < (n : Int) := by omega
    obtain ⟨hp0, hp1⟩ := part_facts HR.out HY.out.1 (i := k) (by rw [HL.out]; exact hlt)
    have HPF0 := Lib.hid hp0
    have HPF1 := Lib.hid hp1
    obtain ⟨sp, Ap, np, cp, tp, Bp, mp, dp, p0, p1, p2, p3, hpc⟩ := HP.out.2 k hlt
    have HP0 := Lib.hid (And.intro p0 (And.intro p1 (And.intro p2 p3)))
    have Qp := Lib.hid hpc
    have HZp : Hid (Sz 10000 (partAt q xs k)) := (sz_part (HZ1.out.mono (by omega)) HR.out k (by rw [HL.out]; exact hlt)).mono (by have := pow2_le (show k ≤ 3 by omega); omega)
    have hmem : xs.getD k (0, 0) ∈ xs := by simp [List.getD, show k < xs.length by rw [HL.out]; exact hlt]
    have hr1 := HR.out _ hmem
    have hC1 := HC.out k hlt
    have HCT : Hid (costTo q xs (k + 1) = costTo q xs k + partAt q xs k * ((xs.getD k (0, 0)).2 : Int)) := rfl
    have HPK := Lib.hid (fun j (hj : k = j + 1) (hp : 0 < partAt q xs k) => (by subst hj; exact part_full HR.out (i := j) (by rw [HL.out]; exact hlt) hp : partAt q xs j = ((xs.getD j (0, 0)).1 : Int)))
    have HRJ := Lib.hid (fun j (hj : k = j + 1) => HR.out (xs.getD j (0, 0)) (by simp [List.getD, show j < xs.length by rw [HL.out]; omega]))
    have HCJ := Lib.hid (fun j (hj : k = j + 1) => HC.out j (by omega))
    generalize (xs.getD k (0, 0)).1 = qy at *
    generalize (xs.getD k (0, 0)).2 = py at *
    obtain ⟨r1, r2, r3, r4⟩ := hr1
    have HC1 := Lib.hid hC1
    clear hp0 hp1 p0 p1 p2 p3 hpc hmem hC1
    have HSP := Lib.hid (sign_pos_iff (partAt q xs k))
    have HSM := Lib.hid (sign_neg_iff (partAt q xs k))
    by_cases hk0 : k = 0
    · have hb8 : decide ((0 : Int) < (k : Int)) = false := by simp; omega
      have hb9 : decide (0 < k) = false := by simp; omega
      clear hk0
      go_wp2_with fail
      refine wp_region_lexS (C := InX wr.drew []) (by kernel_rfl) (by kernel_rfl) (inX_self _ _) ?_
      have hE : Ext wr wr.drew := Ext.rfl'.drew
      generalize wr.drew = w29 at *
      have Ew29 := Lib.hid hE
      clear hE
      have fp0 := fun z : ExtX w29 [] => z.cell (p := ⟨gp, k * 4, none⟩) (Ext.cellOf (Ext.trans Ew16.out (Ext.trans Ew17.out (Ext.trans Ew18.out (Ext.trans Ew19.out (Ext.trans Ew20.out (Ext.trans Ew21.out (Ext.trans Ew22.out (Ext.trans Ew23.out (Ext.trans Ew24.out (Ext.trans HEr.out Ew29.out)))))))))) HP0.out.1) (by simp)
      have fp1 := fun z : ExtX w29 [] => z.cell (p := ⟨gp, k * 4 + 1, none⟩) (Ext.cellOf (Ext.trans Ew16.out (Ext.trans Ew17.out (Ext.trans Ew18.out (Ext.trans Ew19.out (Ext.trans Ew20.out (Ext.trans Ew21.out (Ext.trans Ew22.out (Ext.trans Ew23.out (Ext.trans Ew24.out (Ext.trans HEr.out Ew29.out)))))))))) HP0.out.2.1) (by simp)
      have fp2 := fun z : ExtX w29 [] => z.cell (p := ⟨gp, k * 4 + 2, none⟩) (Ext.cellOf (Ext.trans Ew16.out (Ext.trans Ew17.out (Ext.trans Ew18.out (Ext.trans Ew19.out (Ext.trans Ew20.out (Ext.trans Ew21.out (Ext.trans Ew22.out (Ext.trans Ew23.out (Ext.trans Ew24.out (Ext.trans HEr.out Ew29.out)))))))))) HP0.out.2.2.1) (by simp)
      have fp3 := fun z : ExtX w29 [] => z.cell (p := ⟨gp, k * 4 + 3, none⟩) (Ext.cellOf (Ext.trans Ew16.out (Ext.trans Ew17.out (Ext.trans Ew18.out (Ext.trans Ew19.out (Ext.trans Ew20.out (Ext.trans Ew21.out (Ext.trans Ew22.out (Ext.trans Ew23.out (Ext.trans Ew24.out (Ext.trans HEr.out Ew29.out)))))))))) HP0.out.2.2.2) (by simp)
      have fq := fun z : ExtX w29 [] => z.cell (p := ⟨b, off + k * 2, none⟩) (Ext.cellOf (Ext.trans Ewb1.out (Ext.trans Ewb2.out (Ext.trans Ew1.out (Ext.trans Ew2.out (Ext.trans Ew3.out (Ext.trans Ew4.out (Ext.trans Ew16.out (Ext.trans Ew17.out (Ext.trans Ew18.out (Ext.trans Ew19.out (Ext.trans Ew20.out (Ext.trans Ew21.out (Ext.trans Ew22.out (Ext.trans Ew23.out (Ext.trans Ew24.out (Ext.trans HEr.out Ew29.out)))))))))))))))) HC1.out.1) (by simp)
      repeat (refine lexAt_still (by rfl) ?_; go_big_quiet_step (fail); refine wpQuiet_nil ?_)
      refine lexAt_move (by rfl) (by kernel_rfl) ?_
      go_wp2_with fail
      refine (qsign_any sp Ap np cp tp Bp mp dp _ w29 (Qp.out.ext (Ext.trans Ew16.out (Ext.trans Ew17.out (Ext.trans Ew18.out (Ext.trans Ew19.out (Ext.trans Ew20.out (Ext.trans Ew21.out (Ext.trans Ew22.out (Ext.trans Ew23.out (Ext.trans Ew24.out (Ext.trans HEr.out Ew29.out))))))))))).is).mono ?_
      rintro e w30 ⟨rfl, hE⟩
      have Ew30 := Lib.hid hE
      clear hE
      obtain ⟨sgp, hsgp⟩ : ∃ x, Int.sign (Rat.num (partAt q xs k)) = x := ⟨_, rfl⟩
      rw [hsgp]
      have Hsgp := Lib.hid hsgp
      clear hsgp
      have hb5 : decide (sgp < 0) = false := by rw [← Hsgp.out]; exact decide_eq_false (fun e => Rat.not_lt.2 HPF0.out (HSM.out.1 e))
      go_wp2_with fail
      refine And.intro (inX_of_ext _ Ew30.out) ?_
      repeat (refine lexAt_still (by rfl) ?_; go_big_quiet_step (fail); refine wpQuiet_nil ?_)
      refine lexAt_move (by rfl) (by kernel_rfl) ?_
      go_wp2_with fail
      refine (qfrom_any qy w30 ⟨by omega, by omega⟩).mono ?_
      rintro e w31 ⟨sb2, Ab2, nb2, cb2, tb2, Bb2, mb2, db2, rfl, hQ, hE⟩
      have Ew31 := Lib.hid hE
      clear hE
      have Qb2 := Lib.hid hQ
      clear hQ
      go_wp2_with fail
      refine And.intro (inX_of_ext _ (Ext.trans Ew30.out Ew31.out)) ?_
      repeat (refine lexAt_still (by rfl) ?_; go_big_quiet_step (fail); refine wpQuiet_nil ?_)
      refine lexAt_move (by rfl) (by kernel_rfl) ?_
      go_wp2_with fail
      refine (qcmp_any sp Ap np cp tp Bp mp dp _ sb2 Ab2 nb2 cb2 tb2 Bb2 mb2 db2 _ w31 ((Qp.out.ext (Ext.trans Ew16.out (Ext.trans Ew17.out (Ext.trans Ew18.out (Ext.trans Ew19.out (Ext.trans Ew20.out (Ext.trans Ew21.out (Ext.trans Ew22.out (Ext.trans Ew23.out (Ext.trans Ew24.out (Ext.trans HEr.out (Ext.trans Ew29.out (Ext.trans Ew30.out Ew31.out))))))))))))).arg HZp.out (by omega)) (Qb2.out.arg (sz_small (z := qy) (by omega) (by omega)) (by omega))).mono ?_
      rintro e w32 ⟨rfl, hE⟩
      have Ew32 := Lib.hid hE
      clear hE
      obtain ⟨cm1, hcm1⟩ : ∃ x, cmpQ (partAt q xs k) (((qy : Int) : Rat)) = x := ⟨_, rfl⟩
      rw [hcm1]
      have Hcm1 := Lib.hid hcm1
      clear hcm1
      have hb6 : decide (0 < cm1) = false := by
        have : ¬ 0 < cm1 := by rw [← Hcm1.out]; exact fun e => Rat.not_lt.2 HPF1.out ((cmpQ_pos _ _).1 e)
        simp; omega
      go_wp2_with fail
      refine And.intro (inX_of_ext _ (Ext.trans Ew30.out (Ext.trans Ew31.out Ew32.out))) ?_
      iterate 6 (refine lexAt_still (by rfl) ?_; go_big_quiet_step (fail); refine wpQuiet_nil ?_)
      iterate 6 (refine lexAt_skip (by kernel_rfl) ?_; simp only [Act.put, List.setIfInBounds_toArray, List.set_cons_succ, List.set_cons_zero])
      iterate 2 (refine lexAt_still (by rfl) ?_; go_big_quiet_step (fail); refine wpQuiet_nil ?_)
      iterate 14 (refine lexAt_skip (by kernel_rfl) ?_; simp only [Act.put, List.setIfInBounds_toArray, List.set_cons_succ, List.set_cons_zero])
      repeat (refine lexAt_still (by rfl) ?_; go_big_quiet_step (fail); refine wpQuiet_nil ?_)
      refine lexAt_nil ?_
      clear fp0 fp1 fp2 fp3 fq
      go_wp2_with fail
      refine wp_region_lexS (C := InX w32.drew []) (by kernel_rfl) (by kernel_rfl) (inX_self _ _) ?_
      have hE : Ext w32 w32.drew := Ext.rfl'.drew
      generalize w32.drew = w33 at *
      have Ew33 := Lib.hid hE
      clear hE
      have fs0 := fun z : ExtX w33 [] => z.cell (p := ⟨w24.heap.size, 0, none⟩) (HKu.out.ext (Ext.trans Ew29.out (Ext.trans Ew30.out (Ext.trans Ew31.out (Ext.trans Ew32.out Ew33.out))))).1.1 (by simp)
      have fs1 := fun z : ExtX w33 [] => z.cell (p := ⟨w24.heap.size, 1, none⟩) (HKu.out.ext (Ext.trans Ew29.out (Ext.trans Ew30.out (Ext.trans Ew31.out (Ext.trans Ew32.out Ew33.out))))).1.2.1 (by simp)
      have fs2 := fun z : ExtX w33 [] => z.cell (p := ⟨w24.heap.size, 2, none⟩) (HKu.out.ext (Ext.trans Ew29.out (Ext.trans Ew30.out (Ext.trans Ew31.out (Ext.trans Ew32.out Ew33.out))))).1.2.2.1 (by simp)
      have fs3 := fun z : ExtX w33 [] => z.cell (p := ⟨w24.heap.size, 3, none⟩) (HKu.out.ext (Ext.trans Ew29.out (Ext.trans Ew30.out (Ext.trans Ew31.out (Ext.trans Ew32.out Ew33.out))))).1.2.2.2 (by simp)
      have fp0 := fun z : ExtX w33 [] => z.cell (p := ⟨gp, k * 4, none⟩) (Ext.cellOf (Ext.trans Ew16.out (Ext.trans Ew17.out (Ext.trans Ew18.out (Ext.trans Ew19.out (Ext.trans Ew20.out (Ext.trans Ew21.out (Ext.trans Ew22.out (Ext.trans Ew23.out (Ext.trans Ew24.out (Ext.trans HEr.out (Ext.trans Ew29.out (Ext.trans Ew30.out (Ext.trans Ew31.out (Ext.trans Ew32.out Ew33.out)))))))))))))) HP0.out.1) (by simp)
      have fp1 := fun z : ExtX w33 [] => z.cell (p := ⟨gp, k * 4 + 1, none⟩) (Ext.cellOf (Ext.trans Ew16.out (Ext.trans Ew17.out (Ext.trans Ew18.out (Ext.trans Ew19.out (Ext.trans Ew20.out (Ext.trans Ew21.out (Ext.trans Ew22.out (Ext.trans Ew23.out (Ext.trans Ew24.out (Ext.trans HEr.out (Ext.trans Ew29.out (Ext.trans Ew30.out (Ext.trans Ew31.out (Ext.trans Ew32.out Ew33.out)))))))))))))) HP0.out.2.1) (by simp)
      have fp2 := fun z : ExtX w33 [] => z.cell (p := ⟨gp, k * 4 + 2, none⟩) (Ext.cellOf (Ext.trans Ew16.out (Ext.trans Ew17.out (Ext.trans Ew18.out (Ext.trans Ew19.out (Ext.trans Ew20.out (Ext.trans Ew21.out (Ext.trans Ew22.out (Ext.trans Ew23.out (Ext.trans Ew24.out (Ext.trans HEr.out (Ext.trans Ew29.out (Ext.trans Ew30.out (Ext.trans Ew31.out (Ext.trans Ew32.out Ew33.out)))))))))))))) HP0.out.2.2.1) (by simp)
      have fp3 := fun z : ExtX w33 [] => z.cell (p := ⟨gp, k * 4 + 3, none⟩) (Ext.cellOf (Ext.trans Ew16.out (Ext.trans Ew17.out (Ext.trans Ew18.out (Ext.trans Ew19.out (Ext.trans Ew20.out (Ext.trans Ew21.out (Ext.trans Ew22.out (Ext.trans Ew23.out (Ext.trans Ew24.out (Ext.trans HEr.out (Ext.trans Ew29.out (Ext.trans Ew30.out (Ext.trans Ew31.out (Ext.trans Ew32.out Ew33.out)))))))))))))) HP0.out.2.2.2) (by simp)
      repeat (refine lexAt_still (by rfl) ?_; go_big_quiet_step (fail); refine wpQuiet_nil ?_)
      refine lexAt_move (by rfl) (by kernel_rfl) ?_
      go_wp2_with fail
      refine (qadd_any su Au nu cu tu Bu mu du _ sp Ap np cp tp Bp mp dp _ w33 ((HQu.out.ext (Ext.trans Ew29.out (Ext.trans Ew30.out (Ext.trans Ew31.out (Ext.trans Ew32.out Ew33.out))))).arg HZu.out (by omega)) ((Qp.out.ext (Ext.trans Ew16.out (Ext.trans Ew17.out (Ext.trans Ew18.out (Ext.trans Ew19.out (Ext.trans Ew20.out (Ext.trans Ew21.out (Ext.trans Ew22.out (Ext.trans Ew23.out (Ext.trans Ew24.out (Ext.trans HEr.out (Ext.trans Ew29.out (Ext.trans Ew30.out (Ext.trans Ew31.out (Ext.trans Ew32.out Ew33.out))))))))))))))).arg HZp.out (by omega))).mono ?_
      rintro e w34 ⟨sa1, Aa1, na1, ca1, ta1, Ba1, ma1, da1, rfl, hQ, hE⟩
      have Ew34 := Lib.hid hE
      clear hE
      have Qa1 := Lib.hid hQ
      clear hQ
      have HXe := Lib.hid (inX_of_ext [] Ew34.out)
      clear fs0 fs1 fs2 fs3 fp0 fp1 fp2 fp3
      obtain ⟨⟨o0, o1, o2, o3⟩, ⟨q0, q1, q2, q3⟩, ol⟩ := (HKu.out.ext (Ext.trans Ew29.out (Ext.trans Ew30.out (Ext.trans Ew31.out (Ext.trans Ew32.out (Ext.trans Ew33.out Ew34.out))))))
      go_wp2_with fail
      refine And.intro HXe.out ?_
      refine lexAt_last (by rfl) (by kernel_rfl) (by kernel_rfl) ?_
      go_wp2_with fail
      refine And.intro trivial (lexAt_nil ?_)
      clear o0 o1 o2 o3 q0 q1 q2 q3 ol HXe
      have Ks_1 := Lib.hid ((HKu.out.ext (Ext.trans Ew29.out (Ext.trans Ew30.out (Ext.trans Ew31.out (Ext.trans Ew32.out (Ext.trans Ew33.out Ew34.out)))))).put4 (.bool sa1) (.slice Aa1 na1 ca1) (.bool ta1) (.slice Ba1 ma1 da1))
      have NJ1 := Lib.hid (ext_put4 (Ext.trans HEr.out (Ext.trans Ew29.out (Ext.trans Ew30.out (Ext.trans Ew31.out (Ext.trans Ew32.out (Ext.trans Ew33.out Ew34.out)))))) (g := w24.heap.size) (Nat.le_refl _) 0 (.bool sa1) (.slice Aa1 na1 ca1) (.bool ta1) (.slice Ba1 ma1 da1))
      have NZ1 : Hid (w34.heap.size ≤ (put4 w34 (w24.heap.size) 0 (.bool sa1) (.slice Aa1 na1 ca1) (.bool ta1) (.slice Ba1 ma1 da1)).heap.size) := by unfold Hid; rw [put4_size]; exact Nat.le_refl _
      have Kt_1 := Lib.hid ((HKv.out.ext (Ext.trans Ew29.out (Ext.trans Ew30.out (Ext.trans Ew31.out (Ext.trans Ew32.out (Ext.trans Ew33.out Ew34.out)))))).far4 (g := w24.heap.size) (off := 0) (by omega) (.bool sa1) (.slice Aa1 na1 ca1) (.bool ta1) (.slice Ba1 ma1 da1))
      have Qv_1 := Lib.hid ((HQv.out.ext (Ext.trans Ew29.out (Ext.trans Ew30.out (Ext.trans Ew31.out (Ext.trans Ew32.out (Ext.trans Ew33.out Ew34.out)))))).put4A (g := w24.heap.size) (HAv.out _ (by simp)) 0 (.bool sa1) (.slice Aa1 na1 ca1) (.bool ta1) (.slice Ba1 ma1 da1))
      have Qa1_1 := Lib.hid (Qa1.out.put4A (g := w24.heap.size) (Qa1.out.span (.inl (Nat.lt_of_lt_of_le HKu.out.2.2 (Nat.le_trans Ew29.out.size (Nat.le_trans Ew30.out.size (Nat.le_trans Ew31.out.size (Nat.le_trans Ew32.out.size Ew33.out.size))))))) 0 (.bool sa1) (.slice Aa1 na1 ca1) (.bool ta1) (.slice Ba1 ma1 da1))
      unfold put4 at Ks_1 NJ1 NZ1 Kt_1 Qv_1 Qa1_1
      simp only [Nat.zero_add] at Ks_1 NJ1 NZ1 Kt_1 Qv_1 Qa1_1
      generalize ((((w34.setCell ⟨w24.heap.size, 0, none⟩ (.bool sa1)).setCell ⟨w24.heap.size, 1, none⟩ (.slice Aa1 na1 ca1)).setCell ⟨w24.heap.size, 2, none⟩ (.bool ta1)).setCell ⟨w24.heap.size, 3, none⟩ (.slice Ba1 ma1 da1)) = w35 at *
      go_wp2_with fail
      refine wp_region_lexS (C := InX w35.drew []) (by kernel_rfl) (by kernel_rfl) (inX_self _ _) ?_
      have hE : Ext w35 w35.drew := Ext.rfl'.drew
      generalize w35.drew = w36 at *
      have Ew36 := Lib.hid hE
      clear hE
      have ft0 := fun z : ExtX w36 [] => z.cell (p := ⟨w24.heap.size + 1, 0, none⟩) (Kt_1.out.ext Ew36.out).1.1 (by simp)
      have ft1 := fun z : ExtX w36 [] => z.cell (p := ⟨w24.heap.size + 1, 1, none⟩) (Kt_1.out.ext Ew36.out).1.2.1 (by simp)
      have ft2 := fun z : ExtX w36 [] => z.cell (p := ⟨w24.heap.size + 1, 2, none⟩) (Kt_1.out.ext Ew36.out).1.2.2.1 (by simp)
      have ft3 := fun z : ExtX w36 [] => z.cell (p := ⟨w24.heap.size + 1, 3, none⟩) (Kt_1.out.ext Ew36.out).1.2.2.2 (by simp)
      have fp0 := fun z : ExtX w36 [] => z.cell (p := ⟨gp, k * 4, none⟩) (Ext.cellOf (Ext.trans Ew16.out (Ext.trans Ew17.out (Ext.trans Ew18.out (Ext.trans Ew19.out (Ext.trans Ew20.out (Ext.trans Ew21.out (Ext.trans Ew22.out (Ext.trans Ew23.out (Ext.trans Ew24.out (Ext.trans NJ1.out Ew36.out)))))))))) HP0.out.1) (by simp)
      have fp1 := fun z : ExtX w36 [] => z.cell (p := ⟨gp, k * 4 + 1, none⟩) (Ext.cellOf (Ext.trans Ew16.out (Ext.trans Ew17.out (Ext.trans Ew18.out (Ext.trans Ew19.out (Ext.trans Ew20.out (Ext.trans Ew21.out (Ext.trans Ew22.out (Ext.trans Ew23.out (Ext.trans Ew24.out (Ext.trans NJ1.out Ew36.out)))))))))) HP0.out.2.1) (by simp)
      have fp2 := fun z : ExtX w36 [] => z.cell (p := ⟨gp, k * 4 + 2, none⟩) (Ext.cellOf (Ext.trans Ew16.out (Ext.trans Ew17.out (Ext.trans Ew18.out (Ext.trans Ew19.out (Ext.trans Ew20.out (Ext.trans Ew21.out (Ext.trans Ew22.out (Ext.trans Ew23.out (Ext.trans Ew24.out (Ext.trans NJ1.out Ew36.out)))))))))) HP0.out.2.2.1) (by simp)
      have fp3 := fun z : ExtX w36 [] => z.cell (p := ⟨gp, k * 4 + 3, none⟩) (Ext.cellOf (Ext.trans Ew16.out (Ext.trans Ew17.out (Ext.trans Ew18.out (Ext.trans Ew19.out (Ext.trans Ew20.out (Ext.trans Ew21.out (Ext.trans Ew22.out (Ext.trans Ew23.out (Ext.trans Ew24.out (Ext.trans NJ1.out Ew36.out)))))))))) HP0.out.2.2.2) (by simp)
      have fr := fun z : ExtX w36 [] => z.cell (p := ⟨b, off + k * 2 + 1, none⟩) (Ext.cellOf (Ext.trans Ewb1.out (Ext.trans Ewb2.out (Ext.trans Ew1.out (Ext.trans Ew2.out (Ext.trans Ew3.out (Ext.trans Ew4.out (Ext.trans Ew16.out (Ext.trans Ew17.out (Ext.trans Ew18.out (Ext.trans Ew19.out (Ext.trans Ew20.out (Ext.trans Ew21.out (Ext.trans Ew22.out (Ext.trans Ew23.out (Ext.trans Ew24.out (Ext.trans NJ1.out Ew36.out)))))))))))))))) HC1.out.2) (by simp)
      repeat (refine lexAt_still (by rfl) ?_; go_big_quiet_step (fail); refine wpQuiet_nil ?_)
      refine lexAt_move (by rfl) (by kernel_rfl) ?_
      go_wp2_with fail
      refine (qfrom_any py w36 ⟨by omega, by omega⟩).mono ?_
      rintro e w37 ⟨sb1, Ab1, nb1, cb1, tb1, Bb1, mb1, db1, rfl, hQ, hE⟩
      have Ew37 := Lib.hid hE
      clear hE
      have Qb1 := Lib.hid hQ
      clear hQ
      go_wp2_with fail
      refine And.intro (inX_of_ext _ Ew37.out) ?_
      repeat (refine lexAt_still (by rfl) ?_; go_big_quiet_step (fail); refine wpQuiet_nil ?_)
      refine lexAt_move (by rfl) (by kernel_rfl) ?_
      go_wp2_with fail
      refine (qmul_any sp Ap np cp tp Bp mp dp _ sb1 Ab1 nb1 cb1 tb1 Bb1 mb1 db1 _ w37 ((Qp.out.ext (Ext.trans Ew16.out (Ext.trans Ew17.out (Ext.trans Ew18.out (Ext.trans Ew19.out (Ext.trans Ew20.out (Ext.trans Ew21.out (Ext.trans Ew22.out (Ext.trans Ew23.out (Ext.trans Ew24.out (Ext.trans NJ1.out (Ext.trans Ew36.out Ew37.out)))))))))))).arg HZp.out (by omega)) (Qb1.out.arg (sz_small (z := py) (by omega) (by omega)) (by omega))).mono ?_
      rintro e w38 ⟨sc1, Ac1, nc1, cc1, tc1, Bc1, mc1, dc1, rfl, hQ, hE⟩
      have Ew38 := Lib.hid hE
      clear hE
      have Qc1 := Lib.hid hQ
      clear hQ
      go_wp2_with fail
      refine And.intro (inX_of_ext _ (Ext.trans Ew37.out Ew38.out)) ?_
      repeat (refine lexAt_still (by rfl) ?_; go_big_quiet_step (fail); refine wpQuiet_nil ?_)
      refine lexAt_move (by rfl) (by kernel_rfl) ?_
      go_wp2_with fail
      refine (qadd_any sv Av nv cv tv Bv mv dv _ sc1 Ac1 nc1 cc1 tc1 Bc1 mc1 dc1 _ w38 ((Qv_1.out.ext (Ext.trans Ew36.out (Ext.trans Ew37.out Ew38.out))).arg HZv.out (by omega)) (Qc1.out.arg (HZp.out.mul (sz_small (z := py) (by omega) (by omega))) (by omega))).mono ?_
      rintro e w39 ⟨se1, Ae1, ne1, ce1, te1, Be1, me1, de1, rfl, hQ, hE⟩
      have Ew39 := Lib.hid hE
      clear hE
      have Qe1 := Lib.hid hQ
      clear hQ
      have HXe := Lib.hid (inX_of_ext [] (Ext.trans Ew37.out (Ext.trans Ew38.out Ew39.out)))
      clear ft0 ft1 ft2 ft3 fp0 fp1 fp2 fp3 fr
      obtain ⟨⟨o0, o1, o2, o3⟩, ⟨q0, q1, q2, q3⟩, ol⟩ := (Kt_1.out.ext (Ext.trans Ew36.out (Ext.trans Ew37.out (Ext.trans Ew38.out Ew39.out))))
      go_wp2_with fail
      refine And.intro HXe.out ?_
      refine lexAt_last (by rfl) (by kernel_rfl) (by kernel_rfl) ?_
      go_wp2_with fail
      refine And.intro trivial (lexAt_nil ?_)
      clear o0 o1 o2 o3 q0 q1 q2 q3 ol HXe
      have Kt_2 := Lib.hid ((Kt_1.out.ext (Ext.trans Ew36.out (Ext.trans Ew37.out (Ext.trans Ew38.out Ew39.out)))).put4 (.bool se1) (.slice Ae1 ne1 ce1) (.bool te1) (.slice Be1 me1 de1))
      have NJ2 := Lib.hid (ext_put4 (Ext.trans NJ1.out (Ext.trans Ew36.out (Ext.trans Ew37.out (Ext.trans Ew38.out Ew39.out)))) (g := w24.heap.size + 1) (by omega) 0 (.bool se1) (.slice Ae1 ne1 ce1) (.bool te1) (.slice Be1 me1 de1))
      have NZ2 : Hid (w39.heap.size ≤ (put4 w39 (w24.heap.size + 1) 0 (.bool se1) (.slice Ae1 ne1 ce1) (.bool te1) (.slice Be1 me1 de1)).heap.size) := by unfold Hid; rw [put4_size]; exact Nat.le_refl _
      have Ks_2 := Lib.hid ((Ks_1.out.ext (Ext.trans Ew36.out (Ext.trans Ew37.out (Ext.trans Ew38.out Ew39.out)))).far4 (g := w24.heap.size + 1) (off := 0) (by omega) (.bool se1) (.slice Ae1 ne1 ce1) (.bool te1) (.slice Be1 me1 de1))
      have Qa1_2 := Lib.hid ((Qa1_1.out.ext (Ext.trans Ew36.out (Ext.trans Ew37.out (Ext.trans Ew38.out Ew39.out)))).put4A (g := w24.heap.size + 1) (Qa1.out.span (.inl (Nat.lt_of_lt_of_le HKv.out.2.2 (Nat.le_trans Ew29.out.size (Nat.le_trans Ew30.out.size (Nat.le_trans Ew31.out.size (Nat.le_trans Ew32.out.size Ew33.out.size))))))) 0 (.bool se1) (.slice Ae1 ne1 ce1) (.bool te1) (.slice Be1 me1 de1))
      have Qe1_2 := Lib.hid (Qe1.out.put4A (g := w24.heap.size + 1) (Qe1.out.span (.inl (Nat.lt_of_lt_of_le HKv.out.2.2 (Nat.le_trans Ew29.out.size (Nat.le_trans Ew30.out.size (Nat.le_trans Ew31.out.size (Nat.le_trans Ew32.out.size (Nat.le_trans Ew33.out.size (Nat.le_trans Ew34.out.size (Nat.le_trans NZ1.out (Nat.le_trans Ew36.out.size (Nat.le_trans Ew37.out.size Ew38.out.size)))))))))))) 0 (.bool se1) (.slice Ae1 ne1 ce1) (.bool te1) (.slice Be1 me1 de1))
      unfold put4 at Kt_2 NJ2 NZ2 Ks_2 Qa1_2 Qe1_2
      simp only [Nat.zero_add] at Kt_2 NJ2 NZ2 Ks_2 Qa1_2 Qe1_2
      generalize ((((w39.setCell ⟨w24.heap.size + 1, 0, none⟩ (.bool se1)).setCell ⟨w24.heap.size + 1, 1, none⟩ (.slice Ae1 ne1 ce1)).setCell ⟨w24.heap.size + 1, 2, none⟩ (.bool te1)).setCell ⟨w24.heap.size + 1, 3, none⟩ (.slice Be1 me1 de1)) = w40 at *
      go_wp2_with fail
      go_roundw
      have HAWa : Hid (∀ x ∈ [w24.heap.size, w24.heap.size + 1], Away x (x + 1) Aa1 na1 ∧ Away x (x + 1) Ba1 ma1) := fun x hx => by
          simp only [List.mem_cons, List.not_mem_nil, or_false] at hx
          rcases hx with rfl | rfl
          · exact (Qa1.out.span (.inl (Nat.lt_of_lt_of_le HKu.out.2.2 (Nat.le_trans Ew29.out.size (Nat.le_trans Ew30.out.size (Nat.le_trans Ew31.out.size (Nat.le_trans Ew32.out.size Ew33.out.size)))))))
          · exact (Qa1.out.span (.inl (Nat.lt_of_lt_of_le HKv.out.2.2 (Nat.le_trans Ew29.out.size (Nat.le_trans Ew30.out.size (Nat.le_trans Ew31.out.size (Nat.le_trans Ew32.out.size Ew33.out.size)))))))
      have HAWe : Hid (∀ x ∈ [w24.heap.size, w24.heap.size + 1], Away x (x + 1) Ae1 ne1 ∧ Away x (x + 1) Be1 me1) := fun x hx => by
          simp only [List.mem_cons, List.not_mem_nil, or_false] at hx
          rcases hx with rfl | rfl
          · exact (Qe1.out.span (.inl (Nat.lt_of_lt_of_le HKu.out.2.2 (Nat.le_trans Ew29.out.size (Nat.le_trans Ew30.out.size (Nat.le_trans Ew31.out.size (Nat.le_trans Ew32.out.size (Nat.le_trans Ew33.out.size (Nat.le_trans Ew34.out.size (Nat.le_trans NZ1.out (Nat.le_trans Ew36.out.size (Nat.le_trans Ew37.out.size Ew38.out.size))))))))))))
          · exact (Qe1.out.span (.inl (Nat.lt_of_lt_of_le HKv.out.2.2 (Nat.le_trans Ew29.out.size (Nat.le_trans Ew30.out.size (Nat.le_trans Ew31.out.size (Nat.le_trans Ew32.out.size (Nat.le_trans Ew33.out.size (Nat.le_trans Ew34.out.size (Nat.le_trans NZ1.out (Nat.le_trans Ew36.out.size (Nat.le_trans Ew37.out.size Ew38.out.size))))))))))))
      case rel => exact ⟨k + 1, by omega, by go_num, NJ2.out, ⟨sa1, Aa1, na1, ca1, ta1, Ba1, ma1, da1, Ks_2.out, Qa1_2.out.base (Nat.zero_le _), HAWa.out⟩, ⟨se1, Ae1, ne1, ce1, te1, Be1, me1, de1, Kt_2.out, HCT.out ▸ Qe1_2.out.base (Nat.zero_le _), HAWe.out⟩⟩
      case measure => simp [intOf]; omega
    have hb8 : decide ((0 : Int) < (k : Int)) = true := by simp; omega
    have hb9 : decide (0 < k) = true := by simp; omega
    by_cases hpos : 0 < partAt q xs k
    rotate_left
    · have HPS := Lib.hid hpos
      clear hpos
      go_wp2_with fail
      refine wp_region_lexS (C := InX wr.drew []) (by kernel_rfl) (by kernel_rfl) (inX_self _ _) ?_
      have hE : Ext wr wr.drew := Ext.rfl'.drew
      generalize wr.drew = w41 at *
      have Ew41 := Lib.hid hE
      clear hE
      have fp0 := fun z : ExtX w41 [] => z.cell (p := ⟨gp, k * 4, none⟩) (Ext.cellOf (Ext.trans Ew16.out (Ext.trans Ew17.out (Ext.trans Ew18.out (Ext.trans Ew19.out (Ext.trans Ew20.out (Ext.trans Ew21.out (Ext.trans Ew22.out (Ext.trans Ew23.out (Ext.trans Ew24.out (Ext.trans HEr.out Ew41.out)))))))))) HP0.out.1) (by simp)
      have fp1 := fun z : ExtX w41 [] => z.cell (p := ⟨gp, k * 4 + 1, none⟩) (Ext.cellOf (Ext.trans Ew16.out (Ext.trans Ew17.out (Ext.trans Ew18.out (Ext.trans Ew19.out (Ext.trans Ew20.out (Ext.trans Ew21.out (Ext.trans Ew22.out (Ext.trans Ew23.out (Ext.trans Ew24.out (Ext.trans HEr.out Ew41.out)))))))))) HP0.out.2.1) (by simp)
      have fp2 := fun z : ExtX w41 [] => z.cell (p := ⟨gp, k * 4 + 2, none⟩) (Ext.cellOf (Ext.trans Ew16.out (Ext.trans Ew17.out (Ext.trans Ew18.out (Ext.trans Ew19.out (Ext.trans Ew20.out (Ext.trans Ew21.out (Ext.trans Ew22.out (Ext.trans Ew23.out (Ext.trans Ew24.out (Ext.trans HEr.out Ew41.out)))))))))) HP0.out.2.2.1) (by simp)
      have fp3 := fun z : ExtX w41 [] => z.cell (p := ⟨gp, k * 4 + 3, none⟩) (Ext.cellOf (Ext.trans Ew16.out (Ext.trans Ew17.out (Ext.trans Ew18.out (Ext.trans Ew19.out (Ext.trans Ew20.out (Ext.trans Ew21.out (Ext.trans Ew22.out (Ext.trans Ew23.out (Ext.trans Ew24.out (Ext.trans HEr.out Ew41.out)))))))))) HP0.out.2.2.2) (by simp)
      have fq := fun z : ExtX w41 [] => z.cell (p := ⟨b, off + k * 2, none⟩) (Ext.cellOf (Ext.trans Ewb1.out (Ext.trans Ewb2.out (Ext.trans Ew1.out (Ext.trans Ew2.out (Ext.trans Ew3.out (Ext.trans Ew4.out (Ext.trans Ew16.out (Ext.trans Ew17.out (Ext.trans Ew18.out (Ext.trans Ew19.out (Ext.trans Ew20.out (Ext.trans Ew21.out (Ext.trans Ew22.out (Ext.trans Ew23.out (Ext.trans Ew24.out (Ext.trans HEr.out Ew41.out)))))))))))))))) HC1.out.1) (by simp)
      repeat (refine lexAt_still (by rfl) ?_; go_big_quiet_step (fail); refine wpQuiet_nil ?_)
      refine lexAt_move (by rfl) (by kernel_rfl) ?_
      go_wp2_with fail
      refine (qsign_any sp Ap np cp tp Bp mp dp _ w41 (Qp.out.ext (Ext.trans Ew16.out (Ext.trans Ew17.out (Ext.trans Ew18.out (Ext.trans Ew19.out (Ext.trans Ew20.out (Ext.trans Ew21.out (Ext.trans Ew22.out (Ext.trans Ew23.out (Ext.trans Ew24.out (Ext.trans HEr.out Ew41.out))))))))))).is).mono ?_
      rintro e w42 ⟨rfl, hE⟩
      have Ew42 := Lib.hid hE
      clear hE
      obtain ⟨sgp, hsgp⟩ : ∃ x, Int.sign (Rat.num (partAt q xs k)) = x := ⟨_, rfl⟩
      rw [hsgp]
      have Hsgp := Lib.hid hsgp
      clear hsgp
      have hb5 : decide (sgp < 0) = false := by rw [← Hsgp.out]; exact decide_eq_false (fun e => Rat.not_lt.2 HPF0.out (HSM.out.1 e))
      go_wp2_with fail
      refine And.intro (inX_of_ext _ Ew42.out) ?_
      repeat (refine lexAt_still (by rfl) ?_; go_big_quiet_step (fail); refine wpQuiet_nil ?_)
      refine lexAt_move (by rfl) (by kernel_rfl) ?_
      go_wp2_with fail
      refine (qfrom_any qy w42 ⟨by omega, by omega⟩).mono ?_
      rintro e w43 ⟨sb2, Ab2, nb2, cb2, tb2, Bb2, mb2, db2, rfl, hQ, hE⟩
      have Ew43 := Lib.hid hE
      clear hE
      have Qb2 := Lib.hid hQ
      clear hQ
      go_wp2_with fail
      refine And.intro (inX_of_ext _ (Ext.trans Ew42.out Ew43.out)) ?_
      repeat (refine lexAt_still (by rfl) ?_; go_big_quiet_step (fail); refine wpQuiet_nil ?_)
      refine lexAt_move (by rfl) (by kernel_rfl) ?_
      go_wp2_with fail
      refine (qcmp_any sp Ap np cp tp Bp mp dp _ sb2 Ab2 nb2 cb2 tb2 Bb2 mb2 db2 _ w43 ((Qp.out.ext (Ext.trans Ew16.out (Ext.trans Ew17.out (Ext.trans Ew18.out (Ext.trans Ew19.out (Ext.trans Ew20.out (Ext.trans Ew21.out (Ext.trans Ew22.out (Ext.trans Ew23.out (Ext.trans Ew24.out (Ext.trans HEr.out (Ext.trans Ew41.out (Ext.trans Ew42.out Ew43.out))))))))))))).arg HZp.out (by omega)) (Qb2.out.arg (sz_small (z := qy) (by omega) (by omega)) (by omega))).mono ?_
      rintro e w44 ⟨rfl, hE⟩
      have Ew44 := Lib.hid hE
      clear hE
      obtain ⟨cm1, hcm1⟩ : ∃ x, cmpQ (partAt q xs k) (((qy : Int) : Rat)) = x := ⟨_, rfl⟩
      rw [hcm1]
      have Hcm1 := Lib.hid hcm1
      clear hcm1
      have hb6 : decide (0 < cm1) = false := by
        have : ¬ 0 < cm1 := by rw [← Hcm1.out]; exact fun e => Rat.not_lt.2 HPF1.out ((cmpQ_pos _ _).1 e)
        simp; omega
      go_wp2_with fail
      refine And.intro (inX_of_ext _ (Ext.trans Ew42.out (Ext.trans Ew43.out Ew44.out))) ?_
      repeat (refine lexAt_still (by rfl) ?_; go_big_quiet_step (fail); refine wpQuiet_nil ?_)
      refine lexAt_move (by rfl) (by kernel_rfl) ?_
      go_wp2_with fail
      refine (qsign_any sp Ap np cp tp Bp mp dp _ w44 (Qp.out.ext (Ext.trans Ew16.out (Ext.trans Ew17.out (Ext.trans Ew18.out (Ext.trans Ew19.out (Ext.trans Ew20.out (Ext.trans Ew21.out (Ext.trans Ew22.out (Ext.trans Ew23.out (Ext.trans Ew24.out (Ext.trans HEr.out (Ext.trans Ew41.out (Ext.trans Ew42.out (Ext.trans Ew43.out Ew44.out)))))))))))))).is).mono ?_
      rintro e w45 ⟨rfl, hE⟩
      have Ew45 := Lib.hid hE
      clear hE
      rw [Hsgp.out]
      have hb7 : decide (0 < sgp) = false := by
        have : ¬ 0 < sgp := by rw [← Hsgp.out]; exact fun e => HPS.out (HSP.out.1 e)
        simp; omega
      go_wp2_with fail
      refine And.intro (inX_of_ext _ (Ext.trans Ew42.out (Ext.trans Ew43.out (Ext.trans Ew44.out Ew45.out)))) ?_
      iterate 3 (refine lexAt_still (by rfl) ?_; go_big_quiet_step (fail); refine wpQuiet_nil ?_)
      iterate 14 (refine lexAt_skip (by kernel_rfl) ?_; simp only [Act.put, List.setIfInBounds_toArray, List.set_cons_succ, List.set_cons_zero])
      repeat (refine lexAt_still (by rfl) ?_; go_big_quiet_step (fail); refine wpQuiet_nil ?_)
      refine lexAt_nil ?_
      clear fp0 fp1 fp2 fp3 fq
      go_wp2_with fail
      refine wp_region_lexS (C := InX w45.drew []) (by kernel_rfl) (by kernel_rfl) (inX_self _ _) ?_
      have hE : Ext w45 w45.drew := Ext.rfl'.drew
      generalize w45.drew = w46 at *
      have Ew46 := Lib.hid hE
      clear hE
      have fs0 := fun z : ExtX w46 [] => z.cell (p := ⟨w24.heap.size, 0, none⟩) (HKu.out.ext (Ext.trans Ew41.out (Ext.trans Ew42.out (Ext.trans Ew43.out (Ext.trans Ew44.out (Ext.trans Ew45.out Ew46.out)))))).1.1 (by simp)
      have fs1 := fun z : ExtX w46 [] => z.cell (p := ⟨w24.heap.size, 1, none⟩) (HKu.out.ext (Ext.trans Ew41.out (Ext.trans Ew42.out (Ext.trans Ew43.out (Ext.trans Ew44.out (Ext.trans Ew45.out Ew46.out)))))).1.2.1 (by simp)
      have fs2 := fun z : ExtX w46 [] => z.cell (p := ⟨w24.heap.size, 2, none⟩) (HKu.out.ext (Ext.trans Ew41.out (Ext.trans Ew42.out (Ext.trans Ew43.out (Ext.trans Ew44.out (Ext.trans Ew45.out Ew46.out)))))).1.2.2.1 (by simp)
      have fs3 := fun z : ExtX w46 [] => z.cell (p := ⟨w24.heap.size, 3, none⟩) (HKu.out.ext (Ext.trans Ew41.out (Ext.trans Ew42.out (Ext.trans Ew43.out (Ext.trans Ew44.out (Ext.trans Ew45.out Ew46.out)))))).1.2.2.2 (by simp)
      have fp0 := fun z : ExtX w46 [] => z.cell (p := ⟨gp, k * 4, none⟩) (Ext.cellOf (Ext.trans Ew16.out (Ext.trans Ew17.out (Ext.trans Ew18.out (Ext.trans Ew19.out (Ext.trans Ew20.out (Ext.trans Ew21.out (Ext.trans Ew22.out (Ext.trans Ew23.out (Ext.trans Ew24.out (Ext.trans HEr.out (Ext.trans Ew41.out (Ext.trans Ew42.out (Ext.trans Ew43.out (Ext.trans Ew44.out (Ext.trans Ew45.out Ew46.out))))))))))))))) HP0.out.1) (by simp)
      have fp1 := fun z : ExtX w46 [] => z.cell (p := ⟨gp, k * 4 + 1, none⟩) (Ext.cellOf (Ext.trans Ew16.out (Ext.trans Ew17.out (Ext.trans Ew18.out (Ext.trans Ew19.out (Ext.trans Ew20.out (Ext.trans Ew21.out (Ext.trans Ew22.out (Ext.trans Ew23.out (Ext.trans Ew24.out (Ext.trans HEr.out (Ext.trans Ew41.out (Ext.trans Ew42.out (Ext.trans Ew43.out (Ext.trans Ew44.out (Ext.trans Ew45.out Ew46.out))))))))))))))) HP0.out.2.1) (by simp)
      have fp2 := fun z : ExtX w46 [] => z.cell (p := ⟨gp, k * 4 + 2, none⟩) (Ext.cellOf (Ext.trans Ew16.out (Ext.trans Ew17.out (Ext.trans Ew18.out (Ext.trans Ew19.out (Ext.trans Ew20.out (Ext.trans Ew21.out (Ext.trans Ew22.out (Ext.trans Ew23.out (Ext.trans Ew24.out (Ext.trans HEr.out (Ext.trans Ew41.out (Ext.trans Ew42.out (Ext.trans Ew43.out (Ext.trans Ew44.out (Ext.trans Ew45.out Ew46.out))))))))))))))) HP0.out.2.2.1) (by simp)
      have fp3 := fun z : ExtX w46 [] => z.cell (p := ⟨gp, k * 4 + 3, none⟩) (Ext.cellOf (Ext.trans Ew16.out (Ext.trans Ew17.out (Ext.trans Ew18.out (Ext.trans Ew19.out (Ext.trans Ew20.out (Ext.trans Ew21.out (Ext.trans Ew22.out (Ext.trans Ew23.out (Ext.trans Ew24.out (Ext.trans HEr.out (Ext.trans Ew41.out (Ext.trans Ew42.out (Ext.trans Ew43.out (Ext.trans Ew44.out (Ext.trans Ew45.out Ew46.out))))))))))))))) HP0.out.2.2.2) (by simp)
      repeat (refine lexAt_still (by rfl) ?_; go_big_quiet_step (fail); refine wpQuiet_nil ?_)
      refine lexAt_move (by rfl) (by kernel_rfl) ?_
      go_wp2_with fail
      refine (qadd_any su Au nu cu tu Bu mu du _ sp Ap np cp tp Bp mp dp _ w46 ((HQu.out.ext (Ext.trans Ew41.out (Ext.trans Ew42.out (Ext.trans Ew43.out (Ext.trans Ew44.out (Ext.trans Ew45.out Ew46.out)))))).arg HZu.out (by omega)) ((Qp.out.ext (Ext.trans Ew16.out (Ext.trans Ew17.out (Ext.trans Ew18.out (Ext.trans Ew19.out (Ext.trans Ew20.out (Ext.trans Ew21.out (Ext.trans Ew22.out (Ext.trans Ew23.out (Ext.trans Ew24.out (Ext.trans HEr.out (Ext.trans Ew41.out (Ext.trans Ew42.out (Ext.trans Ew43.out (Ext.trans Ew44.out (Ext.trans Ew45.out Ew46.out)))))))))))))))).arg HZp.out (by omega))).mono ?_
      rintro e w47 ⟨sa1, Aa1, na1, ca1, ta1, Ba1, ma1, da1, rfl, hQ, hE⟩
      have Ew47 := Lib.hid hE
      clear hE
      have Qa1 := Lib.hid hQ
      clear hQ
      have HXe := Lib.hid (inX_of_ext [] Ew47.out)
      clear fs0 fs1 fs2 fs3 fp0 fp1 fp2 fp3
      obtain ⟨⟨o0, o1, o2, o3⟩, ⟨q0, q1, q2, q3⟩, ol⟩ := (HKu.out.ext (Ext.trans Ew41.out (Ext.trans Ew42.out (Ext.trans Ew43.out (Ext.trans Ew44.out (Ext.trans Ew45.out (Ext.trans Ew46.out Ew47.out)))))))
      go_wp2_with fail
      refine And.intro HXe.out ?_
      refine lexAt_last (by rfl) (by kernel_rfl) (by kernel_rfl) ?_
      go_wp2_with fail
      refine And.intro trivial (lexAt_nil ?_)
      clear o0 o1 o2 o3 q0 q1 q2 q3 ol HXe
      have Ks_3 := Lib.hid ((HKu.out.ext (Ext.trans Ew41.out (Ext.trans Ew42.out (Ext.trans Ew43.out (Ext.trans Ew44.out (Ext.trans Ew45.out (Ext.trans Ew46.out Ew47.out))))))).put4 (.bool sa1) (.slice Aa1 na1 ca1) (.bool ta1) (.slice Ba1 ma1 da1))
      have NJ3 := Lib.hid (ext_put4 (Ext.trans HEr.out (Ext.trans Ew41.out (Ext.trans Ew42.out (Ext.trans Ew43.out (Ext.trans Ew44.out (Ext.trans Ew45.out (Ext.trans Ew46.out Ew47.out))))))) (g := w24.heap.size) (Nat.le_refl _) 0 (.bool sa1) (.slice Aa1 na1 ca1) (.bool ta1) (.slice Ba1 ma1 da1))
      have NZ3 : Hid (w47.heap.size ≤ (put4 w47 (w24.heap.size) 0 (.bool sa1) (.slice Aa1 na1 ca1) (.bool ta1) (.slice Ba1 ma1 da1)).heap.size) := by unfold Hid; rw [put4_size]; exact Nat.le_refl _
      have Kt_3 := Lib.hid ((HKv.out.ext (Ext.trans Ew41.out (Ext.trans Ew42.out (Ext.trans Ew43.out (Ext.trans Ew44.out (Ext.trans Ew45.out (Ext.trans Ew46.out Ew47.out))))))).far4 (g := w24.heap.size) (off := 0) (by omega) (.bool sa1) (.slice Aa1 na1 ca1) (.bool ta1) (.slice Ba1 ma1 da1))
      have Qv_3 := Lib.hid ((HQv.out.ext (Ext.trans Ew41.out (Ext.trans Ew42.out (Ext.trans Ew43.out (Ext.trans Ew44.out (Ext.trans Ew45.out (Ext.trans Ew46.out Ew47.out))))))).put4A (g := w24.heap.size) (HAv.out _ (by simp)) 0 (.bool sa1) (.slice Aa1 na1 ca1) (.bool ta1) (.slice Ba1 ma1 da1))
      have Qa1_3 := Lib.hid (Qa1.out.put4A (g := w24.heap.size) (Qa1.out.span (.inl (Nat.lt_of_lt_of_le HKu.out.2.2 (Nat.le_trans Ew41.out.size (Nat.le_trans Ew42.out.size (Nat.le_trans Ew43.out.size (Nat.le_trans Ew44.out.size (Nat.le_trans Ew45.out.size Ew46.out.size)))))))) 0 (.bool sa1) (.slice Aa1 na1 ca1) (.bool ta1) (.slice Ba1 ma1 da1))
      unfold put4 at Ks_3 NJ3 NZ3 Kt_3 Qv_3 Qa1_3
      simp only [Nat.zero_add] at Ks_3 NJ3 NZ3 Kt_3 Qv_3 Qa1_3
      generalize ((((w47.setCell ⟨w24.heap.size, 0, none⟩ (.bool sa1)).setCell ⟨w24.heap.size, 1, none⟩ (.slice Aa1 na1 ca1)).setCell ⟨w24.heap.size, 2, none⟩ (.bool ta1)).setCell ⟨w24.heap.size, 3, none⟩ (.slice Ba1 ma1 da1)) = w48 at *
      go_wp2_with fail
      refine wp_region_lexS (C := InX w48.drew []) (by kernel_rfl) (by kernel_rfl) (inX_self _ _) ?_
      have hE : Ext w48 w48.drew := Ext.rfl'.drew
      generalize w48.drew = w49 at *
      have Ew49 := Lib.hid hE
      clear hE
      have ft0 := fun z : ExtX w49 [] => z.cell (p := ⟨w24.heap.size + 1, 0, none⟩) (Kt_3.out.ext Ew49.out).1.1 (by simp)
      have ft1 := fun z : ExtX w49 [] => z.cell (p := ⟨w24.heap.size + 1, 1, none⟩) (Kt_3.out.ext Ew49.out).1.2.1 (by simp)
      have ft2 := fun z : ExtX w49 [] => z.cell (p := ⟨w24.heap.size + 1, 2, none⟩) (Kt_3.out.ext Ew49.out).1.2.2.1 (by simp)
      have ft3 := fun z : ExtX w49 [] => z.cell (p := ⟨w24.heap.size + 1, 3, none⟩) (Kt_3.out.ext Ew49.out).1.2.2.2 (by simp)
      have fp0 := fun z : ExtX w49 [] => z.cell (p := ⟨gp, k * 4, none⟩) (Ext.cellOf (Ext.trans Ew16.out (Ext.trans Ew17.out (Ext.trans Ew18.out (Ext.trans Ew19.out (Ext.trans Ew20.out (Ext.trans Ew21.out (Ext.trans Ew22.out (Ext.trans Ew23.out (Ext.trans Ew24.out (Ext.trans NJ3.out Ew49.out)))))))))) HP0.out.1) (by simp)
      have fp1 := fun z : ExtX w49 [] => z.cell (p := ⟨gp, k * 4 + 1, none⟩) (Ext.cellOf (Ext.trans Ew16.out (Ext.trans Ew17.out (Ext.trans Ew18.out (Ext.trans Ew19.out (Ext.trans Ew20.out (Ext.trans Ew21.out (Ext.trans Ew22.out (Ext.trans Ew23.out (Ext.trans Ew24.out (Ext.trans NJ3.out Ew49.out)))))))))) HP0.out.2.1) (by simp)
      have fp2 := fun z : ExtX w49 [] => z.cell (p := ⟨gp, k * 4 + 2, none⟩) (Ext.cellOf (Ext.trans Ew16.out (Ext.trans Ew17.out (Ext.trans Ew18.out (Ext.trans Ew19.out (Ext.trans Ew20.out (Ext.trans Ew21.out (Ext.trans Ew22.out (Ext.trans Ew23.out (Ext.trans Ew24.out (Ext.trans NJ3.out Ew49.out)))))))))) HP0.out.2.2.1) (by simp)
      have fp3 := fun z : ExtX w49 [] => z.cell (p := ⟨gp, k * 4 + 3, none⟩) (Ext.cellOf (Ext.trans Ew16.out (Ext.trans Ew17.out (Ext.trans Ew18.out (Ext.trans Ew19.out (Ext.trans Ew20.out (Ext.trans Ew21.out (Ext.trans Ew22.out (Ext.trans Ew23.out (Ext.trans Ew24.out (Ext.trans NJ3.out Ew49.out)))))))))) HP0.out.2.2.2) (by simp)
      have fr := fun z : ExtX w49 [] => z.cell (p := ⟨b, off + k * 2 + 1, none⟩) (Ext.cellOf (Ext.trans Ewb1.out (Ext.trans Ewb2.out (Ext.trans Ew1.out (Ext.trans Ew2.out (Ext.trans Ew3.out (Ext.trans Ew4.out (Ext.trans Ew16.out (Ext.trans Ew17.out (Ext.trans Ew18.out (Ext.trans Ew19.out (Ext.trans Ew20.out (Ext.trans Ew21.out (Ext.trans Ew22.out (Ext.trans Ew23.out (Ext.trans Ew24.out (Ext.trans NJ3.out Ew49.out)))))))))))))))) HC1.out.2) (by simp)
      repeat (refine lexAt_still (by rfl) ?_; go_big_quiet_step (fail); refine wpQuiet_nil ?_)
      refine lexAt_move (by rfl) (by kernel_rfl) ?_
      go_wp2_with fail
      refine (qfrom_any py w49 ⟨by omega, by omega⟩).mono ?_
      rintro e w50 ⟨sb1, Ab1, nb1, cb1, tb1, Bb1, mb1, db1, rfl, hQ, hE⟩
      have Ew50 := Lib.hid hE
      clear hE
      have Qb1 := Lib.hid hQ
      clear hQ
      go_wp2_with fail
      refine And.intro (inX_of_ext _ Ew50.out) ?_
      repeat (refine lexAt_still (by rfl) ?_; go_big_quiet_step (fail); refine wpQuiet_nil ?_)
      refine lexAt_move (by rfl) (by kernel_rfl) ?_
      go_wp2_with fail
      refine (qmul_any sp Ap np cp tp Bp mp dp _ sb1 Ab1 nb1 cb1 tb1 Bb1 mb1 db1 _ w50 ((Qp.out.ext (Ext.trans Ew16.out (Ext.trans Ew17.out (Ext.trans Ew18.out (Ext.trans Ew19.out (Ext.trans Ew20.out (Ext.trans Ew21.out (Ext.trans Ew22.out (Ext.trans Ew23.out (Ext.trans Ew24.out (Ext.trans NJ3.out (Ext.trans Ew49.out Ew50.out)))))))))))).arg HZp.out (by omega)) (Qb1.out.arg (sz_small (z := py) (by omega) (by omega)) (by omega))).mono ?_
      rintro e w51 ⟨sc1, Ac1, nc1, cc1, tc1, Bc1, mc1, dc1, rfl, hQ, hE⟩
      have Ew51 := Lib.hid hE
      clear hE
      have Qc1 := Lib.hid hQ
      clear hQ
      go_wp2_with fail
      refine And.intro (inX_of_ext _ (Ext.trans Ew50.out Ew51.out)) ?_
      repeat (refine lexAt_still (by rfl) ?_; go_big_quiet_step (fail); refine wpQuiet_nil ?_)
      refine lexAt_move (by rfl) (by kernel_rfl) ?_
      go_wp2_with fail
      refine (qadd_any sv Av nv cv tv Bv mv dv _ sc1 Ac1 nc1 cc1 tc1 Bc1 mc1 dc1 _ w51 ((Qv_3.out.ext (Ext.trans Ew49.out (Ext.trans Ew50.out Ew51.out))).arg HZv.out (by omega)) (Qc1.out.arg (HZp.out.mul (sz_small (z := py) (by omega) (by omega))) (by omega))).mono ?_
      rintro e w52 ⟨se1, Ae1, ne1, ce1, te1, Be1, me1, de1, rfl, hQ, hE⟩
      have Ew52 := Lib.hid hE
      clear hE
      have Qe1 := Lib.hid hQ
      clear hQ
      have HXe := Lib.hid (inX_of_ext [] (Ext.trans Ew50.out (Ext.trans Ew51.out Ew52.out)))
      clear ft0 ft1 ft2 ft3 fp0 fp1 fp2 fp3 fr
      obtain ⟨⟨o0, o1, o2, o3⟩, ⟨q0, q1, q2, q3⟩, ol⟩ := (Kt_3.out.ext (Ext.trans Ew49.out (Ext.trans Ew50.out (Ext.trans Ew51.out Ew52.out))))
      go_wp2_with fail
      refine And.intro HXe.out ?_
      refine lexAt_last (by rfl) (by kernel_rfl) (by kernel_rfl) ?_
      go_wp2_with fail
      refine And.intro trivial (lexAt_nil ?_)
      clear o0 o1 o2 o3 q0 q1 q2 q3 ol HXe
      have Kt_4 := Lib.hid ((Kt_3.out.ext (Ext.trans Ew49.out (Ext.trans Ew50.out (Ext.trans Ew51.out Ew52.out)))).put4 (.bool se1) (.slice Ae1 ne1 ce1) (.bool te1) (.slice Be1 me1 de1))
      have NJ4 := Lib.hid (ext_put4 (Ext.trans NJ3.out (Ext.trans Ew49.out (Ext.trans Ew50.out (Ext.trans Ew51.out Ew52.out)))) (g := w24.heap.size + 1) (by omega) 0 (.bool se1) (.slice Ae1 ne1 ce1) (.bool te1) (.slice Be1 me1 de1))
      have NZ4 : Hid (w52.heap.size ≤ (put4 w52 (w24.heap.size + 1) 0 (.bool se1) (.slice Ae1 ne1 ce1) (.bool te1) (.slice Be1 me1 de1)).heap.size) := by unfold Hid; rw [put4_size]; exact Nat.le_refl _
      have Ks_4 := Lib.hid ((Ks_3.out.ext (Ext.trans Ew49.out (Ext.trans Ew50.out (Ext.trans Ew51.out Ew52.out)))).far4 (g := w24.heap.size + 1) (off := 0) (by omega) (.bool se1) (.slice Ae1 ne1 ce1) (.bool te1) (.slice Be1 me1 de1))
      have Qa1_4 := Lib.hid ((Qa1_3.out.ext (Ext.trans Ew49.out (Ext.trans Ew50.out (Ext.trans Ew51.out Ew52.out)))).put4A (g := w24.heap.size + 1) (Qa1.out.span (.inl (Nat.lt_of_lt_of_le HKv.out.2.2 (Nat.le_trans Ew41.out.size (Nat.le_trans Ew42.out.size (Nat.le_trans Ew43.out.size (Nat.le_trans Ew44.out.size (Nat.le_trans Ew45.out.size Ew46.out.size)))))))) 0 (.bool se1) (.slice Ae1 ne1 ce1) (.bool te1) (.slice Be1 me1 de1))
      have Qe1_4 := Lib.hid (Qe1.out.put4A (g := w24.heap.size + 1) (Qe1.out.span (.inl (Nat.lt_of_lt_of_le HKv.out.2.2 (Nat.le_trans Ew41.out.size (Nat.le_trans Ew42.out.size (Nat.le_trans Ew43.out.size (Nat.le_trans Ew44.out.size (Nat.le_trans Ew45.out.size (Nat.le_trans Ew46.out.size (Nat.le_trans Ew47.out.size (Nat.le_trans NZ3.out (Nat.le_trans Ew49.out.size (Nat.le_trans Ew50.out.size Ew51.out.size))))))))))))) 0 (.bool se1) (.slice Ae1 ne1 ce1) (.bool te1) (.slice Be1 me1 de1))
      unfold put4 at Kt_4 NJ4 NZ4 Ks_4 Qa1_4 Qe1_4
      simp only [Nat.zero_add] at Kt_4 NJ4 NZ4 Ks_4 Qa1_4 Qe1_4
      generalize ((((w52.setCell ⟨w24.heap.size + 1, 0, none⟩ (.bool se1)).setCell ⟨w24.heap.size + 1, 1, none⟩ (.slice Ae1 ne1 ce1)).setCell ⟨w24.heap.size + 1, 2, none⟩ (.bool te1)).setCell ⟨w24.heap.size + 1, 3, none⟩ (.slice Be1 me1 de1)) = w53 at *
      go_wp2_with fail
      go_roundw
      have HAWa : Hid (∀ x ∈ [w24.heap.size, w24.heap.size + 1], Away x (x + 1) Aa1 na1 ∧ Away x (x + 1) Ba1 ma1) := fun x hx => by
          simp only [List.mem_cons, List.not_mem_nil, or_false] at hx
          rcases hx with rfl | rfl
          · exact (Qa1.out.span (.inl (Nat.lt_of_lt_of_le HKu.out.2.2 (Nat.le_trans Ew41.out.size (Nat.le_trans Ew42.out.size (Nat.le_trans Ew43.out.size (Nat.le_trans Ew44.out.size (Nat.le_trans Ew45.out.size Ew46.out.size))))))))
          · exact (Qa1.out.span (.inl (Nat.lt_of_lt_of_le HKv.out.2.2 (Nat.le_trans Ew41.out.size (Nat.le_trans Ew42.out.size (Nat.le_trans Ew43.out.size (Nat.le_trans Ew44.out.size (Nat.le_trans Ew45.out.size Ew46.out.size))))))))
      have HAWe : Hid (∀ x ∈ [w24.heap.size, w24.heap.size + 1], Away x (x + 1) Ae1 ne1 ∧ Away x (x + 1) Be1 me1) := fun x hx => by
          simp only [List.mem_cons, List.not_mem_nil, or_false] at hx
          rcases hx with rfl | rfl
          · exact (Qe1.out.span (.inl (Nat.lt_of_lt_of_le HKu.out.2.2 (Nat.le_trans Ew41.out.size (Nat.le_trans Ew42.out.size (Nat.le_trans Ew43.out.size (Nat.le_trans Ew44.out.size (Nat.le_trans Ew45.out.size (Nat.le_trans Ew46.out.size (Nat.le_trans Ew47.out.size (Nat.le_trans NZ3.out (Nat.le_trans Ew49.out.size (Nat.le_trans Ew50.out.size Ew51.out.size)))))))))))))
          · exact (Qe1.out.span (.inl (Nat.lt_of_lt_of_le HKv.out.2.2 (Nat.le_trans Ew41.out.size (Nat.le_trans Ew42.out.size (Nat.le_trans Ew43.out.size (Nat.le_trans Ew44.out.size (Nat.le_trans Ew45.out.size (Nat.le_trans Ew46.out.size (Nat.le_trans Ew47.out.size (Nat.le_trans NZ3.out (Nat.le_trans Ew49.out.size (Nat.le_trans Ew50.out.size Ew51.out.size)))))))))))))
      case rel => exact ⟨k + 1, by omega, by go_num, NJ4.out, ⟨sa1, Aa1, na1, ca1, ta1, Ba1, ma1, da1, Ks_4.out, Qa1_4.out.base (Nat.zero_le _), HAWa.out⟩, ⟨se1, Ae1, ne1, ce1, te1, Be1, me1, de1, Kt_4.out, HCT.out ▸ Qe1_4.out.base (Nat.zero_le _), HAWe.out⟩⟩
      case measure => simp [intOf]; omega
    have HPS := Lib.hid hpos
    clear hpos
    obtain ⟨j, hj⟩ : ∃ j, k = j + 1 := ⟨k - 1, by omega⟩
    have HPJ := Lib.hid (HPK.out j hj HPS.out)
    have HR2 := HRJ.out j hj
    have hC2 := HCJ.out j hj
    obtain ⟨soo, Aoo, noo, coo, too, Boo, moo, doo, p0, p1, p2, p3, hpc⟩ := HP.out.2 j (by omega)
    have HP2 := Lib.hid (And.intro p0 (And.intro p1 (And.intro p2 p3)))
    have Qoo := Lib.hid hpc
    have HZo : Hid (Sz 10000 (partAt q xs j)) := (sz_part (HZ1.out.mono (by omega)) HR.out j (by rw [HL.out]; omega)).mono (by have := pow2_le (show j ≤ 3 by omega); omega)
    have HC2 := Lib.hid hC2
    clear hC2 p0 p1 p2 p3 hpc hk0
    generalize (xs.getD j (0, 0)).1 = qz at *
    obtain ⟨z1, z2, _, _⟩ := HR2
    have hj1 : IntKind.i64.wrap ((k : Int) - 1) = (k : Int) - 1 := IntWalk.i64_in _ (by omega)
    have hj2 : (0 : Int) ≤ (k : Int) - 1 := by omega
    have hj3 : (k : Int) - 1 < (n : Int) := by omega
    have hj4 : ((k : Int) - 1).toNat = j := by omega
    clear hj
    go_wp2_with fail
    refine wp_region_lexS (C := InX wr.drew []) (by kernel_rfl) (by kernel_rfl) (inX_self _ _) ?_
    have hE : Ext wr wr.drew := Ext.rfl'.drew
    generalize wr.drew = w54 at *
    have Ew54 := Lib.hid hE
    clear hE
    have fp0 := fun z : ExtX w54 [] => z.cell (p := ⟨gp, k * 4, none⟩) (Ext.cellOf (Ext.trans Ew16.out (Ext.trans Ew17.out (Ext.trans Ew18.out (Ext.trans Ew19.out (Ext.trans Ew20.out (Ext.trans Ew21.out (Ext.trans Ew22.out (Ext.trans Ew23.out (Ext.trans Ew24.out (Ext.trans HEr.out Ew54.out)))))))))) HP0.out.1) (by simp)
    have fp1 := fun z : ExtX w54 [] => z.cell (p := ⟨gp, k * 4 + 1, none⟩) (Ext.cellOf (Ext.trans Ew16.out (Ext.trans Ew17.out (Ext.trans Ew18.out (Ext.trans Ew19.out (Ext.trans Ew20.out (Ext.trans Ew21.out (Ext.trans Ew22.out (Ext.trans Ew23.out (Ext.trans Ew24.out (Ext.trans HEr.out Ew54.out)))))))))) HP0.out.2.1) (by simp)
    have fp2 := fun z : ExtX w54 [] => z.cell (p := ⟨gp, k * 4 + 2, none⟩) (Ext.cellOf (Ext.trans Ew16.out (Ext.trans Ew17.out (Ext.trans Ew18.out (Ext.trans Ew19.out (Ext.trans Ew20.out (Ext.trans Ew21.out (Ext.trans Ew22.out (Ext.trans Ew23.out (Ext.trans Ew24.out (Ext.trans HEr.out Ew54.out)))))))))) HP0.out.2.2.1) (by simp)
    have fp3 := fun z : ExtX w54 [] => z.cell (p := ⟨gp, k * 4 + 3, none⟩) (Ext.cellOf (Ext.trans Ew16.out (Ext.trans Ew17.out (Ext.trans Ew18.out (Ext.trans Ew19.out (Ext.trans Ew20.out (Ext.trans Ew21.out (Ext.trans Ew22.out (Ext.trans Ew23.out (Ext.trans Ew24.out (Ext.trans HEr.out Ew54.out)))))))))) HP0.out.2.2.2) (by simp)
    have fq := fun z : ExtX w54 [] => z.cell (p := ⟨b, off + k * 2, none⟩) (Ext.cellOf (Ext.trans Ewb1.out (Ext.trans Ewb2.out (Ext.trans Ew1.out (Ext.trans Ew2.out (Ext.trans Ew3.out (Ext.trans Ew4.out (Ext.trans Ew16.out (Ext.trans Ew17.out (Ext.trans Ew18.out (Ext.trans Ew19.out (Ext.trans Ew20.out (Ext.trans Ew21.out (Ext.trans Ew22.out (Ext.trans Ew23.out (Ext.trans Ew24.out (Ext.trans HEr.out Ew54.out)))))))))))))))) HC1.out.1) (by simp)
    have fo0 := fun z : ExtX w54 [] => z.cell (p := ⟨gp, j * 4, none⟩) (Ext.cellOf (Ext.trans Ew16.out (Ext.trans Ew17.out (Ext.trans Ew18.out (Ext.trans Ew19.out (Ext.trans Ew20.out (Ext.trans Ew21.out (Ext.trans Ew22.out (Ext.trans Ew23.out (Ext.trans Ew24.out (Ext.trans HEr.out Ew54.out)))))))))) HP2.out.1) (by simp)
    have fo1 := fun z : ExtX w54 [] => z.cell (p := ⟨gp, j * 4 + 1, none⟩) (Ext.cellOf (Ext.trans Ew16.out (Ext.trans Ew17.out (Ext.trans Ew18.out (Ext.trans Ew19.out (Ext.trans Ew20.out (Ext.trans Ew21.out (Ext.trans Ew22.out (Ext.trans Ew23.out (Ext.trans Ew24.out (Ext.trans HEr.out Ew54.out)))))))))) HP2.out.2.1) (by simp)
    have fo2 := fun z : ExtX w54 [] => z.cell (p := ⟨gp, j * 4 + 2, none⟩) (Ext.cellOf (Ext.trans Ew16.out (Ext.trans Ew17.out (Ext.trans Ew18.out (Ext.trans Ew19.out (Ext.trans Ew20.out (Ext.trans Ew21.out (Ext.trans Ew22.out (Ext.trans Ew23.out (Ext.trans Ew24.out (Ext.trans HEr.out Ew54.out)))))))))) HP2.out.2.2.1) (by simp)
    have fo3 := fun z : ExtX w54 [] => z.cell (p := ⟨gp, j * 4 + 3, none⟩) (Ext.cellOf (Ext.trans Ew16.out (Ext.trans Ew17.out (Ext.trans Ew18.out (Ext.trans Ew19.out (Ext.trans Ew20.out (Ext.trans Ew21.out (Ext.trans Ew22.out (Ext.trans Ew23.out (Ext.trans Ew24.out (Ext.trans HEr.out Ew54.out)))))))))) HP2.out.2.2.2) (by simp)
    have fz := fun z : ExtX w54 [] => z.cell (p := ⟨b, off + j * 2, none⟩) (Ext.cellOf (Ext.trans Ewb1.out (Ext.trans Ewb2.out (Ext.trans Ew1.out (Ext.trans Ew2.out (Ext.trans Ew3.out (Ext.trans Ew4.out (Ext.trans Ew16.out (Ext.trans Ew17.out (Ext.trans Ew18.out (Ext.trans Ew19.out (Ext.trans Ew20.out (Ext.trans Ew21.out (Ext.trans Ew22.out (Ext.trans Ew23.out (Ext.trans Ew24.out (Ext.trans HEr.out Ew54.out)))))))))))))))) HC2.out.1) (by simp)
    repeat (refine lexAt_still (by rfl) ?_; go_big_quiet_step (fail); refine wpQuiet_nil ?_)
    refine lexAt_move (by rfl) (by kernel_rfl) ?_
    go_wp2_with fail
    refine (qsign_any sp Ap np cp tp Bp mp dp _ w54 (Qp.out.ext (Ext.trans Ew16.out (Ext.trans Ew17.out (Ext.trans Ew18.out (Ext.trans Ew19.out (Ext.trans Ew20.out (Ext.trans Ew21.out (Ext.trans Ew22.out (Ext.trans Ew23.out (Ext.trans Ew24.out (Ext.trans HEr.out Ew54.out))))))))))).is).mono ?_
    rintro e w55 ⟨rfl, hE⟩
    have Ew55 := Lib.hid hE
    clear hE
    obtain ⟨sgp, hsgp⟩ : ∃ x, Int.sign (Rat.num (partAt q xs k)) = x := ⟨_, rfl⟩
    rw [hsgp]
    have Hsgp := Lib.hid hsgp
    clear hsgp
    have hb5 : decide (sgp < 0) = false := by rw [← Hsgp.out]; exact decide_eq_false (fun e => Rat.not_lt.2 HPF0.out (HSM.out.1 e))
    go_wp2_with fail
    refine And.intro (inX_of_ext _ Ew55.out) ?_
    repeat (refine lexAt_still (by rfl) ?_; go_big_quiet_step (fail); refine wpQuiet_nil ?_)
    refine lexAt_move (by rfl) (by kernel_rfl) ?_
    go_wp2_with fail
    refine (qfrom_any qy w55 ⟨by omega, by omega⟩).mono ?_
    rintro e w56 ⟨sb2, Ab2, nb2, cb2, tb2, Bb2, mb2, db2, rfl, hQ, hE⟩
    have Ew56 := Lib.hid hE
    clear hE
    have Qb2 := Lib.hid hQ
    clear hQ
    go_wp2_with fail
    refine And.intro (inX_of_ext _ (Ext.trans Ew55.out Ew56.out)) ?_
    repeat (refine lexAt_still (by rfl) ?_; go_big_quiet_step (fail); refine wpQuiet_nil ?_)
    refine lexAt_move (by rfl) (by kernel_rfl) ?_
    go_wp2_with fail
    refine (qcmp_any sp Ap np cp tp Bp mp dp _ sb2 Ab2 nb2 cb2 tb2 Bb2 mb2 db2 _ w56 ((Qp.out.ext (Ext.trans Ew16.out (Ext.trans Ew17.out (Ext.trans Ew18.out (Ext.trans Ew19.out (Ext.trans Ew20.out (Ext.trans Ew21.out (Ext.trans Ew22.out (Ext.trans Ew23.out (Ext.trans Ew24.out (Ext.trans HEr.out (Ext.trans Ew54.out (Ext.trans Ew55.out Ew56.out))))))))))))).arg HZp.out (by omega)) (Qb2.out.arg (sz_small (z := qy) (by omega) (by omega)) (by omega))).mono ?_
    rintro e w57 ⟨rfl, hE⟩
    have Ew57 := Lib.hid hE
    clear hE
    obtain ⟨cm1, hcm1⟩ : ∃ x, cmpQ (partAt q xs k) (((qy : Int) : Rat)) = x := ⟨_, rfl⟩
    rw [hcm1]
    have Hcm1 := Lib.hid hcm1
    clear hcm1
    have hb6 : decide (0 < cm1) = false := by
      have : ¬ 0 < cm1 := by rw [← Hcm1.out]; exact fun e => Rat.not_lt.2 HPF1.out ((cmpQ_pos _ _).1 e)
      simp; omega
    go_wp2_with fail
    refine And.intro (inX_of_ext _ (Ext.trans Ew55.out (Ext.trans Ew56.out Ew57.out))) ?_
    repeat (refine lexAt_still (by rfl) ?_; go_big_quiet_step (fail); refine wpQuiet_nil ?_)
    refine lexAt_move (by rfl) (by kernel_rfl) ?_
    go_wp2_with fail
    refine (qsign_any sp Ap np cp tp Bp mp dp _ w57 (Qp.out.ext (Ext.trans Ew16.out (Ext.trans Ew17.out (Ext.trans Ew18.out (Ext.trans Ew19.out (Ext.trans Ew20.out (Ext.trans Ew21.out (Ext.trans Ew22.out (Ext.trans Ew23.out (Ext.trans Ew24.out (Ext.trans HEr.out (Ext.trans Ew54.out (Ext.trans Ew55.out (Ext.trans Ew56.out Ew57.out)))))))))))))).is).mono ?_
    rintro e w58 ⟨rfl, hE⟩
    have Ew58 := Lib.hid hE
    clear hE
    rw [Hsgp.out]
    have hb7 : decide (0 < sgp) = true := by
      have : 0 < sgp := by rw [← Hsgp.out]; exact HSP.out.2 HPS.out
      simp; omega
    go_wp2_with fail
    refine And.intro (inX_of_ext _ (Ext.trans Ew55.out (Ext.trans Ew56.out (Ext.trans Ew57.out Ew58.out)))) ?_
    repeat (refine lexAt_still (by rfl) ?_; go_big_quiet_step (fail); refine wpQuiet_nil ?_)
    refine lexAt_move (by rfl) (by kernel_rfl) ?_
    go_wp2_with fail
    refine (qfrom_any qz w58 ⟨by omega, by omega⟩).mono ?_
    rintro e w59 ⟨sb3, Ab3, nb3, cb3, tb3, Bb3, mb3, db3, rfl, hQ, hE⟩
    have Ew59 := Lib.hid hE
    clear hE
    have Qb3 := Lib.hid hQ
    clear hQ
    go_wp2_with fail
    refine And.intro (inX_of_ext _ (Ext.trans Ew55.out (Ext.trans Ew56.out (Ext.trans Ew57.out (Ext.trans Ew58.out Ew59.out))))) ?_
    repeat (refine lexAt_still (by rfl) ?_; go_big_quiet_step (fail); refine wpQuiet_nil ?_)
    refine lexAt_move (by rfl) (by kernel_rfl) ?_
    go_wp2_with fail
    refine (qequal_any soo Aoo noo coo too Boo moo doo _ sb3 Ab3 nb3 cb3 tb3 Bb3 mb3 db3 _ w59 ((Qoo.out.ext (Ext.trans Ew16.out (Ext.trans Ew17.out (Ext.trans Ew18.out (Ext.trans Ew19.out (Ext.trans Ew20.out (Ext.trans Ew21.out (Ext.trans Ew22.out (Ext.trans Ew23.out (Ext.trans Ew24.out (Ext.trans HEr.out (Ext.trans Ew54.out (Ext.trans Ew55.out (Ext.trans Ew56.out (Ext.trans Ew57.out (Ext.trans Ew58.out Ew59.out)))))))))))))))).arg HZo.out (by omega)) (Qb3.out.arg (sz_small (z := qz) (by omega) (by omega)) (by omega))).mono ?_
    rintro e w60 ⟨rfl, hE⟩
    have Ew60 := Lib.hid hE
    clear hE
    rw [decide_eq_true HPJ.out]
    go_wp2_with fail
    refine And.intro (inX_of_ext _ (Ext.trans Ew55.out (Ext.trans Ew56.out (Ext.trans Ew57.out (Ext.trans Ew58.out (Ext.trans Ew59.out Ew60.out)))))) ?_
    repeat (refine lexAt_still (by rfl) ?_; go_big_quiet_step (fail); refine wpQuiet_nil ?_)
    refine lexAt_nil ?_
    clear fp0 fp1 fp2 fp3 fq fo0 fo1 fo2 fo3 fz
    go_wp2_with fail
    refine wp_region_lexS (C := InX w60.drew []) (by kernel_rfl) (by kernel_rfl) (inX_self _ _) ?_
    have hE : Ext w60 w60.drew := Ext.rfl'.drew
    generalize w60.drew = w61 at *
    have Ew61 := Lib.hid hE
    clear hE
    have fs0 := fun z : ExtX w61 [] => z.cell (p := ⟨w24.heap.size, 0, none⟩) (HKu.out.ext (Ext.trans Ew54.out (Ext.trans Ew55.out (Ext.trans Ew56.out (Ext.trans Ew57.out (Ext.trans Ew58.out (Ext.trans Ew59.out (Ext.trans Ew60.out Ew61.out)))))))).1.1 (by simp)
    have fs1 := fun z : ExtX w61 [] => z.cell (p := ⟨w24.heap.size, 1, none⟩) (HKu.out.ext (Ext.trans Ew54.out (Ext.trans Ew55.out (Ext.trans Ew56.out (Ext.trans Ew57.out (Ext.trans Ew58.out (Ext.trans Ew59.out (Ext.trans Ew60.out Ew61.out)))))))).1.2.1 (by simp)
    have fs2 := fun z : ExtX w61 [] => z.cell (p := ⟨w24.heap.size, 2, none⟩) (HKu.out.ext (Ext.trans Ew54.out (Ext.trans Ew55.out (Ext.trans Ew56.out (Ext.trans Ew57.out (Ext.trans Ew58.out (Ext.trans Ew59.out (Ext.trans Ew60.out Ew61.out)))))))).1.2.2.1 (by simp)
    have fs3 := fun z : ExtX w61 [] => z.cell (p := ⟨w24.heap.size, 3, none⟩) (HKu.out.ext (Ext.trans Ew54.out (Ext.trans Ew55.out (Ext.trans Ew56.out (Ext.trans Ew57.out (Ext.trans Ew58.out (Ext.trans Ew59.out (Ext.trans Ew60.out Ew61.out)))))))).1.2.2.2 (by simp)
    have fp0 := fun z : ExtX w61 [] => z.cell (p := ⟨gp, k * 4, none⟩) (Ext.cellOf (Ext.trans Ew16.out (Ext.trans Ew17.out (Ext.trans Ew18.out (Ext.trans Ew19.out (Ext.trans Ew20.out (Ext.trans Ew21.out (Ext.trans Ew22.out (Ext.trans Ew23.out (Ext.trans Ew24.out (Ext.trans HEr.out (Ext.trans Ew54.out (Ext.trans Ew55.out (Ext.trans Ew56.out (Ext.trans Ew57.out (Ext.trans Ew58.out (Ext.trans Ew59.out (Ext.trans Ew60.out Ew61.out))))))))))))))))) HP0.out.1) (by simp)
    have fp1 := fun z : ExtX w61 [] => z.cell (p := ⟨gp, k * 4 + 1, none⟩) (Ext.cellOf (Ext.trans Ew16.out (Ext.trans Ew17.out (Ext.trans Ew18.out (Ext.trans Ew19.out (Ext.trans Ew20.out (Ext.trans Ew21.out (Ext.trans Ew22.out (Ext.trans Ew23.out (Ext.trans Ew24.out (Ext.trans HEr.out (Ext.trans Ew54.out (Ext.trans Ew55.out (Ext.trans Ew56.out (Ext.trans Ew57.out (Ext.trans Ew58.out (Ext.trans Ew59.out (Ext.trans Ew60.out Ew61.out))))))))))))))))) HP0.out.2.1) (by simp)
    have fp2 := fun z : ExtX w61 [] => z.cell (p := ⟨gp, k * 4 + 2, none⟩) (Ext.cellOf (Ext.trans Ew16.out (Ext.trans Ew17.out (Ext.trans Ew18.out (Ext.trans Ew19.out (Ext.trans Ew20.out (Ext.trans Ew21.out (Ext.trans Ew22.out (Ext.trans Ew23.out (Ext.trans Ew24.out (Ext.trans HEr.out (Ext.trans Ew54.out (Ext.trans Ew55.out (Ext.trans Ew56.out (Ext.trans Ew57.out (Ext.trans Ew58.out (Ext.trans Ew59.out (Ext.trans Ew60.out Ew61.out))))))))))))))))) HP0.out.2.2.1) (by simp)
    have fp3 := fun z : ExtX w61 [] => z.cell (p := ⟨gp, k * 4 + 3, none⟩) (Ext.cellOf (Ext.trans Ew16.out (Ext.trans Ew17.out (Ext.trans Ew18.out (Ext.trans Ew19.out (Ext.trans Ew20.out (Ext.trans Ew21.out (Ext.trans Ew22.out (Ext.trans Ew23.out (Ext.trans Ew24.out (Ext.trans HEr.out (Ext.trans Ew54.out (Ext.trans Ew55.out (Ext.trans Ew56.out (Ext.trans Ew57.out (Ext.trans Ew58.out (Ext.trans Ew59.out (Ext.trans Ew60.out Ew61.out))))))))))))))))) HP0.out.2.2.2) (by simp)
    repeat (refine lexAt_still (by rfl) ?_; go_big_quiet_step (fail); refine wpQuiet_nil ?_)
    refine lexAt_move (by rfl) (by kernel_rfl) ?_
    go_wp2_with fail
    refine (qadd_any su Au nu cu tu Bu mu du _ sp Ap np cp tp Bp mp dp _ w61 ((HQu.out.ext (Ext.trans Ew54.out (Ext.trans Ew55.out (Ext.trans Ew56.out (Ext.trans Ew57.out (Ext.trans Ew58.out (Ext.trans Ew59.out (Ext.trans Ew60.out Ew61.out)))))))).arg HZu.out (by omega)) ((Qp.out.ext (Ext.trans Ew16.out (Ext.trans Ew17.out (Ext.trans Ew18.out (Ext.trans Ew19.out (Ext.trans Ew20.out (Ext.trans Ew21.out (Ext.trans Ew22.out (Ext.trans Ew23.out (Ext.trans Ew24.out (Ext.trans HEr.out (Ext.trans Ew54.out (Ext.trans Ew55.out (Ext.trans Ew56.out (Ext.trans Ew57.out (Ext.trans Ew58.out (Ext.trans Ew59.out (Ext.trans Ew60.out Ew61.out)))))))))))))))))).arg HZp.out (by omega))).mono ?_
    rintro e w62 ⟨sa1, Aa1, na1, ca1, ta1, Ba1, ma1, da1, rfl, hQ, hE⟩
    have Ew62 := Lib.hid hE
    clear hE
    have Qa1 := Lib.hid hQ
    clear hQ
    have HXe := Lib.hid (inX_of_ext [] Ew62.out)
    clear fs0 fs1 fs2 fs3 fp0 fp1 fp2 fp3
    obtain ⟨⟨o0, o1, o2, o3⟩, ⟨q0, q1, q2, q3⟩, ol⟩ := (HKu.out.ext (Ext.trans Ew54.out (Ext.trans Ew55.out (Ext.trans Ew56.out (Ext.trans Ew57.out (Ext.trans Ew58.out (Ext.trans Ew59.out (Ext.trans Ew60.out (Ext.trans Ew61.out Ew62.out)))))))))
    go_wp2_with fail
    refine And.intro HXe.out ?_
    refine lexAt_last (by rfl) (by kernel_rfl) (by kernel_rfl) ?_
    go_wp2_with fail
    refine And.intro trivial (lexAt_nil ?_)
    clear o0 o1 o2 o3 q0 q1 q2 q3 ol HXe
    have Ks_5 := Lib.hid ((HKu.out.ext (Ext.trans Ew54.out (Ext.trans Ew55.out (Ext.trans Ew56.out (Ext.trans Ew57.out (Ext.trans Ew58.out (Ext.trans Ew59.out (Ext.trans Ew60.out (Ext.trans Ew61.out Ew62.out))))))))).put4 (.bool sa1) (.slice Aa1 na1 ca1) (.bool ta1) (.slice Ba1 ma1 da1))
    have NJ5 := Lib.hid (ext_put4 (Ext.trans HEr.out (Ext.trans Ew54.out (Ext.trans Ew55.out (Ext.trans Ew56.out (Ext.trans Ew57.out (Ext.trans Ew58.out (Ext.trans Ew59.out (Ext.trans Ew60.out (Ext.trans Ew61.out Ew62.out))))))))) (g := w24.heap.size) (Nat.le_refl _) 0 (.bool sa1) (.slice Aa1 na1 ca1) (.bool ta1) (.slice Ba1 ma1 da1))
    have NZ5 : Hid (w62.heap.size ≤ (put4 w62 (w24.heap.size) 0 (.bool sa1) (.slice Aa1 na1 ca1) (.bool ta1) (.slice Ba1 ma1 da1)).heap.size) := by unfold Hid; rw [put4_size]; exact Nat.le_refl _
    have Kt_5 := Lib.hid ((HKv.out.ext (Ext.trans Ew54.out (Ext.trans Ew55.out (Ext.trans Ew56.out (Ext.trans Ew57.out (Ext.trans Ew58.out (Ext.trans Ew59.out (Ext.trans Ew60.out (Ext.trans Ew61.out Ew62.out))))))))).far4 (g := w24.heap.size) (off := 0) (by omega) (.bool sa1) (.slice Aa1 na1 ca1) (.bool ta1) (.slice Ba1 ma1 da1))
    have Qv_5 := Lib.hid ((HQv.out.ext (Ext.trans Ew54.out (Ext.trans Ew55.out (Ext.trans Ew56.out (Ext.trans Ew57.out (Ext.trans Ew58.out (Ext.trans Ew59.out (Ext.trans Ew60.out (Ext.trans Ew61.out Ew62.out))))))))).put4A (g := w24.heap.size) (HAv.out _ (by simp)) 0 (.bool sa1) (.slice Aa1 na1 ca1) (.bool ta1) (.slice Ba1 ma1 da1))
    have Qa1_5 := Lib.hid (Qa1.out.put4A (g := w24.heap.size) (Qa1.out.span (.inl (Nat.lt_of_lt_of_le HKu.out.2.2 (Nat.le_trans Ew54.out.size (Nat.le_trans Ew55.out.size (Nat.le_trans Ew56.out.size (Nat.le_trans Ew57.out.size (Nat.le_trans Ew58.out.size (Nat.le_trans Ew59.out.size (Nat.le_trans Ew60.out.size Ew61.out.size)))))))))) 0 (.bool sa1) (.slice Aa1 na1 ca1) (.bool ta1) (.slice Ba1 ma1 da1))
    unfold put4 at Ks_5 NJ5 NZ5 Kt_5 Qv_5 Qa1_5
    simp only [Nat.zero_add] at Ks_5 NJ5 NZ5 Kt_5 Qv_5 Qa1_5
    generalize ((((w62.setCell ⟨w24.heap.size, 0, none⟩ (.bool sa1)).setCell ⟨w24.heap.size, 1, none⟩ (.slice Aa1 na1 ca1)).setCell ⟨w24.heap.size, 2, none⟩ (.bool ta1)).setCell ⟨w24.heap.size, 3, none⟩ (.slice Ba1 ma1 da1)) = w63 at *
    go_wp2_with fail
    refine wp_region_lexS (C := InX w63.drew []) (by kernel_rfl) (by kernel_rfl) (inX_self _ _) ?_
    have hE : Ext w63 w63.drew := Ext.rfl'.drew
    generalize w63.drew = w64 at *
    have Ew64 := Lib.hid hE
    clear hE
    have ft0 := fun z : ExtX w64 [] => z.cell (p := ⟨w24.heap.size + 1, 0, none⟩) (Kt_5.out.ext Ew64.out).1.1 (by simp)
    have ft1 := fun z : ExtX w64 [] => z.cell (p := ⟨w24.heap.size + 1, 1, none⟩) (Kt_5.out.ext Ew64.out).1.2.1 (by simp)
    have ft2 := fun z : ExtX w64 [] => z.cell (p := ⟨w24.heap.size + 1, 2, none⟩) (Kt_5.out.ext Ew64.out).1.2.2.1 (by simp)
    have ft3 := fun z : ExtX w64 [] => z.cell (p := ⟨w24.heap.size + 1, 3, none⟩) (Kt_5.out.ext Ew64.out).1.2.2.2 (by simp)
    have fp0 := fun z : ExtX w64 [] => z.cell (p := ⟨gp, k * 4, none⟩) (Ext.cellOf (Ext.trans Ew16.out (Ext.trans Ew17.out (Ext.trans Ew18.out (Ext.trans Ew19.out (Ext.trans Ew20.out (Ext.trans Ew21.out (Ext.trans Ew22.out (Ext.trans Ew23.out (Ext.trans Ew24.out (Ext.trans NJ5.out Ew64.out)))))))))) HP0.out.1) (by simp)
    have fp1 := fun z : ExtX w64 [] => z.cell (p := ⟨gp, k * 4 + 1, none⟩) (Ext.cellOf (Ext.trans Ew16.out (Ext.trans Ew17.out (Ext.trans Ew18.out (Ext.trans Ew19.out (Ext.trans Ew20.out (Ext.trans Ew21.out (Ext.trans Ew22.out (Ext.trans Ew23.out (Ext.trans Ew24.out (Ext.trans NJ5.out Ew64.out)))))))))) HP0.out.2.1) (by simp)
    have fp2 := fun z : ExtX w64 [] => z.cell (p := ⟨gp, k * 4 + 2, none⟩) (Ext.cellOf (Ext.trans Ew16.out (Ext.trans Ew17.out (Ext.trans Ew18.out (Ext.trans Ew19.out (Ext.trans Ew20.out (Ext.trans Ew21.out (Ext.trans Ew22.out (Ext.trans Ew23.out (Ext.trans Ew24.out (Ext.trans NJ5.out Ew64.out)))))))))) HP0.out.2.2.1) (by simp)
    have fp3 := fun z : ExtX w64 [] => z.cell (p := ⟨gp, k * 4 + 3, none⟩) (Ext.cellOf (Ext.trans Ew16.out (Ext.trans Ew17.out (Ext.trans Ew18.out (Ext.trans Ew19.out (Ext.trans Ew20.out (Ext.trans Ew21.out (Ext.trans Ew22.out (Ext.trans Ew23.out (Ext.trans Ew24.out (Ext.trans NJ5.out Ew64.out)))))))))) HP0.out.2.2.2) (by simp)
    have fr := fun z : ExtX w64 [] => z.cell (p := ⟨b, off + k * 2 + 1, none⟩) (Ext.cellOf (Ext.trans Ewb1.out (Ext.trans Ewb2.out (Ext.trans Ew1.out (Ext.trans Ew2.out (Ext.trans Ew3.out (Ext.trans Ew4.out (Ext.trans Ew16.out (Ext.trans Ew17.out (Ext.trans Ew18.out (Ext.trans Ew19.out (Ext.trans Ew20.out (Ext.trans Ew21.out (Ext.trans Ew22.out (Ext.trans Ew23.out (Ext.trans Ew24.out (Ext.trans NJ5.out Ew64.out)))))))))))))))) HC1.out.2) (by simp)
    repeat (refine lexAt_still (by rfl) ?_; go_big_quiet_step (fail); refine wpQuiet_nil ?_)
    refine lexAt_move (by rfl) (by kernel_rfl) ?_
    go_wp2_with fail
    refine (qfrom_any py w64 ⟨by omega, by omega⟩).mono ?_
    rintro e w65 ⟨sb1, Ab1, nb1, cb1, tb1, Bb1, mb1, db1, rfl, hQ, hE⟩
    have Ew65 := Lib.hid hE
    clear hE
    have Qb1 := Lib.hid hQ
    clear hQ
    go_wp2_with fail
    refine And.intro (inX_of_ext _ Ew65.out) ?_
    repeat (refine lexAt_still (by rfl) ?_; go_big_quiet_step (fail); refine wpQuiet_nil ?_)
    refine lexAt_move (by rfl) (by kernel_rfl) ?_
    go_wp2_with fail
    refine (qmul_any sp Ap np cp tp Bp mp dp _ sb1 Ab1 nb1 cb1 tb1 Bb1 mb1 db1 _ w65 ((Qp.out.ext (Ext.trans Ew16.out (Ext.trans Ew17.out (Ext.trans Ew18.out (Ext.trans Ew19.out (Ext.trans Ew20.out (Ext.trans Ew21.out (Ext.trans Ew22.out (Ext.trans Ew23.out (Ext.trans Ew24.out (Ext.trans NJ5.out (Ext.trans Ew64.out Ew65.out)))))))))))).arg HZp.out (by omega)) (Qb1.out.arg (sz_small (z := py) (by omega) (by omega)) (by omega))).mono ?_
    rintro e w66 ⟨sc1, Ac1, nc1, cc1, tc1, Bc1, mc1, dc1, rfl, hQ, hE⟩
    have Ew66 := Lib.hid hE
    clear hE
    have Qc1 := Lib.hid hQ
    clear hQ
    go_wp2_with fail
    refine And.intro (inX_of_ext _ (Ext.trans Ew65.out Ew66.out)) ?_
    repeat (refine lexAt_still (by rfl) ?_; go_big_quiet_step (fail); refine wpQuiet_nil ?_)
    refine lexAt_move (by rfl) (by kernel_rfl) ?_
    go_wp2_with fail
    refine (qadd_any sv Av nv cv tv Bv mv dv _ sc1 Ac1 nc1 cc1 tc1 Bc1 mc1 dc1 _ w66 ((Qv_5.out.ext (Ext.trans Ew64.out (Ext.trans Ew65.out Ew66.out))).arg HZv.out (by omega)) (Qc1.out.arg (HZp.out.mul (sz_small (z := py) (by omega) (by omega))) (by omega))).mono ?_
    rintro e w67 ⟨se1, Ae1, ne1, ce1, te1, Be1, me1, de1, rfl, hQ, hE⟩
    have Ew67 := Lib.hid hE
    clear hE
    have Qe1 := Lib.hid hQ
    clear hQ
    have HXe := Lib.hid (inX_of_ext [] (Ext.trans Ew65.out (Ext.trans Ew66.out Ew67.out)))
    clear ft0 ft1 ft2 ft3 fp0 fp1 fp2 fp3 fr
    obtain ⟨⟨o0, o1, o2, o3⟩, ⟨q0, q1, q2, q3⟩, ol⟩ := (Kt_5.out.ext (Ext.trans Ew64.out (Ext.trans Ew65.out (Ext.trans Ew66.out Ew67.out))))
    go_wp2_with fail
    refine And.intro HXe.out ?_
    refine lexAt_last (by rfl) (by kernel_rfl) (by kernel_rfl) ?_
    go_wp2_with fail
    refine And.intro trivial (lexAt_nil ?_)
    clear o0 o1 o2 o3 q0 q1 q2 q3 ol HXe
    have Kt_6 := Lib.hid ((Kt_5.out.ext (Ext.trans Ew64.out (Ext.trans Ew65.out (Ext.trans Ew66.out Ew67.out)))).put4 (.bool se1) (.slice Ae1 ne1 ce1) (.bool te1) (.slice Be1 me1 de1))
    have NJ6 := Lib.hid (ext_put4 (Ext.trans NJ5.out (Ext.trans Ew64.out (Ext.trans Ew65.out (Ext.trans Ew66.out Ew67.out)))) (g := w24.heap.size + 1) (by omega) 0 (.bool se1) (.slice Ae1 ne1 ce1) (.bool te1) (.slice Be1 me1 de1))
    have NZ6 : Hid (w67.heap.size ≤ (put4 w67 (w24.heap.size + 1) 0 (.bool se1) (.slice Ae1 ne1 ce1) (.bool te1) (.slice Be1 me1 de1)).heap.size) := by unfold Hid; rw [put4_size]; exact Nat.le_refl _
    have Ks_6 := Lib.hid ((Ks_5.out.ext (Ext.trans Ew64.out (Ext.trans Ew65.out (Ext.trans Ew66.out Ew67.out)))).far4 (g := w24.heap.size + 1) (off := 0) (by omega) (.bool se1) (.slice Ae1 ne1 ce1) (.bool te1) (.slice Be1 me1 de1))
    have Qa1_6 := Lib.hid ((Qa1_5.out.ext (Ext.trans Ew64.out (Ext.trans Ew65.out (Ext.trans Ew66.out Ew67.out)))).put4A (g := w24.heap.size + 1) (Qa1.out.span (.inl (Nat.lt_of_lt_of_le HKv.out.2.2 (Nat.le_trans Ew54.out.size (Nat.le_trans Ew55.out.size (Nat.le_trans Ew56.out.size (Nat.le_trans Ew57.out.size (Nat.le_trans Ew58.out.size (Nat.le_trans Ew59.out.size (Nat.le_trans Ew60.out.size Ew61.out.size)))))))))) 0 (.bool se1) (.slice Ae1 ne1 ce1) (.bool te1) (.slice Be1 me1 de1))
    have Qe1_6 := Lib.hid (Qe1.out.put4A (g := w24.heap.size + 1) (Qe1.out.span (.inl (Nat.lt_of_lt_of_le HKv.out.2.2 (Nat.le_trans Ew54.out.size (Nat.le_trans Ew55.out.size (Nat.le_trans Ew56.out.size (Nat.le_trans Ew57.out.size (Nat.le_trans Ew58.out.size (Nat.le_trans Ew59.out.size (Nat.le_trans Ew60.out.size (Nat.le_trans Ew61.out.size (Nat.le_trans Ew62.out.size (Nat.le_trans NZ5.out (Nat.le_trans Ew64.out.size (Nat.le_trans Ew65.out.size Ew66.out.size))))))))))))))) 0 (.bool se1) (.slice Ae1 ne1 ce1) (.bool te1) (.slice Be1 me1 de1))
    unfold put4 at Kt_6 NJ6 NZ6 Ks_6 Qa1_6 Qe1_6
    simp only [Nat.zero_add] at Kt_6 NJ6 NZ6 Ks_6 Qa1_6 Qe1_6
    generalize ((((w67.setCell ⟨w24.heap.size + 1, 0, none⟩ (.bool se1)).setCell ⟨w24.heap.size + 1, 1, none⟩ (.slice Ae1 ne1 ce1)).setCell ⟨w24.heap.size + 1, 2, none⟩ (.bool te1)).setCell ⟨w24.heap.size + 1, 3, none⟩ (.slice Be1 me1 de1)) = w68 at *
    go_wp2_with fail
    go_roundw
    have HAWa : Hid (∀ x ∈ [w24.heap.size, w24.heap.size + 1], Away x (x + 1) Aa1 na1 ∧ Away x (x + 1) Ba1 ma1) := fun x hx => by
        simp only [List.mem_cons, List.not_mem_nil, or_false] at hx
        rcases hx with rfl | rfl
        · exact (Qa1.out.span (.inl (Nat.lt_of_lt_of_le HKu.out.2.2 (Nat.le_trans Ew54.out.size (Nat.le_trans Ew55.out.size (Nat.le_trans Ew56.out.size (Nat.le_trans Ew57.out.size (Nat.le_trans Ew58.out.size (Nat.le_trans Ew59.out.size (Nat.le_trans Ew60.out.size Ew61.out.size))))))))))
        · exact (Qa1.out.span (.inl (Nat.lt_of_lt_of_le HKv.out.2.2 (Nat.le_trans Ew54.out.size (Nat.le_trans Ew55.out.size (Nat.le_trans Ew56.out.size (Nat.le_trans Ew57.out.size (Nat.le_trans Ew58.out.size (Nat.le_trans Ew59.out.size (Nat.le_trans Ew60.out.size Ew61.out.size))))))))))
    have HAWe : Hid (∀ x ∈ [w24.heap.size, w24.heap.size + 1], Away x (x + 1) Ae1 ne1 ∧ Away x (x + 1) Be1 me1) := fun x hx => by
        simp only [List.mem_cons, List.not_mem_nil, or_false] at hx
        rcases hx with rfl | rfl
        · exact (Qe1.out.span (.inl (Nat.lt_of_lt_of_le HKu.out.2.2 (Nat.le_trans Ew54.out.size (Nat.le_trans Ew55.out.size (Nat.le_trans Ew56.out.size (Nat.le_trans Ew57.out.size (Nat.le_trans Ew58.out.size (Nat.le_trans Ew59.out.size (Nat.le_trans Ew60.out.size (Nat.le_trans Ew61.out.size (Nat.le_trans Ew62.out.size (Nat.le_trans NZ5.out (Nat.le_trans Ew64.out.size (Nat.le_trans Ew65.out.size Ew66.out.size)))))))))))))))
        · exact (Qe1.out.span (.inl (Nat.lt_of_lt_of_le HKv.out.2.2 (Nat.le_trans Ew54.out.size (Nat.le_trans Ew55.out.size (Nat.le_trans Ew56.out.size (Nat.le_trans Ew57.out.size (Nat.le_trans Ew58.out.size (Nat.le_trans Ew59.out.size (Nat.le_trans Ew60.out.size (Nat.le_trans Ew61.out.size (Nat.le_trans Ew62.out.size (Nat.le_trans NZ5.out (Nat.le_trans Ew64.out.size (Nat.le_trans Ew65.out.size Ew66.out.size)))))))))))))))
    case rel => exact ⟨k + 1, by omega, by go_num, NJ6.out, ⟨sa1, Aa1, na1, ca1, ta1, Ba1, ma1, da1, Ks_6.out, Qa1_6.out.base (Nat.zero_le _), HAWa.out⟩, ⟨se1, Ae1, ne1, ce1, te1, Be1, me1, de1, Kt_6.out, HCT.out ▸ Qe1_6.out.base (Nat.zero_le _), HAWe.out⟩⟩
    case measure => simp [intOf]; omega
end Go.Proofs.Ytppcpklnnbgcjaa
