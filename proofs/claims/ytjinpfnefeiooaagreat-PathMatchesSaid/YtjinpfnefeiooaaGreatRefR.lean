/- A part of the proof. -/
import Derived.Test.YtjinpfnefeiooaaGreatRefQ
namespace Go.Proofs.YtjinpfnefeiooaaGreat
open Go.RowKit

set_option maxRecDepth 100000 in
set_option maxHeartbeats 4000000 in
theorem rqleast_any (sa : Bool) (Aa : Option Addr) (na ca : Nat) (ta : Bool) (Ba : Option Addr) (ma da : Nat) (p : Rat) (K : Nat) (w : World) (h : RArg K w sa Aa na ca ta Ba ma da p) (hK : K ≤ 100000) :
  Calls Tryz.prog 46 #[.agg #[.bool sa, .slice Aa na ca, .bool ta, .slice Ba ma da]] w (RetQ w p) := by
 obtain ⟨z1, y1, hz1, hy1, rfl, hn1, hm1⟩ := h
 have HZ1 := LH hz1
 have HY1 := LH hy1
 have HBZ1 : Hid ((numV z1 y1).natAbs < 4294967296 ^ na) := by unfold Hid; rw [numV_abs]; exact natAbs_ZIs hz1
 have HBY1 := LH (denV_lt (natAbs_ZIs hy1))
 clear hz1 hy1
 go_enter Tryz.func46, Tryz.ntmps46
 go_wp2_with fail
 have k0 := Cell4.new (w) (w.heap.size) rfl (.bool sa) (.slice Aa na ca) (.bool ta) (.slice Ba ma da) 29
 have k1 := Cell4.new ((w).alloc (.cells #[.bool sa, .slice Aa na ca, .bool ta, .slice Ba ma da] 29)) (w.heap.size + 1) (by simp) (.bool false) (.slice none 0 0) (.bool false) (.slice none 0 0) 29
 have hE : Ext w (((w).alloc (.cells #[.bool sa, .slice Aa na ca, .bool ta, .slice Ba ma da] 29)).alloc (.cells #[.bool false, .slice none 0 0, .bool false, .slice none 0 0] 29)) := (Ext.al (Ext.al Ext.rfl' _) _)
 have k0 := k0.ext (show Ext ((w).alloc (.cells #[.bool sa, .slice Aa na ca, .bool ta, .slice Ba ma da] 29)) (((w).alloc (.cells #[.bool sa, .slice Aa na ca, .bool ta, .slice Ba ma da] 29)).alloc (.cells #[.bool false, .slice none 0 0, .bool false, .slice none 0 0] 29)) from (Ext.al Ext.rfl' _))
 generalize ((w).alloc (.cells #[.bool sa, .slice Aa na ca, .bool ta, .slice Ba ma da] 29)).alloc (.cells #[.bool false, .slice none 0 0, .bool false, .slice none 0 0] 29) = w1 at *
 have Ew1 := LH hE
 clear hE
 have Ka := LH k0
 clear k0
 have Kr := LH k1
 clear k1
 refine wp_region_lexS (C := InX w1.drew []) (by kernel_rfl) (by kernel_rfl) (inX_self _ _) ?_
 have hE : Ext w1 w1.drew := Ext.rfl'.drew
 generalize w1.drew = w2 at *
 have Ew2 := LH hE
 clear hE
 have fa0 := fun z : ExtX w2 [] => z.cell (p := ⟨w.heap.size, 0, none⟩) (Ka.out.ext Ew2.out).1.1 (by simp)
 have fa1 := fun z : ExtX w2 [] => z.cell (p := ⟨w.heap.size, 1, none⟩) (Ka.out.ext Ew2.out).1.2.1 (by simp)
 have fa2 := fun z : ExtX w2 [] => z.cell (p := ⟨w.heap.size, 2, none⟩) (Ka.out.ext Ew2.out).1.2.2.1 (by simp)
 have fa3 := fun z : ExtX w2 [] => z.cell (p := ⟨w.heap.size, 3, none⟩) (Ka.out.ext Ew2.out).1.2.2.2 (by simp)
 repeat (refine lexAt_still (by rfl) ?_; go_big_quiet_step (fail); refine wpQuiet_nil ?_)
 refine lexAt_move (by rfl) (by kernel_rfl) ?_
 go_wp2_with fail
 refine (rnum_any sa Aa na ca ta Ba ma da _ _ w2 (HZ1.out.ext (ET Ew1.out Ew2.out)) (HY1.out.ext (ET Ew1.out Ew2.out)) (by omega) (by omega)).mono ?_
 rintro e w3 ⟨sx, Ax, nx, cx, rfl, hZ, hE⟩
 have Ew3 := LH hE
 clear hE
 have Zx := LH hZ
 clear hZ
 go_wp2_with fail
 refine And.intro (inX_of_ext _ Ew3.out) ?_
 repeat (refine lexAt_still (by rfl) ?_; go_big_quiet_step (fail); refine wpQuiet_nil ?_)
 have hlx := words_bd Zx.out HBZ1.out
 refine lexAt_move (by rfl) (by kernel_rfl) ?_
 go_wp2_with fail
 refine (rden_any sa Aa na ca ta Ba ma da _ w3 (HY1.out.ext (ET Ew1.out (ET Ew2.out Ew3.out))) (by omega)).mono ?_
 rintro e w4 ⟨sy, Ay, ny, cy, rfl, hZ, hE⟩
 have Ew4 := LH hE
 clear hE
 have Zy := LH hZ
 clear hZ
 go_wp2_with fail
 refine And.intro (inX_of_ext _ (ET Ew3.out Ew4.out)) ?_
 repeat (refine lexAt_still (by rfl) ?_; go_big_quiet_step (fail); refine wpQuiet_nil ?_)
 have hly := words_bd Zy.out HBY1.out
 refine lexAt_move (by rfl) (by kernel_rfl) ?_
 go_wp2_with fail
 refine (rover_any sx Ax nx cx _ sy Ay ny cy _ w4 (Zx.out.ext Ew4.out).is Zy.out.is (by omega) (by omega) (denV_pos _)).mono ?_
 rintro e w5 ⟨sv, Av, nv, cv, tv, Bv, mv, dv, rfl, hQ, hE⟩
 have Ew5 := LH hE
 clear hE
 have Qv := LH hQ
 clear hQ
 have HXe := LH (inX_of_ext [] (ET Ew3.out (ET Ew4.out Ew5.out)))
 clear fa0 fa1 fa2 fa3
 obtain ⟨⟨e0, e1, e2, e3⟩, ⟨f0, f1, f2, f3⟩, el⟩ := (Kr.out.ext (ET Ew2.out (ET Ew3.out (ET Ew4.out Ew5.out))))
 go_wp2_with fail
 refine And.intro HXe.out ?_
 refine lexAt_last (by rfl) (by kernel_rfl) (by kernel_rfl) ?_
 go_wp2_with fail
 refine And.intro trivial (lexAt_nil ?_)
 go_wp2_with fail
 refine bodyPost_ret (v := .agg #[.bool sv, .slice Av nv cv, .bool tv, .slice Bv mv dv]) (by simp [results, Tryz.results46, go_sem, e0, e1, e2, e3]) rfl ?_
 exact ⟨_, _, _, _, _, _, _, _, rfl, retQ_fill (by omega) (Nat.lt_of_lt_of_le Kr.out.2.2 (Nat.le_trans Ew2.out.size (Nat.le_trans Ew3.out.size Ew4.out.size))) Qv.out (ET Ew1.out (ET Ew2.out (ET Ew3.out (ET Ew4.out Ew5.out)))) _ _ _ _⟩
set_option maxRecDepth 100000 in
set_option maxHeartbeats 4000000 in
theorem rqneg_any (sa : Bool) (Aa : Option Addr) (na ca : Nat) (ta : Bool) (Ba : Option Addr) (ma da : Nat) (p : Rat) (K : Nat) (w : World) (h : RArg K w sa Aa na ca ta Ba ma da p) (hK : K ≤ 100000) :
  Calls Tryz.prog 88 #[.agg #[.bool sa, .slice Aa na ca, .bool ta, .slice Ba ma da]] w (RetQ w (-p)) := by
 obtain ⟨z1, y1, hz1, hy1, rfl, hn1, hm1⟩ := h
 have HZ1 := LH hz1
 have HY1 := LH hy1
 have HBZ1 : Hid ((numV z1 y1).natAbs < 4294967296 ^ na) := by unfold Hid; rw [numV_abs]; exact natAbs_ZIs hz1
 have HBY1 := LH (denV_lt (natAbs_ZIs hy1))
 clear hz1 hy1
 go_enter Tryz.func88, Tryz.ntmps88
 go_wp2_with fail
 have k0 := Cell4.new (w) (w.heap.size) rfl (.bool sa) (.slice Aa na ca) (.bool ta) (.slice Ba ma da) 29
 have k1 := Cell4.new ((w).alloc (.cells #[.bool sa, .slice Aa na ca, .bool ta, .slice Ba ma da] 29)) (w.heap.size + 1) (by simp) (.bool false) (.slice none 0 0) (.bool false) (.slice none 0 0) 29
 have hE : Ext w (((w).alloc (.cells #[.bool sa, .slice Aa na ca, .bool ta, .slice Ba ma da] 29)).alloc (.cells #[.bool false, .slice none 0 0, .bool false, .slice none 0 0] 29)) := (Ext.al (Ext.al Ext.rfl' _) _)
 have k0 := k0.ext (show Ext ((w).alloc (.cells #[.bool sa, .slice Aa na ca, .bool ta, .slice Ba ma da] 29)) (((w).alloc (.cells #[.bool sa, .slice Aa na ca, .bool ta, .slice Ba ma da] 29)).alloc (.cells #[.bool false, .slice none 0 0, .bool false, .slice none 0 0] 29)) from (Ext.al Ext.rfl' _))
 generalize ((w).alloc (.cells #[.bool sa, .slice Aa na ca, .bool ta, .slice Ba ma da] 29)).alloc (.cells #[.bool false, .slice none 0 0, .bool false, .slice none 0 0] 29) = w1 at *
 have Ew1 := LH hE
 clear hE
 have Ka := LH k0
 clear k0
 have Kr := LH k1
 clear k1
 refine wp_region_lexS (C := InX w1.drew []) (by kernel_rfl) (by kernel_rfl) (inX_self _ _) ?_
 have hE : Ext w1 w1.drew := Ext.rfl'.drew
 generalize w1.drew = w2 at *
 have Ew2 := LH hE
 clear hE
 have fa0 := fun z : ExtX w2 [] => z.cell (p := ⟨w.heap.size, 0, none⟩) (Ka.out.ext Ew2.out).1.1 (by simp)
 have fa1 := fun z : ExtX w2 [] => z.cell (p := ⟨w.heap.size, 1, none⟩) (Ka.out.ext Ew2.out).1.2.1 (by simp)
 have fa2 := fun z : ExtX w2 [] => z.cell (p := ⟨w.heap.size, 2, none⟩) (Ka.out.ext Ew2.out).1.2.2.1 (by simp)
 have fa3 := fun z : ExtX w2 [] => z.cell (p := ⟨w.heap.size, 3, none⟩) (Ka.out.ext Ew2.out).1.2.2.2 (by simp)
 repeat (refine lexAt_still (by rfl) ?_; go_big_quiet_step (fail); refine wpQuiet_nil ?_)
 refine lexAt_move (by rfl) (by kernel_rfl) ?_
 go_wp2_with fail
 refine (rnum_any sa Aa na ca ta Ba ma da _ _ w2 (HZ1.out.ext (ET Ew1.out Ew2.out)) (HY1.out.ext (ET Ew1.out Ew2.out)) (by omega) (by omega)).mono ?_
 rintro e w3 ⟨sx, Ax, nx, cx, rfl, hZ, hE⟩
 have Ew3 := LH hE
 clear hE
 have Zx := LH hZ
 clear hZ
 go_wp2_with fail
 refine And.intro (inX_of_ext _ Ew3.out) ?_
 repeat (refine lexAt_still (by rfl) ?_; go_big_quiet_step (fail); refine wpQuiet_nil ?_)
 have hlx := words_bd Zx.out HBZ1.out
 refine lexAt_move (by rfl) (by kernel_rfl) ?_
 go_wp2_with fail
 refine (rneg_any sx Ax nx cx _ w3 Zx.out.is (by omega)).mono ?_
 rintro e w4 ⟨snx, Anx, nnx, cnx, rfl, hZ, hE⟩
 have Ew4 := LH hE
 clear hE
 have Znx := LH hZ
 clear hZ
 go_wp2_with fail
 refine And.intro (inX_of_ext _ (ET Ew3.out Ew4.out)) ?_
 repeat (refine lexAt_still (by rfl) ?_; go_big_quiet_step (fail); refine wpQuiet_nil ?_)
 have hlnx := words_bd Znx.out (by rw [Int.natAbs_neg]; exact HBZ1.out)
 refine lexAt_move (by rfl) (by kernel_rfl) ?_
 go_wp2_with fail
 refine (rden_any sa Aa na ca ta Ba ma da _ w4 (HY1.out.ext (ET Ew1.out (ET Ew2.out (ET Ew3.out Ew4.out)))) (by omega)).mono ?_
 rintro e w5 ⟨sy, Ay, ny, cy, rfl, hZ, hE⟩
 have Ew5 := LH hE
 clear hE
 have Zy := LH hZ
 clear hZ
 go_wp2_with fail
 refine And.intro (inX_of_ext _ (ET Ew3.out (ET Ew4.out Ew5.out))) ?_
 repeat (refine lexAt_still (by rfl) ?_; go_big_quiet_step (fail); refine wpQuiet_nil ?_)
 have hly := words_bd Zy.out HBY1.out
 refine lexAt_move (by rfl) (by kernel_rfl) ?_
 go_wp2_with fail
 refine (rover_any snx Anx nnx cnx _ sy Ay ny cy _ w5 (Znx.out.ext Ew5.out).is Zy.out.is (by omega) (by omega) (denV_pos _)).mono ?_
 rintro e w6 ⟨sv, Av, nv, cv, tv, Bv, mv, dv, rfl, hQ, hE⟩
 have Ew6 := LH hE
 clear hE
 rw [← Rat.neg_divInt] at hQ
 have Qv := LH hQ
 clear hQ
 have HXe := LH (inX_of_ext [] (ET Ew3.out (ET Ew4.out (ET Ew5.out Ew6.out))))
 clear fa0 fa1 fa2 fa3
 obtain ⟨⟨e0, e1, e2, e3⟩, ⟨f0, f1, f2, f3⟩, el⟩ := (Kr.out.ext (ET Ew2.out (ET Ew3.out (ET Ew4.out (ET Ew5.out Ew6.out)))))
 go_wp2_with fail
 refine And.intro HXe.out ?_
 refine lexAt_last (by rfl) (by kernel_rfl) (by kernel_rfl) ?_
 go_wp2_with fail
 refine And.intro trivial (lexAt_nil ?_)
 go_wp2_with fail
 refine bodyPost_ret (v := .agg #[.bool sv, .slice Av nv cv, .bool tv, .slice Bv mv dv]) (by simp [results, Tryz.results88, go_sem, e0, e1, e2, e3]) rfl ?_
 exact ⟨_, _, _, _, _, _, _, _, rfl, retQ_fill (by omega) (Nat.lt_of_lt_of_le Kr.out.2.2 (Nat.le_trans Ew2.out.size (Nat.le_trans Ew3.out.size (Nat.le_trans Ew4.out.size Ew5.out.size)))) Qv.out (ET Ew1.out (ET Ew2.out (ET Ew3.out (ET Ew4.out (ET Ew5.out Ew6.out))))) _ _ _ _⟩
set_option maxRecDepth 100000 in
set_option maxHeartbeats 4000000 in
theorem rqmul_any (sa : Bool) (Aa : Option Addr) (na ca : Nat) (ta : Bool) (Ba : Option Addr) (ma da : Nat) (p : Rat) (sb : Bool) (Ab : Option Addr) (nb cb : Nat) (tb : Bool) (Bb : Option Addr) (mb db : Nat) (q : Rat) (K : Nat) (w : World) (h1 : RArg K w sa Aa na ca ta Ba ma da p) (h2 : RArg K w sb Ab nb cb tb Bb mb db q) (hK : K ≤ 66010) :
  Calls Tryz.prog 59 #[.agg #[.bool sa, .slice Aa na ca, .bool ta, .slice Ba ma da], .agg #[.bool sb, .slice Ab nb cb, .bool tb, .slice Bb mb db]] w (RetQ w (p * q)) := by
 obtain ⟨z1, y1, hz1, hy1, rfl, hn1, hm1⟩ := h1
 have HZ1 := LH hz1
 have HY1 := LH hy1
 have HBZ1 : Hid ((numV z1 y1).natAbs < 4294967296 ^ na) := by unfold Hid; rw [numV_abs]; exact natAbs_ZIs hz1
 have HBY1 := LH (denV_lt (natAbs_ZIs hy1))
 clear hz1 hy1
 obtain ⟨z2, y2, hz2, hy2, rfl, hn2, hm2⟩ := h2
 have HZ2 := LH hz2
 have HY2 := LH hy2
 have HBZ2 : Hid ((numV z2 y2).natAbs < 4294967296 ^ nb) := by unfold Hid; rw [numV_abs]; exact natAbs_ZIs hz2
 have HBY2 := LH (denV_lt (natAbs_ZIs hy2))
 clear hz2 hy2
 go_enter Tryz.func59, Tryz.ntmps59
 go_wp2_with fail
 have k0 := Cell4.new (w) (w.heap.size) rfl (.bool sa) (.slice Aa na ca) (.bool ta) (.slice Ba ma da) 29
 have k1 := Cell4.new ((w).alloc (.cells #[.bool sa, .slice Aa na ca, .bool ta, .slice Ba ma da] 29)) (w.heap.size + 1) (by simp) (.bool sb) (.slice Ab nb cb) (.bool tb) (.slice Bb mb db) 29
 have k2 := Cell4.new (((w).alloc (.cells #[.bool sa, .slice Aa na ca, .bool ta, .slice Ba ma da] 29)).alloc (.cells #[.bool sb, .slice Ab nb cb, .bool tb, .slice Bb mb db] 29)) (w.heap.size + 1 + 1) (by simp) (.bool false) (.slice none 0 0) (.bool false) (.slice none 0 0) 29
 have hE : Ext w ((((w).alloc (.cells #[.bool sa, .slice Aa na ca, .bool ta, .slice Ba ma da] 29)).alloc (.cells #[.bool sb, .slice Ab nb cb, .bool tb, .slice Bb mb db] 29)).alloc (.cells #[.bool false, .slice none 0 0, .bool false, .slice none 0 0] 29)) := (Ext.al (Ext.al (Ext.al Ext.rfl' _) _) _)
 have k0 := k0.ext (show Ext ((w).alloc (.cells #[.bool sa, .slice Aa na ca, .bool ta, .slice Ba ma da] 29)) ((((w).alloc (.cells #[.bool sa, .slice Aa na ca, .bool ta, .slice Ba ma da] 29)).alloc (.cells #[.bool sb, .slice Ab nb cb, .bool tb, .slice Bb mb db] 29)).alloc (.cells #[.bool false, .slice none 0 0, .bool false, .slice none 0 0] 29)) from (Ext.al (Ext.al Ext.rfl' _) _))
 have k1 := k1.ext (show Ext (((w).alloc (.cells #[.bool sa, .slice Aa na ca, .bool ta, .slice Ba ma da] 29)).alloc (.cells #[.bool sb, .slice Ab nb cb, .bool tb, .slice Bb mb db] 29)) ((((w).alloc (.cells #[.bool sa, .slice Aa na ca, .bool ta, .slice Ba ma da] 29)).alloc (.cells #[.bool sb, .slice Ab nb cb, .bool tb, .slice Bb mb db] 29)).alloc (.cells #[.bool false, .slice none 0 0, .bool false, .slice none 0 0] 29)) from (Ext.al Ext.rfl' _))
 generalize (((w).alloc (.cells #[.bool sa, .slice Aa na ca, .bool ta, .slice Ba ma da] 29)).alloc (.cells #[.bool sb, .slice Ab nb cb, .bool tb, .slice Bb mb db] 29)).alloc (.cells #[.bool false, .slice none 0 0, .bool false, .slice none 0 0] 29) = w1 at *
 have Ew1 := LH hE
 clear hE
 have Ka := LH k0
 clear k0
 have Kb := LH k1
 clear k1
 have Kr := LH k2
 clear k2
 refine wp_region_lexS (C := InX w1.drew []) (by kernel_rfl) (by kernel_rfl) (inX_self _ _) ?_
 have hE : Ext w1 w1.drew := Ext.rfl'.drew
 generalize w1.drew = w2 at *
 have Ew2 := LH hE
 clear hE
 have fa0 := fun z : ExtX w2 [] => z.cell (p := ⟨w.heap.size, 0, none⟩) (Ka.out.ext Ew2.out).1.1 (by simp)
 have fa1 := fun z : ExtX w2 [] => z.cell (p := ⟨w.heap.size, 1, none⟩) (Ka.out.ext Ew2.out).1.2.1 (by simp)
 have fa2 := fun z : ExtX w2 [] => z.cell (p := ⟨w.heap.size, 2, none⟩) (Ka.out.ext Ew2.out).1.2.2.1 (by simp)
 have fa3 := fun z : ExtX w2 [] => z.cell (p := ⟨w.heap.size, 3, none⟩) (Ka.out.ext Ew2.out).1.2.2.2 (by simp)
 have fb0 := fun z : ExtX w2 [] => z.cell (p := ⟨w.heap.size + 1, 0, none⟩) (Kb.out.ext Ew2.out).1.1 (by simp)
 have fb1 := fun z : ExtX w2 [] => z.cell (p := ⟨w.heap.size + 1, 1, none⟩) (Kb.out.ext Ew2.out).1.2.1 (by simp)
 have fb2 := fun z : ExtX w2 [] => z.cell (p := ⟨w.heap.size + 1, 2, none⟩) (Kb.out.ext Ew2.out).1.2.2.1 (by simp)
 have fb3 := fun z : ExtX w2 [] => z.cell (p := ⟨w.heap.size + 1, 3, none⟩) (Kb.out.ext Ew2.out).1.2.2.2 (by simp)
 repeat (refine lexAt_still (by rfl) ?_; go_big_quiet_step (fail); refine wpQuiet_nil ?_)
 refine lexAt_move (by rfl) (by kernel_rfl) ?_
 go_wp2_with fail
 refine (rnum_any sa Aa na ca ta Ba ma da _ _ w2 (HZ1.out.ext (ET Ew1.out Ew2.out)) (HY1.out.ext (ET Ew1.out Ew2.out)) (by omega) (by omega)).mono ?_
 rintro e w3 ⟨sx, Ax, nx, cx, rfl, hZ, hE⟩
 have Ew3 := LH hE
 clear hE
 have Zx := LH hZ
 clear hZ
 go_wp2_with fail
 refine And.intro (inX_of_ext _ Ew3.out) ?_
 repeat (refine lexAt_still (by rfl) ?_; go_big_quiet_step (fail); refine wpQuiet_nil ?_)
 have hlx := words_bd Zx.out HBZ1.out
 refine lexAt_move (by rfl) (by kernel_rfl) ?_
 go_wp2_with fail
 refine (rnum_any sb Ab nb cb tb Bb mb db _ _ w3 (HZ2.out.ext (ET Ew1.out (ET Ew2.out Ew3.out))) (HY2.out.ext (ET Ew1.out (ET Ew2.out Ew3.out))) (by omega) (by omega)).mono ?_
 rintro e w4 ⟨sy, Ay, ny, cy, rfl, hZ, hE⟩
 have Ew4 := LH hE
 clear hE
 have Zy := LH hZ
 clear hZ
 go_wp2_with fail
 refine And.intro (inX_of_ext _ (ET Ew3.out Ew4.out)) ?_
 repeat (refine lexAt_still (by rfl) ?_; go_big_quiet_step (fail); refine wpQuiet_nil ?_)
 have hly := words_bd Zy.out HBZ2.out
 refine lexAt_move (by rfl) (by kernel_rfl) ?_
 go_wp2_with fail
 refine (rzmul_any sx Ax nx cx _ sy Ay ny cy _ w4 (Zx.out.ext Ew4.out).is Zy.out.is (by omega) (by omega)).mono ?_
 rintro e w5 ⟨sxy, Axy, nxy, cxy, rfl, hZ, hE⟩
 have Ew5 := LH hE
 clear hE
 have Zxy := LH hZ
 clear hZ
 go_wp2_with fail
 refine And.intro (inX_of_ext _ (ET Ew3.out (ET Ew4.out Ew5.out))) ?_
 repeat (refine lexAt_still (by rfl) ?_; go_big_quiet_step (fail); refine wpQuiet_nil ?_)
 have hlxy := words_bd Zxy.out (natAbs_mul_lt HBZ1.out HBZ2.out)
 refine lexAt_move (by rfl) (by kernel_rfl) ?_
 go_wp2_with fail
 refine (rden_any sa Aa na ca ta Ba ma da _ w5 (HY1.out.ext (ET Ew1.out (ET Ew2.out (ET Ew3.out (ET Ew4.out Ew5.out))))) (by omega)).mono ?_
 rintro e w6 ⟨su, Au, nu, cu, rfl, hZ, hE⟩
 have Ew6 := LH hE
 clear hE
 have Zu := LH hZ
 clear hZ
 go_wp2_with fail
 refine And.intro (inX_of_ext _ (ET Ew3.out (ET Ew4.out (ET Ew5.out Ew6.out)))) ?_
 repeat (refine lexAt_still (by rfl) ?_; go_big_quiet_step (fail); refine wpQuiet_nil ?_)
 have hlu := words_bd Zu.out HBY1.out
 refine lexAt_move (by rfl) (by kernel_rfl) ?_
 go_wp2_with fail
 refine (rden_any sb Ab nb cb tb Bb mb db _ w6 (HY2.out.ext (ET Ew1.out (ET Ew2.out (ET Ew3.out (ET Ew4.out (ET Ew5.out Ew6.out)))))) (by omega)).mono ?_
 rintro e w7 ⟨sv, Av, nv, cv, rfl, hZ, hE⟩
 have Ew7 := LH hE
 clear hE
 have Zv := LH hZ
 clear hZ
 go_wp2_with fail
 refine And.intro (inX_of_ext _ (ET Ew3.out (ET Ew4.out (ET Ew5.out (ET Ew6.out Ew7.out))))) ?_
 repeat (refine lexAt_still (by rfl) ?_; go_big_quiet_step (fail); refine wpQuiet_nil ?_)
 have hlv := words_bd Zv.out HBY2.out
 refine lexAt_move (by rfl) (by kernel_rfl) ?_
 go_wp2_with fail
 refine (rzmul_any su Au nu cu _ sv Av nv cv _ w7 (Zu.out.ext Ew7.out).is Zv.out.is (by omega) (by omega)).mono ?_
 rintro e w8 ⟨suv, Auv, nuv, cuv, rfl, hZ, hE⟩
 have Ew8 := LH hE
 clear hE
 have Zuv := LH hZ
 clear hZ
 go_wp2_with fail
 refine And.intro (inX_of_ext _ (ET Ew3.out (ET Ew4.out (ET Ew5.out (ET Ew6.out (ET Ew7.out Ew8.out)))))) ?_
 repeat (refine lexAt_still (by rfl) ?_; go_big_quiet_step (fail); refine wpQuiet_nil ?_)
 have hluv := words_bd Zuv.out (natAbs_mul_lt HBY1.out HBY2.out)
 refine lexAt_move (by rfl) (by kernel_rfl) ?_
 go_wp2_with fail
 refine (rover_any sxy Axy nxy cxy _ suv Auv nuv cuv _ w8 (Zxy.out.ext (ET Ew6.out (ET Ew7.out Ew8.out))).is Zuv.out.is (by omega) (by omega) (Int.mul_pos (denV_pos _) (denV_pos _))).mono ?_
 rintro e w9 ⟨sk, Ak, nk, ck, tk, Bk, mk, dk, rfl, hQ, hE⟩
 have Ew9 := LH hE
 clear hE
 rw [← Rat.divInt_mul_divInt] at hQ
 have Qk := LH hQ
 clear hQ
 have HXe := LH (inX_of_ext [] (ET Ew3.out (ET Ew4.out (ET Ew5.out (ET Ew6.out (ET Ew7.out (ET Ew8.out Ew9.out)))))))
 clear fa0 fa1 fa2 fa3 fb0 fb1 fb2 fb3
 obtain ⟨⟨e0, e1, e2, e3⟩, ⟨f0, f1, f2, f3⟩, el⟩ := (Kr.out.ext (ET Ew2.out (ET Ew3.out (ET Ew4.out (ET Ew5.out (ET Ew6.out (ET Ew7.out (ET Ew8.out Ew9.out))))))))
 go_wp2_with fail
 refine And.intro HXe.out ?_
 refine lexAt_last (by rfl) (by kernel_rfl) (by kernel_rfl) ?_
 go_wp2_with fail
 refine And.intro trivial (lexAt_nil ?_)
 go_wp2_with fail
 refine bodyPost_ret (v := .agg #[.bool sk, .slice Ak nk ck, .bool tk, .slice Bk mk dk]) (by simp [results, Tryz.results59, go_sem, e0, e1, e2, e3]) rfl ?_
 exact ⟨_, _, _, _, _, _, _, _, rfl, retQ_fill (by omega) (Nat.lt_of_lt_of_le Kr.out.2.2 (Nat.le_trans Ew2.out.size (Nat.le_trans Ew3.out.size (Nat.le_trans Ew4.out.size (Nat.le_trans Ew5.out.size (Nat.le_trans Ew6.out.size (Nat.le_trans Ew7.out.size Ew8.out.size))))))) Qk.out (ET Ew1.out (ET Ew2.out (ET Ew3.out (ET Ew4.out (ET Ew5.out (ET Ew6.out (ET Ew7.out (ET Ew8.out Ew9.out)))))))) _ _ _ _⟩
set_option maxRecDepth 100000 in
set_option maxHeartbeats 4000000 in
theorem rqadd_any (sa : Bool) (Aa : Option Addr) (na ca : Nat) (ta : Bool) (Ba : Option Addr) (ma da : Nat) (p : Rat) (sb : Bool) (Ab : Option Addr) (nb cb : Nat) (tb : Bool) (Bb : Option Addr) (mb db : Nat) (q : Rat) (K : Nat) (w : World) (h1 : RArg K w sa Aa na ca ta Ba ma da p) (h2 : RArg K w sb Ab nb cb tb Bb mb db q) (hK : K ≤ 66010) :
  Calls Tryz.prog 66 #[.agg #[.bool sa, .slice Aa na ca, .bool ta, .slice Ba ma da], .agg #[.bool sb, .slice Ab nb cb, .bool tb, .slice Bb mb db]] w (RetQ w (p + q)) := by
 obtain ⟨z1, y1, hz1, hy1, rfl, hn1, hm1⟩ := h1
 have HZ1 := LH hz1
 have HY1 := LH hy1
 have HBZ1 : Hid ((numV z1 y1).natAbs < 4294967296 ^ na) := by unfold Hid; rw [numV_abs]; exact natAbs_ZIs hz1
 have HBY1 := LH (denV_lt (natAbs_ZIs hy1))
 clear hz1 hy1
 obtain ⟨z2, y2, hz2, hy2, rfl, hn2, hm2⟩ := h2
 have HZ2 := LH hz2
 have HY2 := LH hy2
 have HBZ2 : Hid ((numV z2 y2).natAbs < 4294967296 ^ nb) := by unfold Hid; rw [numV_abs]; exact natAbs_ZIs hz2
 have HBY2 := LH (denV_lt (natAbs_ZIs hy2))
 clear hz2 hy2
 go_enter Tryz.func66, Tryz.ntmps66
 go_wp2_with fail
 have k0 := Cell4.new (w) (w.heap.size) rfl (.bool sa) (.slice Aa na ca) (.bool ta) (.slice Ba ma da) 29
 have k1 := Cell4.new ((w).alloc (.cells #[.bool sa, .slice Aa na ca, .bool ta, .slice Ba ma da] 29)) (w.heap.size + 1) (by simp) (.bool sb) (.slice Ab nb cb) (.bool tb) (.slice Bb mb db) 29
 have k2 := Cell4.new (((w).alloc (.cells #[.bool sa, .slice Aa na ca, .bool ta, .slice Ba ma da] 29)).alloc (.cells #[.bool sb, .slice Ab nb cb, .bool tb, .slice Bb mb db] 29)) (w.heap.size + 1 + 1) (by simp) (.bool false) (.slice none 0 0) (.bool false) (.slice none 0 0) 29
 have hE : Ext w ((((w).alloc (.cells #[.bool sa, .slice Aa na ca, .bool ta, .slice Ba ma da] 29)).alloc (.cells #[.bool sb, .slice Ab nb cb, .bool tb, .slice Bb mb db] 29)).alloc (.cells #[.bool false, .slice none 0 0, .bool false, .slice none 0 0] 29)) := (Ext.al (Ext.al (Ext.al Ext.rfl' _) _) _)
 have k0 := k0.ext (show Ext ((w).alloc (.cells #[.bool sa, .slice Aa na ca, .bool ta, .slice Ba ma da] 29)) ((((w).alloc (.cells #[.bool sa, .slice Aa na ca, .bool ta, .slice Ba ma da] 29)).alloc (.cells #[.bool sb, .slice Ab nb cb, .bool tb, .slice Bb mb db] 29)).alloc (.cells #[.bool false, .slice none 0 0, .bool false, .slice none 0 0] 29)) from (Ext.al (Ext.al Ext.rfl' _) _))
 have k1 := k1.ext (show Ext (((w).alloc (.cells #[.bool sa, .slice Aa na ca, .bool ta, .slice Ba ma da] 29)).alloc (.cells #[.bool sb, .slice Ab nb cb, .bool tb, .slice Bb mb db] 29)) ((((w).alloc (.cells #[.bool sa, .slice Aa na ca, .bool ta, .slice Ba ma da] 29)).alloc (.cells #[.bool sb, .slice Ab nb cb, .bool tb, .slice Bb mb db] 29)).alloc (.cells #[.bool false, .slice none 0 0, .bool false, .slice none 0 0] 29)) from (Ext.al Ext.rfl' _))
 generalize (((w).alloc (.cells #[.bool sa, .slice Aa na ca, .bool ta, .slice Ba ma da] 29)).alloc (.cells #[.bool sb, .slice Ab nb cb, .bool tb, .slice Bb mb db] 29)).alloc (.cells #[.bool false, .slice none 0 0, .bool false, .slice none 0 0] 29) = w1 at *
 have Ew1 := LH hE
 clear hE
 have Ka := LH k0
 clear k0
 have Kb := LH k1
 clear k1
 have Kr := LH k2
 clear k2
 refine wp_region_havS [10, 11] [0, 1, 2, 3, 4, 5, 6, 7, 8, 9] [12, 13] (fun _ => .cells #[.bool false, .slice none 0 0] 27) (by kernel_rfl) (by kernel_rfl) ?_ ?_
 ·intro f hf
  simp only [List.mem_cons, List.not_mem_nil, or_false] at hf
  rcases hf with rfl | rfl
  all_goals exact makes_z (by rfl) rfl
 have hE : Ext w1 w1.drew := Ext.rfl'.drew
 generalize w1.drew = w2 at *
 have Ew2 := LH hE
 clear hE
 have fa0 := fun z : ExtX w2 [] => z.cell (p := ⟨w.heap.size, 0, none⟩) (Ka.out.ext Ew2.out).1.1 (by simp)
 have fa1 := fun z : ExtX w2 [] => z.cell (p := ⟨w.heap.size, 1, none⟩) (Ka.out.ext Ew2.out).1.2.1 (by simp)
 have fa2 := fun z : ExtX w2 [] => z.cell (p := ⟨w.heap.size, 2, none⟩) (Ka.out.ext Ew2.out).1.2.2.1 (by simp)
 have fa3 := fun z : ExtX w2 [] => z.cell (p := ⟨w.heap.size, 3, none⟩) (Ka.out.ext Ew2.out).1.2.2.2 (by simp)
 have fb0 := fun z : ExtX w2 [] => z.cell (p := ⟨w.heap.size + 1, 0, none⟩) (Kb.out.ext Ew2.out).1.1 (by simp)
 have fb1 := fun z : ExtX w2 [] => z.cell (p := ⟨w.heap.size + 1, 1, none⟩) (Kb.out.ext Ew2.out).1.2.1 (by simp)
 have fb2 := fun z : ExtX w2 [] => z.cell (p := ⟨w.heap.size + 1, 2, none⟩) (Kb.out.ext Ew2.out).1.2.2.1 (by simp)
 have fb3 := fun z : ExtX w2 [] => z.cell (p := ⟨w.heap.size + 1, 3, none⟩) (Kb.out.ext Ew2.out).1.2.2.2 (by simp)
 intro w3 hE
 have Ew3 := LH hE
 clear hE
 repeat (refine havAt_still (by rfl) (by rfl) ?_; go_big_quiet_step (fail); refine wpQuiet_nil ?_)
 refine havAt_move (by rfl) (by rfl) (by kernel_rfl) ?_
 go_wp2_with fail
 refine (rnum_any sa Aa na ca ta Ba ma da _ _ w3 (HZ1.out.ext (ET Ew1.out (ET Ew2.out Ew3.out))) (HY1.out.ext (ET Ew1.out (ET Ew2.out Ew3.out))) (by omega) (by omega)).mono ?_
 rintro e w4 ⟨sx, Ax, nx, cx, rfl, hZ, hE⟩
 have Ew4 := LH hE
 clear hE
 have Zx := LH hZ
 clear hZ
 go_wp2_with fail
 refine And.intro Ew4.out (fun w5 hE => ?_)
 have Ew5 := LH hE
 clear hE
 repeat (refine havAt_still (by rfl) (by rfl) ?_; go_big_quiet_step (fail); refine wpQuiet_nil ?_)
 have hlx := words_bd Zx.out HBZ1.out
 refine havAt_move (by rfl) (by rfl) (by kernel_rfl) ?_
 go_wp2_with fail
 refine (rden_any sb Ab nb cb tb Bb mb db _ w5 (HY2.out.ext (ET Ew1.out (ET Ew2.out (ET Ew3.out (ET Ew4.out Ew5.out))))) (by omega)).mono ?_
 rintro e w6 ⟨sv, Av, nv, cv, rfl, hZ, hE⟩
 have Ew6 := LH hE
 clear hE
 have Zv := LH hZ
 clear hZ
 go_wp2_with fail
 refine And.intro Ew6.out (fun w7 hE => ?_)
 have Ew7 := LH hE
 clear hE
 repeat (refine havAt_still (by rfl) (by rfl) ?_; go_big_quiet_step (fail); refine wpQuiet_nil ?_)
 have hlv := words_bd Zv.out HBY2.out
 refine havAt_move (by rfl) (by rfl) (by kernel_rfl) ?_
 go_wp2_with fail
 refine (rzmul_any sx Ax nx cx _ sv Av nv cv _ w7 (Zx.out.ext (ET Ew5.out (ET Ew6.out Ew7.out))).is (Zv.out.ext Ew7.out).is (by omega) (by omega)).mono ?_
 rintro e w8 ⟨sxv, Axv, nxv, cxv, rfl, hZ, hE⟩
 have Ew8 := LH hE
 clear hE
 have Zxv := LH hZ
 clear hZ
 go_wp2_with fail
 refine And.intro Ew8.out (fun w9 hE => ?_)
 have Ew9 := LH hE
 clear hE
 repeat (refine havAt_still (by rfl) (by rfl) ?_; go_big_quiet_step (fail); refine wpQuiet_nil ?_)
 have hlxv := words_bd Zxv.out (natAbs_mul_lt HBZ1.out HBY2.out)
 refine havAt_move (by rfl) (by rfl) (by kernel_rfl) ?_
 go_wp2_with fail
 refine (rnum_any sb Ab nb cb tb Bb mb db _ _ w9 (HZ2.out.ext (ET Ew1.out (ET Ew2.out (ET Ew3.out (ET Ew4.out (ET Ew5.out (ET Ew6.out (ET Ew7.out (ET Ew8.out Ew9.out))))))))) (HY2.out.ext (ET Ew1.out (ET Ew2.out (ET Ew3.out (ET Ew4.out (ET Ew5.out (ET Ew6.out (ET Ew7.out (ET Ew8.out Ew9.out))))))))) (by omega) (by omega)).mono ?_
 rintro e w10 ⟨sy, Ay, ny, cy, rfl, hZ, hE⟩
 have Ew10 := LH hE
 clear hE
 have Zy := LH hZ
 clear hZ
 go_wp2_with fail
 refine And.intro Ew10.out (fun w11 hE => ?_)
 have Ew11 := LH hE
 clear hE
 repeat (refine havAt_still (by rfl) (by rfl) ?_; go_big_quiet_step (fail); refine wpQuiet_nil ?_)
 have hly := words_bd Zy.out HBZ2.out
 refine havAt_move (by rfl) (by rfl) (by kernel_rfl) ?_
 go_wp2_with fail
 refine (rden_any sa Aa na ca ta Ba ma da _ w11 (HY1.out.ext (ET Ew1.out (ET Ew2.out (ET Ew3.out (ET Ew4.out (ET Ew5.out (ET Ew6.out (ET Ew7.out (ET Ew8.out (ET Ew9.out (ET Ew10.out Ew11.out))))))))))) (by omega)).mono ?_
 rintro e w12 ⟨su, Au, nu, cu, rfl, hZ, hE⟩
 have Ew12 := LH hE
 clear hE
 have Zu := LH hZ
 clear hZ
 go_wp2_with fail
 refine And.intro Ew12.out (fun w13 hE => ?_)
 have Ew13 := LH hE
 clear hE
 repeat (refine havAt_still (by rfl) (by rfl) ?_; go_big_quiet_step (fail); refine wpQuiet_nil ?_)
 have hlu := words_bd Zu.out HBY1.out
 refine havAt_move (by rfl) (by rfl) (by kernel_rfl) ?_
 go_wp2_with fail
 refine (rzmul_any sy Ay ny cy _ su Au nu cu _ w13 (Zy.out.ext (ET Ew11.out (ET Ew12.out Ew13.out))).is (Zu.out.ext Ew13.out).is (by omega) (by omega)).mono ?_
 rintro e w14 ⟨syu, Ayu, nyu, cyu, rfl, hZ, hE⟩
 have Ew14 := LH hE
 clear hE
 have Zyu := LH hZ
 clear hZ
 go_wp2_with fail
 refine And.intro Ew14.out (fun w15 hE => ?_)
 have Ew15 := LH hE
 clear hE
 repeat (refine havAt_still (by rfl) (by rfl) ?_; go_big_quiet_step (fail); refine wpQuiet_nil ?_)
 have hlyu := words_bd Zyu.out (natAbs_mul_lt HBZ2.out HBY1.out)
 refine havAt_end ?_
 intro gs hgs hne
 have hpi := hgs 10 (by simp)
 have hpj := hgs 11 (by simp)
 have hnij := hne 10 (by simp) 11 (by simp) (by omega)
 change IdxAt _ _ _ _ _ _ (Act.put (Act.put _ (some 5) (.pointer (some ⟨gs 10, 0, none⟩))) (some 6) (.pointer (some ⟨gs 11, 0, none⟩))) _
 generalize gs 10 = gi at *
 generalize gs 11 = gj at *
 clear hgs hne
 simp only [Act.put, List.setIfInBounds_toArray, List.set_cons_succ, List.set_cons_zero]
 have Pi := LH hpi
 have Ki := LH (Cell2.of_blk hpi.2.1)
 clear hpi
 have Pj := LH hpj
 have Kj := LH (Cell2.of_blk hpj.2.1)
 clear hpj
 have HNij := LH hnij
 clear hnij
 repeat (refine idxAt_still (by rfl) (by rfl) ?_; go_big_quiet_step (fail); refine wpQuiet_nil ?_)
 obtain ⟨o0, o1, q0, q1, ol⟩ := Ki.out
 refine idxAt_move (by rfl) (by rfl) (by kernel_rfl) ?_
 go_wp2_with fail
 refine And.intro (inX_put (p := ⟨gi, 1, none⟩) (inX_put (p := ⟨gi, 0, none⟩) (inX_of_ext _ (ET Ew3.out (ET Ew4.out (ET Ew5.out (ET Ew6.out (ET Ew7.out (ET Ew8.out (ET Ew9.out (ET Ew10.out (ET Ew11.out (ET Ew12.out (ET Ew13.out (ET Ew14.out Ew15.out))))))))))))) (.inr Pi.out.1) _) (.inr Pi.out.1) _) ?_
 clear o0 o1 q0 q1 ol
 have Ki_1 := LH (Ki.out.put (.bool sxv) (.slice Axv nxv cxv))
 have NJ1 := LH (ext_put2 (ET Ew3.out (ET Ew4.out (ET Ew5.out (ET Ew6.out (ET Ew7.out (ET Ew8.out (ET Ew9.out (ET Ew10.out (ET Ew11.out (ET Ew12.out (ET Ew13.out (ET Ew14.out Ew15.out)))))))))))) (r := gi) Pi.out.1 (.bool sxv) (.slice Axv nxv cxv))
 have NZ1 : Hid (w15.heap.size ≤ ((w15.setCell ⟨gi, 0, none⟩ (.bool sxv)).setCell ⟨gi, 1, none⟩ (.slice Axv nxv cxv)).heap.size) := by unfold Hid; rw [size_put2]; exact Nat.le_refl _
 have Zxv_1 := LH ((Zxv.out.ext (ET Ew9.out (ET Ew10.out (ET Ew11.out (ET Ew12.out (ET Ew13.out (ET Ew14.out Ew15.out))))))).put2A (g := gi) (Zxv.out.span (Pi.out.2.2 (w7.heap.size, w8.heap.size) (by simp))) (.bool sxv) (.slice Axv nxv cxv))
 have Zyu_1 := LH ((Zyu.out.ext Ew15.out).put2A (g := gi) (Zyu.out.span (Pi.out.2.2 (w13.heap.size, w14.heap.size) (by simp))) (.bool sxv) (.slice Axv nxv cxv))
 have Kj_1 := LH (Kj.out.far (r := gi) HNij.out (.bool sxv) (.slice Axv nxv cxv))
 generalize ((w15.setCell ⟨gi, 0, none⟩ (.bool sxv)).setCell ⟨gi, 1, none⟩ (.slice Axv nxv cxv)) = w16 at *
 repeat (refine idxAt_still (by rfl) (by rfl) ?_; go_big_quiet_step (fail); refine wpQuiet_nil ?_)
 obtain ⟨o0, o1, q0, q1, ol⟩ := Kj_1.out
 refine idxAt_move (by rfl) (by rfl) (by kernel_rfl) ?_
 go_wp2_with fail
 refine And.intro (inX_put (p := ⟨gj, 1, none⟩) (inX_put (p := ⟨gj, 0, none⟩) (inX_of_ext _ NJ1.out) (.inr Pj.out.1) _) (.inr Pj.out.1) _) ?_
 clear o0 o1 q0 q1 ol
 have Kj_2 := LH (Kj_1.out.put (.bool syu) (.slice Ayu nyu cyu))
 have NJ2 := LH (ext_put2 NJ1.out (r := gj) Pj.out.1 (.bool syu) (.slice Ayu nyu cyu))
 have NZ2 : Hid (w16.heap.size ≤ ((w16.setCell ⟨gj, 0, none⟩ (.bool syu)).setCell ⟨gj, 1, none⟩ (.slice Ayu nyu cyu)).heap.size) := by unfold Hid; rw [size_put2]; exact Nat.le_refl _
 have Zxv_2 := LH (Zxv_1.out.put2A (g := gj) (Zxv.out.span (Pj.out.2.2 (w7.heap.size, w8.heap.size) (by simp))) (.bool syu) (.slice Ayu nyu cyu))
 have Zyu_2 := LH (Zyu_1.out.put2A (g := gj) (Zyu.out.span (Pj.out.2.2 (w13.heap.size, w14.heap.size) (by simp))) (.bool syu) (.slice Ayu nyu cyu))
 have Ki_2 := LH (Ki_1.out.far (r := gj) (Ne.symm HNij.out) (.bool syu) (.slice Ayu nyu cyu))
 generalize ((w16.setCell ⟨gj, 0, none⟩ (.bool syu)).setCell ⟨gj, 1, none⟩ (.slice Ayu nyu cyu)) = w17 at *
 repeat (refine idxAt_still (by rfl) (by rfl) ?_; go_big_quiet_step (fail); refine wpQuiet_nil ?_)
 refine idxAt_nil ?_
 clear fa0 fa1 fa2 fa3 fb0 fb1 fb2 fb3
 go_wp2_with fail
 refine wp_region_lexS (C := InX w17.drew []) (by kernel_rfl) (by kernel_rfl) (inX_self _ _) ?_
 have hE : Ext w17 w17.drew := Ext.rfl'.drew
 generalize w17.drew = w18 at *
 have Ew18 := LH hE
 clear hE
 have fa0 := fun z : ExtX w18 [] => z.cell (p := ⟨w.heap.size, 0, none⟩) (Ka.out.ext (ET Ew2.out (ET NJ2.out Ew18.out))).1.1 (by simp)
 have fa1 := fun z : ExtX w18 [] => z.cell (p := ⟨w.heap.size, 1, none⟩) (Ka.out.ext (ET Ew2.out (ET NJ2.out Ew18.out))).1.2.1 (by simp)
 have fa2 := fun z : ExtX w18 [] => z.cell (p := ⟨w.heap.size, 2, none⟩) (Ka.out.ext (ET Ew2.out (ET NJ2.out Ew18.out))).1.2.2.1 (by simp)
 have fa3 := fun z : ExtX w18 [] => z.cell (p := ⟨w.heap.size, 3, none⟩) (Ka.out.ext (ET Ew2.out (ET NJ2.out Ew18.out))).1.2.2.2 (by simp)
 have fb0 := fun z : ExtX w18 [] => z.cell (p := ⟨w.heap.size + 1, 0, none⟩) (Kb.out.ext (ET Ew2.out (ET NJ2.out Ew18.out))).1.1 (by simp)
 have fb1 := fun z : ExtX w18 [] => z.cell (p := ⟨w.heap.size + 1, 1, none⟩) (Kb.out.ext (ET Ew2.out (ET NJ2.out Ew18.out))).1.2.1 (by simp)
 have fb2 := fun z : ExtX w18 [] => z.cell (p := ⟨w.heap.size + 1, 2, none⟩) (Kb.out.ext (ET Ew2.out (ET NJ2.out Ew18.out))).1.2.2.1 (by simp)
 have fb3 := fun z : ExtX w18 [] => z.cell (p := ⟨w.heap.size + 1, 3, none⟩) (Kb.out.ext (ET Ew2.out (ET NJ2.out Ew18.out))).1.2.2.2 (by simp)
 have fi0 := fun z : ExtX w18 [] => z.cell (p := ⟨gi, 0, none⟩) (Ki_2.out.ext Ew18.out).1 (by simp)
 have fi1 := fun z : ExtX w18 [] => z.cell (p := ⟨gi, 1, none⟩) (Ki_2.out.ext Ew18.out).2.1 (by simp)
 have fj0 := fun z : ExtX w18 [] => z.cell (p := ⟨gj, 0, none⟩) (Kj_2.out.ext Ew18.out).1 (by simp)
 have fj1 := fun z : ExtX w18 [] => z.cell (p := ⟨gj, 1, none⟩) (Kj_2.out.ext Ew18.out).2.1 (by simp)
 repeat (refine lexAt_still (by rfl) ?_; go_big_quiet_step (fail); refine wpQuiet_nil ?_)
 refine lexAt_move (by rfl) (by kernel_rfl) ?_
 go_wp2_with fail
 refine (rzadd_any sxv Axv nxv cxv _ syu Ayu nyu cyu _ w18 (Zxv_2.out.ext Ew18.out).is (Zyu_2.out.ext Ew18.out).is (by omega) (by omega)).mono ?_
 rintro e w19 ⟨ssu, Asu, nsu, csu, rfl, hZ, hE⟩
 have Ew19 := LH hE
 clear hE
 have Zsu := LH hZ
 clear hZ
 go_wp2_with fail
 refine And.intro (inX_of_ext _ Ew19.out) ?_
 repeat (refine lexAt_still (by rfl) ?_; go_big_quiet_step (fail); refine wpQuiet_nil ?_)
 have hlsu := words_bd Zsu.out (zabs_add_lt (m := K + (K + 1)) (natAbs_mul_lt HBZ1.out HBY2.out) (natAbs_mul_lt HBZ2.out HBY1.out) (by omega) (by omega))
 refine lexAt_move (by rfl) (by kernel_rfl) ?_
 go_wp2_with fail
 refine (rden_any sa Aa na ca ta Ba ma da _ w19 (HY1.out.ext (ET Ew1.out (ET Ew2.out (ET NJ2.out (ET Ew18.out Ew19.out))))) (by omega)).mono ?_
 rintro e w20 ⟨su2, Au2, nu2, cu2, rfl, hZ, hE⟩
 have Ew20 := LH hE
 clear hE
 have Zu2 := LH hZ
 clear hZ
 go_wp2_with fail
 refine And.intro (inX_of_ext _ (ET Ew19.out Ew20.out)) ?_
 repeat (refine lexAt_still (by rfl) ?_; go_big_quiet_step (fail); refine wpQuiet_nil ?_)
 have hlu2 := words_bd Zu2.out HBY1.out
 refine lexAt_move (by rfl) (by kernel_rfl) ?_
 go_wp2_with fail
 refine (rden_any sb Ab nb cb tb Bb mb db _ w20 (HY2.out.ext (ET Ew1.out (ET Ew2.out (ET NJ2.out (ET Ew18.out (ET Ew19.out Ew20.out)))))) (by omega)).mono ?_
 rintro e w21 ⟨sv2, Av2, nv2, cv2, rfl, hZ, hE⟩
 have Ew21 := LH hE
 clear hE
 have Zv2 := LH hZ
 clear hZ
 go_wp2_with fail
 refine And.intro (inX_of_ext _ (ET Ew19.out (ET Ew20.out Ew21.out))) ?_
 repeat (refine lexAt_still (by rfl) ?_; go_big_quiet_step (fail); refine wpQuiet_nil ?_)
 have hlv2 := words_bd Zv2.out HBY2.out
 refine lexAt_move (by rfl) (by kernel_rfl) ?_
 go_wp2_with fail
 refine (rzmul_any su2 Au2 nu2 cu2 _ sv2 Av2 nv2 cv2 _ w21 (Zu2.out.ext Ew21.out).is Zv2.out.is (by omega) (by omega)).mono ?_
 rintro e w22 ⟨suv, Auv, nuv, cuv, rfl, hZ, hE⟩
 have Ew22 := LH hE
 clear hE
 have Zuv := LH hZ
 clear hZ
 go_wp2_with fail
 refine And.intro (inX_of_ext _ (ET Ew19.out (ET Ew20.out (ET Ew21.out Ew22.out)))) ?_
 repeat (refine lexAt_still (by rfl) ?_; go_big_quiet_step (fail); refine wpQuiet_nil ?_)
 have hluv := words_bd Zuv.out (natAbs_mul_lt HBY1.out HBY2.out)
 refine lexAt_move (by rfl) (by kernel_rfl) ?_
 go_wp2_with fail
 refine (rover_any ssu Asu nsu csu _ suv Auv nuv cuv _ w22 (Zsu.out.ext (ET Ew20.out (ET Ew21.out Ew22.out))).is Zuv.out.is (by omega) (by omega) (Int.mul_pos (denV_pos _) (denV_pos _))).mono ?_
 rintro e w23 ⟨sk, Ak, nk, ck, tk, Bk, mk, dk, rfl, hQ, hE⟩
 have Ew23 := LH hE
 clear hE
 rw [← divInt_add' _ _ (denV_pos _) (denV_pos _)] at hQ
 have Qk := LH hQ
 clear hQ
 have HXe := LH (inX_of_ext [] (ET Ew19.out (ET Ew20.out (ET Ew21.out (ET Ew22.out Ew23.out)))))
 clear fa0 fa1 fa2 fa3 fb0 fb1 fb2 fb3 fi0 fi1 fj0 fj1
 obtain ⟨⟨e0, e1, e2, e3⟩, ⟨f0, f1, f2, f3⟩, el⟩ := (Kr.out.ext (ET Ew2.out (ET NJ2.out (ET Ew18.out (ET Ew19.out (ET Ew20.out (ET Ew21.out (ET Ew22.out Ew23.out))))))))
 go_wp2_with fail
 refine And.intro HXe.out ?_
 refine lexAt_last (by rfl) (by kernel_rfl) (by kernel_rfl) ?_
 go_wp2_with fail
 refine And.intro trivial (lexAt_nil ?_)
 go_wp2_with fail
 refine bodyPost_ret (v := .agg #[.bool sk, .slice Ak nk ck, .bool tk, .slice Bk mk dk]) (by simp [results, Tryz.results66, go_sem, e0, e1, e2, e3]) rfl ?_
 exact ⟨_, _, _, _, _, _, _, _, rfl, retQ_fill (by omega) (Nat.lt_of_lt_of_le Kr.out.2.2 (Nat.le_trans Ew2.out.size (Nat.le_trans Ew3.out.size (Nat.le_trans Ew4.out.size (Nat.le_trans Ew5.out.size (Nat.le_trans Ew6.out.size (Nat.le_trans Ew7.out.size (Nat.le_trans Ew8.out.size (Nat.le_trans Ew9.out.size (Nat.le_trans Ew10.out.size (Nat.le_trans Ew11.out.size (Nat.le_trans Ew12.out.size (Nat.le_trans Ew13.out.size (Nat.le_trans Ew14.out.size (Nat.le_trans Ew15.out.size (Nat.le_trans NZ1.out (Nat.le_trans NZ2.out (Nat.le_trans Ew18.out.size (Nat.le_trans Ew19.out.size (Nat.le_trans Ew20.out.size (Nat.le_trans Ew21.out.size Ew22.out.size))))))))))))))))))))) Qk.out (ET Ew1.out (ET Ew2.out (ET NJ2.out (ET Ew18.out (ET Ew19.out (ET Ew20.out (ET Ew21.out (ET Ew22.out Ew23.out)))))))) _ _ _ _⟩
theorem RArg.mono {K L : Nat} {w : World} {s : Bool} {A : Option Addr} {n c : Nat} {t : Bool} {B : Option Addr} {m d : Nat} {q : Rat} (h : RArg K w s A n c t B m d q) (hK : K ≤ L) : RArg L w s A n c t B m d q := by
 obtain ⟨z, y, h1, h2, h3, h4, h5⟩ := h
 exact ⟨z, y, h1, h2, h3, by omega, by omega⟩
set_option maxRecDepth 100000 in
set_option maxHeartbeats 4000000 in
theorem rqsub_any (sa : Bool) (Aa : Option Addr) (na ca : Nat) (ta : Bool) (Ba : Option Addr) (ma da : Nat) (p : Rat) (sb : Bool) (Ab : Option Addr) (nb cb : Nat) (tb : Bool) (Bb : Option Addr) (mb db : Nat) (q : Rat) (K : Nat) (w : World) (h1 : RArg K w sa Aa na ca ta Ba ma da p) (h2 : RArg K w sb Ab nb cb tb Bb mb db q) (hK : K ≤ 66009) :
  Calls Tryz.prog 58 #[.agg #[.bool sa, .slice Aa na ca, .bool ta, .slice Ba ma da], .agg #[.bool sb, .slice Ab nb cb, .bool tb, .slice Bb mb db]] w (RetQ w (p - q)) := by
 have HA1 := LH h1
 clear h1
 have HA2 := LH h2
 clear h2
 have hK' : K ≤ 66009 := hK
 go_enter Tryz.func58, Tryz.ntmps58
 go_wp2_with fail
 have k0 := Cell4.new (w) (w.heap.size) rfl (.bool sa) (.slice Aa na ca) (.bool ta) (.slice Ba ma da) 29
 have k1 := Cell4.new ((w).alloc (.cells #[.bool sa, .slice Aa na ca, .bool ta, .slice Ba ma da] 29)) (w.heap.size + 1) (by simp) (.bool sb) (.slice Ab nb cb) (.bool tb) (.slice Bb mb db) 29
 have k2 := Cell4.new (((w).alloc (.cells #[.bool sa, .slice Aa na ca, .bool ta, .slice Ba ma da] 29)).alloc (.cells #[.bool sb, .slice Ab nb cb, .bool tb, .slice Bb mb db] 29)) (w.heap.size + 1 + 1) (by simp) (.bool false) (.slice none 0 0) (.bool false) (.slice none 0 0) 29
 have hE : Ext w ((((w).alloc (.cells #[.bool sa, .slice Aa na ca, .bool ta, .slice Ba ma da] 29)).alloc (.cells #[.bool sb, .slice Ab nb cb, .bool tb, .slice Bb mb db] 29)).alloc (.cells #[.bool false, .slice none 0 0, .bool false, .slice none 0 0] 29)) := (Ext.al (Ext.al (Ext.al Ext.rfl' _) _) _)
 have k0 := k0.ext (show Ext ((w).alloc (.cells #[.bool sa, .slice Aa na ca, .bool ta, .slice Ba ma da] 29)) ((((w).alloc (.cells #[.bool sa, .slice Aa na ca, .bool ta, .slice Ba ma da] 29)).alloc (.cells #[.bool sb, .slice Ab nb cb, .bool tb, .slice Bb mb db] 29)).alloc (.cells #[.bool false, .slice none 0 0, .bool false, .slice none 0 0] 29)) from (Ext.al (Ext.al Ext.rfl' _) _))
 have k1 := k1.ext (show Ext (((w).alloc (.cells #[.bool sa, .slice Aa na ca, .bool ta, .slice Ba ma da] 29)).alloc (.cells #[.bool sb, .slice Ab nb cb, .bool tb, .slice Bb mb db] 29)) ((((w).alloc (.cells #[.bool sa, .slice Aa na ca, .bool ta, .slice Ba ma da] 29)).alloc (.cells #[.bool sb, .slice Ab nb cb, .bool tb, .slice Bb mb db] 29)).alloc (.cells #[.bool false, .slice none 0 0, .bool false, .slice none 0 0] 29)) from (Ext.al Ext.rfl' _))
 generalize (((w).alloc (.cells #[.bool sa, .slice Aa na ca, .bool ta, .slice Ba ma da] 29)).alloc (.cells #[.bool sb, .slice Ab nb cb, .bool tb, .slice Bb mb db] 29)).alloc (.cells #[.bool false, .slice none 0 0, .bool false, .slice none 0 0] 29) = w1 at *
 have Ew1 := LH hE
 clear hE
 have Ka := LH k0
 clear k0
 have Kb := LH k1
 clear k1
 have Kr := LH k2
 clear k2
 refine wp_region_lexS (C := InX w1.drew []) (by kernel_rfl) (by kernel_rfl) (inX_self _ _) ?_
 have hE : Ext w1 w1.drew := Ext.rfl'.drew
 generalize w1.drew = w2 at *
 have Ew2 := LH hE
 clear hE
 have fa0 := fun z : ExtX w2 [] => z.cell (p := ⟨w.heap.size, 0, none⟩) (Ka.out.ext Ew2.out).1.1 (by simp)
 have fa1 := fun z : ExtX w2 [] => z.cell (p := ⟨w.heap.size, 1, none⟩) (Ka.out.ext Ew2.out).1.2.1 (by simp)
 have fa2 := fun z : ExtX w2 [] => z.cell (p := ⟨w.heap.size, 2, none⟩) (Ka.out.ext Ew2.out).1.2.2.1 (by simp)
 have fa3 := fun z : ExtX w2 [] => z.cell (p := ⟨w.heap.size, 3, none⟩) (Ka.out.ext Ew2.out).1.2.2.2 (by simp)
 have fb0 := fun z : ExtX w2 [] => z.cell (p := ⟨w.heap.size + 1, 0, none⟩) (Kb.out.ext Ew2.out).1.1 (by simp)
 have fb1 := fun z : ExtX w2 [] => z.cell (p := ⟨w.heap.size + 1, 1, none⟩) (Kb.out.ext Ew2.out).1.2.1 (by simp)
 have fb2 := fun z : ExtX w2 [] => z.cell (p := ⟨w.heap.size + 1, 2, none⟩) (Kb.out.ext Ew2.out).1.2.2.1 (by simp)
 have fb3 := fun z : ExtX w2 [] => z.cell (p := ⟨w.heap.size + 1, 3, none⟩) (Kb.out.ext Ew2.out).1.2.2.2 (by simp)
 repeat (refine lexAt_still (by rfl) ?_; go_big_quiet_step (fail); refine wpQuiet_nil ?_)
 refine lexAt_move (by rfl) (by kernel_rfl) ?_
 go_wp2_with fail
 refine (rqneg_any sb Ab nb cb tb Bb mb db _ K w2 (HA2.out.ext (ET Ew1.out Ew2.out)) (by omega)).mono ?_
 rintro e w3 ⟨si, Ai, ni, ci, ti, Bi, mi, di, rfl, hQ, hE⟩
 have Ew3 := LH hE
 clear hE
 have Qi := LH hQ
 clear hQ
 go_wp2_with fail
 refine And.intro (inX_of_ext _ Ew3.out) ?_
 repeat (refine lexAt_still (by rfl) ?_; go_big_quiet_step (fail); refine wpQuiet_nil ?_)
 refine lexAt_move (by rfl) (by kernel_rfl) ?_
 go_wp2_with fail
 refine (rqadd_any sa Aa na ca ta Ba ma da _ si Ai ni ci ti Bi mi di _ (K + 1) w3 ((HA1.out.ext (ET Ew1.out (ET Ew2.out Ew3.out))).mono (by omega)) (Qi.out.rarg HA2.out.sz.neg (Nat.le_refl _)) (by omega)).mono ?_
 rintro e w4 ⟨sv, Av, nv, cv, tv, Bv, mv, dv, rfl, hQ, hE⟩
 have Ew4 := LH hE
 clear hE
 rw [← Rat.sub_eq_add_neg] at hQ
 have Qv := LH hQ
 clear hQ
 have HXe := LH (inX_of_ext [] (ET Ew3.out Ew4.out))
 clear fa0 fa1 fa2 fa3 fb0 fb1 fb2 fb3
 obtain ⟨⟨e0, e1, e2, e3⟩, ⟨f0, f1, f2, f3⟩, el⟩ := (Kr.out.ext (ET Ew2.out (ET Ew3.out Ew4.out)))
 go_wp2_with fail
 refine And.intro HXe.out ?_
 refine lexAt_last (by rfl) (by kernel_rfl) (by kernel_rfl) ?_
 go_wp2_with fail
 refine And.intro trivial (lexAt_nil ?_)
 go_wp2_with fail
 refine bodyPost_ret (v := .agg #[.bool sv, .slice Av nv cv, .bool tv, .slice Bv mv dv]) (by simp [results, Tryz.results58, go_sem, e0, e1, e2, e3]) rfl ?_
 exact ⟨_, _, _, _, _, _, _, _, rfl, retQ_fill (by omega) (Nat.lt_of_lt_of_le Kr.out.2.2 (Nat.le_trans Ew2.out.size Ew3.out.size)) Qv.out (ET Ew1.out (ET Ew2.out (ET Ew3.out Ew4.out))) _ _ _ _⟩
set_option maxRecDepth 100000 in
set_option maxHeartbeats 4000000 in
theorem rqsign_any (sa : Bool) (Aa : Option Addr) (na ca : Nat) (ta : Bool) (Ba : Option Addr) (ma da : Nat) (p : Rat) (K : Nat) (w : World) (h : RArg K w sa Aa na ca ta Ba ma da p) (hK : K ≤ 500000000) :
  Calls Tryz.prog 60 #[.agg #[.bool sa, .slice Aa na ca, .bool ta, .slice Ba ma da]] w fun e w' => e = .returned (.int .i64 p.num.sign) ∧ Ext w w' := by
 obtain ⟨z1, y1, hz1, hy1, rfl, hn1, hm1⟩ := h
 have HZ1 := LH hz1
 have HY1 := LH hy1
 have HBZ1 : Hid ((numV z1 y1).natAbs < 4294967296 ^ na) := by unfold Hid; rw [numV_abs]; exact natAbs_ZIs hz1
 have HBY1 := LH (denV_lt (natAbs_ZIs hy1))
 clear hz1 hy1
 go_enter Tryz.func60, Tryz.ntmps60
 go_wp2_with fail
 have k0 := Cell4.new (w) (w.heap.size) rfl (.bool sa) (.slice Aa na ca) (.bool ta) (.slice Ba ma da) 29
 have hE : Ext w ((w).alloc (.cells #[.bool sa, .slice Aa na ca, .bool ta, .slice Ba ma da] 29)) := (Ext.al Ext.rfl' _)
 generalize (w).alloc (.cells #[.bool sa, .slice Aa na ca, .bool ta, .slice Ba ma da] 29) = w1 at *
 have Ew1 := LH hE
 clear hE
 have Ka := LH k0
 clear k0
 refine (rnum_any sa Aa na ca ta Ba ma da _ _ w1 (HZ1.out.ext Ew1.out) (HY1.out.ext Ew1.out) (by omega) (by omega)).mono ?_
 rintro e w2 ⟨sx, Ax, nx, cx, rfl, hZ, hE⟩
 have Ew2 := LH hE
 clear hE
 have Zx := LH hZ
 clear hZ
 have hlx := words_bd Zx.out HBZ1.out
 go_wp2_with fail
 refine (rsign_any sx Ax nx cx _ w2 Zx.out.is (by omega)).mono ?_
 rintro e w3 ⟨rfl, hE⟩
 have Ew3 := LH hE
 clear hE
 go_wp2_with fail
 go_ret
 exact ⟨ret_i (num_sign (denV_pos _)).symm, (ET Ew1.out (ET Ew2.out Ew3.out))⟩
set_option maxRecDepth 100000 in
set_option maxHeartbeats 4000000 in
theorem rqcmp_any (sa : Bool) (Aa : Option Addr) (na ca : Nat) (ta : Bool) (Ba : Option Addr) (ma da : Nat) (p : Rat) (sb : Bool) (Ab : Option Addr) (nb cb : Nat) (tb : Bool) (Bb : Option Addr) (mb db : Nat) (q : Rat) (K : Nat) (w : World) (h1 : RArg K w sa Aa na ca ta Ba ma da p) (h2 : RArg K w sb Ab nb cb tb Bb mb db q) (hK : K ≤ 66009) :
  Calls Tryz.prog 33 #[.agg #[.bool sa, .slice Aa na ca, .bool ta, .slice Ba ma da], .agg #[.bool sb, .slice Ab nb cb, .bool tb, .slice Bb mb db]] w fun e w' => e = .returned (.int .i64 (cmpQ p q)) ∧ Ext w w' := by
 have HA1 := LH h1
 clear h1
 have HA2 := LH h2
 clear h2
 go_enter Tryz.func33, Tryz.ntmps33
 go_wp2_with fail
 have k0 := Cell4.new (w) (w.heap.size) rfl (.bool sa) (.slice Aa na ca) (.bool ta) (.slice Ba ma da) 29
 have k1 := Cell4.new ((w).alloc (.cells #[.bool sa, .slice Aa na ca, .bool ta, .slice Ba ma da] 29)) (w.heap.size + 1) (by simp) (.bool sb) (.slice Ab nb cb) (.bool tb) (.slice Bb mb db) 29
 have hE : Ext w (((w).alloc (.cells #[.bool sa, .slice Aa na ca, .bool ta, .slice Ba ma da] 29)).alloc (.cells #[.bool sb, .slice Ab nb cb, .bool tb, .slice Bb mb db] 29)) := (Ext.al (Ext.al Ext.rfl' _) _)
 have k0 := k0.ext (show Ext ((w).alloc (.cells #[.bool sa, .slice Aa na ca, .bool ta, .slice Ba ma da] 29)) (((w).alloc (.cells #[.bool sa, .slice Aa na ca, .bool ta, .slice Ba ma da] 29)).alloc (.cells #[.bool sb, .slice Ab nb cb, .bool tb, .slice Bb mb db] 29)) from (Ext.al Ext.rfl' _))
 generalize ((w).alloc (.cells #[.bool sa, .slice Aa na ca, .bool ta, .slice Ba ma da] 29)).alloc (.cells #[.bool sb, .slice Ab nb cb, .bool tb, .slice Bb mb db] 29) = w1 at *
 have Ew1 := LH hE
 clear hE
 have Ka := LH k0
 clear k0
 have Kb := LH k1
 clear k1
 refine (rqsub_any sa Aa na ca ta Ba ma da _ sb Ab nb cb tb Bb mb db _ K w1 (HA1.out.ext Ew1.out) (HA2.out.ext Ew1.out) (by omega)).mono ?_
 rintro e w2 ⟨si, Ai, ni, ci, ti, Bi, mi, di, rfl, hQ, hE⟩
 have Ew2 := LH hE
 clear hE
 have Qi := LH hQ
 clear hQ
 go_wp2_with fail
 refine (rqsign_any si Ai ni ci ti Bi mi di _ _ w2 (Qi.out.rarg (HA1.out.sz.sub HA2.out.sz) (Nat.le_refl _)) (by omega)).mono ?_
 rintro e w3 ⟨rfl, hE⟩
 have Ew3 := LH hE
 clear hE
 go_wp2_with fail
 go_ret
 exact ⟨ret_i (sign_cmpQ p q), (ET Ew1.out (ET Ew2.out Ew3.out))⟩
theorem cmpQ_le (p q : Rat) : cmpQ p q ≤ 0 ↔ ¬ q < p := by
 have := cmpQ_pos p q
 constructor
 ·intro h h'
  have := this.2 h'
  omega
 ·intro h
  rcases Int.lt_or_le 0 (cmpQ p q) with h' | h'
  ·exact absurd (this.1 h') h
  ·exact h'
set_option maxRecDepth 100000 in
set_option maxHeartbeats 4000000 in
theorem rqmin_any (sa : Bool) (Aa : Option Addr) (na ca : Nat) (ta : Bool) (Ba : Option Addr) (ma da : Nat) (p : Rat) (sb : Bool) (Ab : Option Addr) (nb cb : Nat) (tb : Bool) (Bb : Option Addr) (mb db : Nat) (q : Rat) (K : Nat) (w : World) (h1 : RArg K w sa Aa na ca ta Ba ma da p) (h2 : RArg K w sb Ab nb cb tb Bb mb db q) (hK : K ≤ 66009) :
  Calls Tryz.prog 118 #[.agg #[.bool sa, .slice Aa na ca, .bool ta, .slice Ba ma da], .agg #[.bool sb, .slice Ab nb cb, .bool tb, .slice Bb mb db]] w (RetQ w (minQ p q)) := by
 have HA1 := LH h1
 clear h1
 have HA2 := LH h2
 clear h2
 go_enter Tryz.func118, Tryz.ntmps118
 go_wp2_with fail
 have k0 := Cell4.new (w) (w.heap.size) rfl (.bool sa) (.slice Aa na ca) (.bool ta) (.slice Ba ma da) 29
 have k1 := Cell4.new ((w).alloc (.cells #[.bool sa, .slice Aa na ca, .bool ta, .slice Ba ma da] 29)) (w.heap.size + 1) (by simp) (.bool sb) (.slice Ab nb cb) (.bool tb) (.slice Bb mb db) 29
 have k2 := Cell4.new (((w).alloc (.cells #[.bool sa, .slice Aa na ca, .bool ta, .slice Ba ma da] 29)).alloc (.cells #[.bool sb, .slice Ab nb cb, .bool tb, .slice Bb mb db] 29)) (w.heap.size + 1 + 1) (by simp) (.bool false) (.slice none 0 0) (.bool false) (.slice none 0 0) 29
 have hE : Ext w ((((w).alloc (.cells #[.bool sa, .slice Aa na ca, .bool ta, .slice Ba ma da] 29)).alloc (.cells #[.bool sb, .slice Ab nb cb, .bool tb, .slice Bb mb db] 29)).alloc (.cells #[.bool false, .slice none 0 0, .bool false, .slice none 0 0] 29)) := (Ext.al (Ext.al (Ext.al Ext.rfl' _) _) _)
 have k0 := k0.ext (show Ext ((w).alloc (.cells #[.bool sa, .slice Aa na ca, .bool ta, .slice Ba ma da] 29)) ((((w).alloc (.cells #[.bool sa, .slice Aa na ca, .bool ta, .slice Ba ma da] 29)).alloc (.cells #[.bool sb, .slice Ab nb cb, .bool tb, .slice Bb mb db] 29)).alloc (.cells #[.bool false, .slice none 0 0, .bool false, .slice none 0 0] 29)) from (Ext.al (Ext.al Ext.rfl' _) _))
 have k1 := k1.ext (show Ext (((w).alloc (.cells #[.bool sa, .slice Aa na ca, .bool ta, .slice Ba ma da] 29)).alloc (.cells #[.bool sb, .slice Ab nb cb, .bool tb, .slice Bb mb db] 29)) ((((w).alloc (.cells #[.bool sa, .slice Aa na ca, .bool ta, .slice Ba ma da] 29)).alloc (.cells #[.bool sb, .slice Ab nb cb, .bool tb, .slice Bb mb db] 29)).alloc (.cells #[.bool false, .slice none 0 0, .bool false, .slice none 0 0] 29)) from (Ext.al Ext.rfl' _))
 generalize (((w).alloc (.cells #[.bool sa, .slice Aa na ca, .bool ta, .slice Ba ma da] 29)).alloc (.cells #[.bool sb, .slice Ab nb cb, .bool tb, .slice Bb mb db] 29)).alloc (.cells #[.bool false, .slice none 0 0, .bool false, .slice none 0 0] 29) = w1 at *
 have Ew1 := LH hE
 clear hE
 have Ka := LH k0
 clear k0
 have Kb := LH k1
 clear k1
 have Kr := LH k2
 clear k2
 refine (rqcmp_any sa Aa na ca ta Ba ma da _ sb Ab nb cb tb Bb mb db _ K w1 (HA1.out.ext Ew1.out) (HA2.out.ext Ew1.out) (by omega)).mono ?_
 rintro e w2 ⟨rfl, hE⟩
 have Ew2 := LH hE
 clear hE
 have HC0 := LH (cmpQ_le p q)
 obtain ⟨cv, hcv⟩ : ∃ v, cmpQ p q = v := ⟨_, rfl⟩
 rw [hcv] at HC0 ⊢
 clear hcv
 by_cases hlt : q < p
 ·have hb0 : decide (cv ≤ 0) = false := decide_eq_false (fun e => (HC0.out.1 e) hlt)
  have HV : Hid (minQ p q = q) := if_pos hlt
  clear hlt HC0
  obtain ⟨⟨xa0, xa1, xa2, xa3⟩, -, za⟩ := (Ka.out.ext Ew2.out)
  obtain ⟨⟨xb0, xb1, xb2, xb3⟩, -, zb⟩ := (Kb.out.ext Ew2.out)
  go_wp2_with fail
  refine (rqleast_any sb Ab nb cb tb Bb mb db _ K w2 (HA2.out.ext (ET Ew1.out Ew2.out)) (by omega)).mono ?_
  rintro e w3 ⟨sv, Av, nv, cv, tv, Bv, mv, dv, rfl, hQ, hE⟩
  have Ew3 := LH hE
  clear hE
  rw [← HV.out] at hQ
  have Qv := LH hQ
  clear hQ
  clear xa0 xa1 xa2 xa3 za xb0 xb1 xb2 xb3 zb
  obtain ⟨⟨e0, e1, e2, e3⟩, ⟨f0, f1, f2, f3⟩, el⟩ := (Kr.out.ext (ET Ew2.out Ew3.out))
  go_wp2_with fail
  refine bodyPost_ret (v := .agg #[.bool sv, .slice Av nv cv, .bool tv, .slice Bv mv dv]) (by simp [results, Tryz.results118, go_sem, e0, e1, e2, e3]) rfl ?_
  exact ⟨_, _, _, _, _, _, _, _, rfl, retQ_fill (by omega) (Nat.lt_of_lt_of_le Kr.out.2.2 Ew2.out.size) Qv.out (ET Ew1.out (ET Ew2.out Ew3.out)) _ _ _ _⟩
 ·have hb0 : decide (cv ≤ 0) = true := decide_eq_true (HC0.out.2 hlt)
  have HV : Hid (minQ p q = p) := if_neg hlt
  clear hlt HC0
  obtain ⟨⟨xa0, xa1, xa2, xa3⟩, -, za⟩ := (Ka.out.ext Ew2.out)
  obtain ⟨⟨xb0, xb1, xb2, xb3⟩, -, zb⟩ := (Kb.out.ext Ew2.out)
  go_wp2_with fail
  refine (rqleast_any sa Aa na ca ta Ba ma da _ K w2 (HA1.out.ext (ET Ew1.out Ew2.out)) (by omega)).mono ?_
  rintro e w4 ⟨sv, Av, nv, cv, tv, Bv, mv, dv, rfl, hQ, hE⟩
  have Ew4 := LH hE
  clear hE
  rw [← HV.out] at hQ
  have Qv := LH hQ
  clear hQ
  clear xa0 xa1 xa2 xa3 za xb0 xb1 xb2 xb3 zb
  obtain ⟨⟨e0, e1, e2, e3⟩, ⟨f0, f1, f2, f3⟩, el⟩ := (Kr.out.ext (ET Ew2.out Ew4.out))
  go_wp2_with fail
  refine bodyPost_ret (v := .agg #[.bool sv, .slice Av nv cv, .bool tv, .slice Bv mv dv]) (by simp [results, Tryz.results118, go_sem, e0, e1, e2, e3]) rfl ?_
  exact ⟨_, _, _, _, _, _, _, _, rfl, retQ_fill (by omega) (Nat.lt_of_lt_of_le Kr.out.2.2 Ew2.out.size) Qv.out (ET Ew1.out (ET Ew2.out Ew4.out)) _ _ _ _⟩
end Go.Proofs.YtjinpfnefeiooaaGreat
