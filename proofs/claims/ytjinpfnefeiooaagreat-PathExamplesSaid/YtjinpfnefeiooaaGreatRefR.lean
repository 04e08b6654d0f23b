/- A part of the proof. -/
import Derived.Test.YtjinpfnefeiooaaGreatRefQ
namespace Go.Proofs.YtjinpfnefeiooaaGreat
open Go.RowKit

set_option maxRecDepth 100000 in
set_option maxHeartbeats 4000000 in
theorem rqleast_any (sa : Bool) (Aa : Option Addr) (na ca : Nat) (ta : Bool) (Ba : Option Addr) (ma da : Nat) (p : Rat) (K : Nat) (w : World) (h : RArg K w sa Aa na ca ta Ba ma da p) (hK : K ≤ 100000) :
  Calls Tryz.prog 46 #[.agg #[.bool sa, .slice Aa na ca, .bool ta, .slice Ba ma da]] w (RetQ w p) := by
 obtain ⟨z1, y1, hz1, hy1, rfl, hn1, hm1⟩ := h
 have HZ1 := LH hz1
 have HY1 := LH hy1
 have HBZ1 : Hid ((numV z1 y1).natAbs < 4294967296 ^ na) := by unfold Hid; rw [numV_abs]; exact natAbs_ZIs hz1
 have HBY1 := LH (denV_lt (natAbs_ZIs hy1))
 clear hz1 hy1
 go_enter Tryz.func46, Tryz.ntmps46
 go_wp2_with fail
 have k0 := Cell4.new (w) (w.heap.size) rfl (.bool sa) (.slice Aa na ca) (.bool ta) (.slice Ba ma da) 29
 have k1 := Cell4.new ((w).alloc (.cells #[.bool sa, .slice Aa na ca, .bool ta, .slice Ba ma da] 29)) (w.heap.size + 1) (by simp) (.bool false) (.slice none 0 0) (.bool false) (.slice none 0 0) 29
 have hE : Ext w (((w).alloc (.cells #[.bool sa, .slice Aa na ca, .bool ta, .slice Ba ma da] 29)).alloc (.cells #[.bool false, .slice none 0 0, .bool false, .slice none 0 0] 29)) := (Ext.al (Ext.al Ext.rfl' _) _)
 have k0 := k0.ext (show Ext ((w).alloc (.cells #[.bool sa, .slice Aa na ca, .bool ta, .slice Ba ma da] 29)) (((w).alloc (.cells #[.bool sa, .slice Aa na ca, .bool ta, .slice Ba ma da] 29)).alloc (.cells #[.bool false, .slice none 0 0, .bool false, .slice none 0 0] 29)) from (Ext.al Ext.rfl' _))
 generalize ((w).alloc (.cells #[.bool sa, .slice Aa na ca, .bool ta, .slice Ba ma da] 29)).alloc (.cells #[.bool false, .slice none 0 0, .bool false, .slice none 0 0] 29) = w1 at *
 have Ew1 := LH hE
 clear hE
 have Ka := LH k0
 clear k0
 have Kr := LH k1
 clear k1
 refine wp_region_lexS (C := InX w1.drew []) (by kernel_rfl) (by kernel_rfl) (inX_self _ _) ?_
 have hE : Ext w1 w1.drew := Ext.rfl'.drew
 generalize w1.drew = w2 at *
 have Ew2 := LH hE
 clear hE
 have fa0 := fun z : ExtX w2 [] => z.cell (p := ⟨w.heap.size, 0, none⟩) (Ka.out.ext Ew2.out).1.1 (by simp)
 have fa1 := fun z : ExtX w2 [] => z.cell (p := ⟨w.heap.size, 1, none⟩) (Ka.out.ext Ew2.out).1.2.1 (by simp)
 have fa2 := fun z : ExtX w2 [] => z.cell (p := ⟨w.heap.size, 2, none⟩) (Ka.out.ext Ew2.out).1.2.2.1 (by simp)
 have fa3 := fun z : ExtX w2 [] => z.cell (p := ⟨w.heap.size, 3, none⟩) (Ka.out.ext Ew2.out).1.2.2.2 (by simp)
 repeat (refine lexAt_still (by rfl) ?_; go_big_quiet_step (fail); refine wpQuiet_nil ?_)
 refine lexAt_move (by rfl) (by kernel_rfl) ?_
 go_wp2_with fail
 refine (rnum_any sa Aa na ca ta Ba ma da _ _ w2 (HZ1.out.ext (ET Ew1.out Ew2.out)) (HY1.out.ext (ET Ew1.out Ew2.out)) (by omega) (by omega)).mono ?_
 rintro e w3 ⟨sx, Ax, nx, cx, rfl, hZ, hE⟩
 have Ew3 := LH hE
 clear hE
 have Zx := LH hZ
 clear hZ
 go_wp2_with fail
 refine And.intro (inX_of_ext _ Ew3.out) ?_
 repeat (refine lexAt_still (by rfl) ?_; go_big_quiet_step (fail); refine wpQuiet_nil ?_)
 have hlx := words_bd Zx.out HBZ1.out
 refine lexAt_move (by rfl) (by kernel_rfl) ?_
 go_wp2_with fail
 refine (rden_any sa Aa na ca ta Ba ma da _ w3 (HY1.out.ext (ET Ew1.out (ET Ew2.out Ew3.out))) (by omega)).mono ?_
 rintro e w4 ⟨sy, Ay, ny, cy, rfl, hZ, hE⟩
 have Ew4 := LH hE
 clear hE
 have Zy := LH hZ
 clear hZ
 go_wp2_with fail
 refine And.intro (inX_of_ext _ (ET Ew3.out Ew4.out)) ?_
 repeat (refine lexAt_still (by rfl) ?_; go_big_quiet_step (fail); refine wpQuiet_nil ?_)
 have hly := words_bd Zy.out HBY1.out
 refine lexAt_move (by rfl) (by kernel_rfl) ?_
 go_wp2_with fail
 refine (rover_any sx Ax nx cx _ sy Ay ny cy _ w4 (Zx.out.ext Ew4.out).is Zy.out.is (by omega) (by omega) (denV_pos _)).mono ?_
 rintro e w5 ⟨sv, Av, nv, cv, tv, Bv, mv, dv, rfl, hQ, hE⟩
 have Ew5 := LH hE
 clear hE
 have Qv := LH hQ
 clear hQ
 have HXe := LH (inX_of_ext [] (ET Ew3.out (ET Ew4.out Ew5.out)))
 clear fa0 fa1 fa2 fa3
 obtain ⟨⟨e0, e1, e2, e3⟩, ⟨f0, f1, f2, f3⟩, el⟩ := (Kr.out.ext (ET Ew2.out (ET Ew3.out (ET Ew4.out Ew5.out))))
 go_wp2_with fail
 refine And.intro HXe.out ?_
 refine lexAt_last (by rfl) (by kernel_rfl) (by kernel_rfl) ?_
 go_wp2_with fail
 refine And.intro trivial (lexAt_nil ?_)
 go_wp2_with fail
 refine bodyPost_ret (v := .agg #[.bool sv, .slice Av nv cv, .bool tv, .slice Bv mv dv]) (by simp [results, Tryz.results46, go_sem, e0, e1, e2, e3]) rfl ?_
 exact ⟨_, _, _, _, _, _, _, _, rfl, retQ_fill (by omega) (Nat.lt_of_lt_of_le Kr.out.2.2 (Nat.le_trans Ew2.out.size (Nat.le_trans Ew3.out.size Ew4.out.size))) Qv.out (ET Ew1.out (ET Ew2.out (ET Ew3.out (ET Ew4.out Ew5.out)))) _ _ _ _⟩
theorem RArg.mono {K L : Nat} {w : World} {s : Bool} {A : Option Addr} {n c : Nat} {t : Bool} {B : Option Addr} {m d : Nat} {q : Rat} (h : RArg K w s A n c t B m d q) (hK : K ≤ L) : RArg L w s A n c t B m d q := by
 obtain ⟨z, y, h1, h2, h3, h4, h5⟩ := h
 exact ⟨z, y, h1, h2, h3, by omega, by omega⟩
set_option maxRecDepth 100000 in
set_option maxHeartbeats 4000000 in
theorem rqof_any (y z : Int) (w : World) (hy : I64r y) (hz : I64r z) :
  Calls Tryz.prog 21 #[.int .i64 y, .int .i64 z] w (RetQ w (qOf y z)) := by
 go_enter Tryz.func21, Tryz.ntmps21
 go_wp2_with fail
 have k0 := Cell4.new (w) (w.heap.size) rfl (.bool false) (.slice none 0 0) (.bool false) (.slice none 0 0) 29
 have hE : Ext w ((w).alloc (.cells #[.bool false, .slice none 0 0, .bool false, .slice none 0 0] 29)) := (Ext.al Ext.rfl' _)
 generalize (w).alloc (.cells #[.bool false, .slice none 0 0, .bool false, .slice none 0 0] 29) = w1 at *
 have Ew1 := LH hE
 clear hE
 have Kr := LH k0
 clear k0
 refine (rfrom_any y w1 hy).mono ?_
 rintro e w2 ⟨sy, Ay, ny, cy, rfl, hZ, hE⟩
 have Ew2 := LH hE
 clear hE
 have Zy := LH hZ
 clear hZ
 go_wp2_with fail
 refine (rfrom_any z w2 hz).mono ?_
 rintro e w3 ⟨sz, Az, nz, cz, rfl, hZ, hE⟩
 have Ew3 := LH hE
 clear hE
 have Zz := LH hZ
 clear hZ
 have hly := i64_words hy Zy.out
 have hlz := i64_words hz Zz.out
 go_wp2_with fail
 have hq : QIs w3 sy Ay ny cy sz Az nz cz (qOf y z) := ⟨_, _, (Zy.out.ext Ew3.out).is, Zz.out.is, rfl⟩
 have HQ := LH hq
 clear hq
 refine (rqleast_any sy Ay ny cy sz Az nz cz _ 2 w3 (HQ.out.rarg (by omega) (by omega)) (by omega)).mono ?_
 rintro e w4 ⟨sv, Av, nv, cv, tv, Bv, mv, dv, rfl, hQ, hE⟩
 have Ew4 := LH hE
 clear hE
 have Qv := LH hQ
 clear hQ
 obtain ⟨⟨e0, e1, e2, e3⟩, ⟨f0, f1, f2, f3⟩, el⟩ := (Kr.out.ext (ET Ew2.out (ET Ew3.out Ew4.out)))
 go_wp2_with fail
 refine bodyPost_ret (v := .agg #[.bool sv, .slice Av nv cv, .bool tv, .slice Bv mv dv]) (by simp [results, Tryz.results21, go_sem, e0, e1, e2, e3]) rfl ?_
 exact ⟨_, _, _, _, _, _, _, _, rfl, retQ_fill (Nat.le_refl _) (Nat.lt_of_lt_of_le Kr.out.2.2 (Nat.le_trans Ew2.out.size Ew3.out.size)) Qv.out (ET Ew1.out (ET Ew2.out (ET Ew3.out Ew4.out))) _ _ _ _⟩
end Go.Proofs.YtjinpfnefeiooaaGreat
