/- A part of the proof. -/
import Derived.Test.YtjinpfnefeiooaaGreatChoP
namespace Go.Proofs.YtjinpfnefeiooaaGreat
open Go.RowKit

def RetCho (w : World) (B0 N : Nat) (F : Nat → Ch) (e : Ending) (w' : World) : Prop := ∃ g, e = .returned (.slice (some ⟨g, 0, none⟩) N N) ∧ w.heap.size ≤ g ∧ ChRow w' B0 [] g N F ∧ Ext w w'
set_option maxRecDepth 100000 in
set_option maxHeartbeats 16000000 in
theorem choose_any (u : U) (hok : u.ok = true) (A : Option Addr) (n c : Nat) (s1 : Bool) (A1 : Option Addr) (n1 c1 : Nat) (t1 : Bool) (B1 : Option Addr) (m1 d1 : Nat) (g1 : Rat) (gL N B0 L : Nat) (f : Int → Ch) (w : World) (hs : StepsAt w A n u.steps) (hn : n ≤ maxLen) (h1 : QArg w s1 A1 n1 c1 t1 B1 m1 d1 g1) (hz1 : Sz 10000 g1) (hzf : ∀ s, Sz L (f s).v) (hL : L ≤ 1000000)
  (hN : (N : Int) = u.down + u.up + 1) (hr : ChRow w B0 [] gL N (fun i => f ((i : Int) - u.down))) (hB : B0 ≤ w.heap.size) :
  Calls Tryz.prog 42 #[u.val A n c, .agg #[.bool s1, .slice A1 n1 c1, .bool t1, .slice B1 m1 d1], .slice (some ⟨gL, 0, none⟩) N N] w (RetCho w B0 N (fun i => u.choice g1 f ((i : Int) - u.down))) := by
 have HS := LH hs
 have J1 := LH h1
 have HZ1 := LH hz1
 have HZF := LH hzf
 have HN := LH hN
 have HL := LH hr
 have HOK := LH hok
 have g := U.good hok
 have hup1 := g.up1
 have hup6 := g.up6
 have hdn1 := g.dn1
 have hdn6 := g.dn6
 have hst0 := g.st0
 have hst9 := g.st9
 have hN13 : N ≤ 13 := by omega
 clear hs h1 hz1 hzf hN hr hok g
 have hmk := make_chs N (by omega)
 go_enter Tryz.func42, Tryz.ntmps42
 go_wp2_with fail
 clear hmk
 have k0 := UBox.new (w) (w.heap.size) (by simp) u A n c 24
 have k1 := Cell4.new ((w).alloc (.cells #[.int .i64 u.bus, .int .i64 u.mn, .slice A n c, .int .i64 u.up, .int .i64 u.down, .int .i64 u.start, .int .i64 u.idle, .int .i64 u.spin, .int .i64 u.on] 24)) (w.heap.size + 1) (by simp) (.bool s1) (.slice A1 n1 c1) (.bool t1) (.slice B1 m1 d1) 29
 have hE : Ext w (((w).alloc (.cells #[.int .i64 u.bus, .int .i64 u.mn, .slice A n c, .int .i64 u.up, .int .i64 u.down, .int .i64 u.start, .int .i64 u.idle, .int .i64 u.spin, .int .i64 u.on] 24)).alloc (.cells #[.bool s1, .slice A1 n1 c1, .bool t1, .slice B1 m1 d1] 29)) := (Ext.al (Ext.al Ext.rfl' _) _)
 have k0 := k0.ext (show Ext ((w).alloc (.cells #[.int .i64 u.bus, .int .i64 u.mn, .slice A n c, .int .i64 u.up, .int .i64 u.down, .int .i64 u.start, .int .i64 u.idle, .int .i64 u.spin, .int .i64 u.on] 24)) (((w).alloc (.cells #[.int .i64 u.bus, .int .i64 u.mn, .slice A n c, .int .i64 u.up, .int .i64 u.down, .int .i64 u.start, .int .i64 u.idle, .int .i64 u.spin, .int .i64 u.on] 24)).alloc (.cells #[.bool s1, .slice A1 n1 c1, .bool t1, .slice B1 m1 d1] 29)) from (Ext.al Ext.rfl' _))
 have hsz : (((w).alloc (.cells #[.int .i64 u.bus, .int .i64 u.mn, .slice A n c, .int .i64 u.up, .int .i64 u.down, .int .i64 u.start, .int .i64 u.idle, .int .i64 u.spin, .int .i64 u.on] 24)).alloc (.cells #[.bool s1, .slice A1 n1 c1, .bool t1, .slice B1 m1 d1] 29)).heap.size = w.heap.size + 1 + 1 := by simp
 generalize ((w).alloc (.cells #[.int .i64 u.bus, .int .i64 u.mn, .slice A n c, .int .i64 u.up, .int .i64 u.down, .int .i64 u.start, .int .i64 u.idle, .int .i64 u.spin, .int .i64 u.on] 24)).alloc (.cells #[.bool s1, .slice A1 n1 c1, .bool t1, .slice B1 m1 d1] 29) = w1 at *
 have SZw1 := LH hsz
 clear hsz
 have Ew1 := LH hE
 clear hE
 have Ku := LH k0
 clear k0
 have K1 := LH k1
 clear k1
 have hrw := ch_made w1 N B0 [w.heap.size + 1 + 1] 76
 rw [SZw1.out] at hrw
 have hE : Ext w1 (w1.alloc (.cells (madeCells #[.bool false, .slice none 0 0, .bool false, .slice none 0 0, .bool false, .int .i64 0] (N * 6)) 76)) := Ext.al Ext.rfl' _
 generalize w1.alloc (.cells (madeCells #[.bool false, .slice none 0 0, .bool false, .slice none 0 0, .bool false, .int .i64 0] (N * 6)) 76) = w2 at *
 have Ew2 := LH hE
 clear hE
 have HRW : Hid (ChRow w2 B0 [w.heap.size + 1 + 1] (w.heap.size + 1 + 1) N (rowTo (fun i => u.choice g1 f ((i : Int) - u.down)) 0)) := hrw.congr (fun i _ => by unfold rowTo; rw [if_neg (by omega)])
 clear hrw
 go_loopw [21] (fun i wr => ∃ k : Nat, k ≤ N ∧ i = .int .i64 k ∧ Hid (Ext w1 wr ∧ ChRow wr B0 [w.heap.size + 1 + 1] (w.heap.size + 1 + 1) N (rowTo (fun i => u.choice g1 f ((i : Int) - u.down)) k))) (fun i _ => N - (intOf i).toNat)
 case atStart => exact ⟨0, by omega, rfl, Ew2.out, HRW.out⟩
 case round =>
  obtain ⟨k, hk, rfl, HI⟩ := hrel
  have HEr := LH HI.out.1
  have HRr := LH HI.out.2
  clear HI HRW
  by_cases hlt : k < N
  rotate_left
  ·have hkn : k = N := by omega
   subst hkn
   have hbv : decide ((k : Int) < (k : Int)) = false := by simp
   have hbv2 : decide (k < k) = false := by simp
   go_wp2_with fail
   go_ret
   exact ⟨_, rfl, by omega, (HRr.out.free).congr (fun i hi => by unfold rowTo; rw [if_pos hi]), (ET Ew1.out HEr.out)⟩
  have hbv : decide ((k : Int) < (N : Int)) = true := by simp; omega
  have hbv2 : decide (k < N) = true := by simp; omega
  have hz0 : (0 : Int) ≤ (k : Int) := by omega
  have hzn : (k : Int) < (N : Int) := by omega
  obtain ⟨s, hs⟩ : ∃ v, (k : Int) - u.down = v := ⟨_, rfl⟩
  have hs0 : -6 ≤ s := by omega
  have hs1 : s ≤ 13 := by omega
  have HSK := LH hs
  have zu := World.block_lt_of_cell? _ _ (Ku.out.ext HEr.out).1
  have xu0 := (Ku.out.ext HEr.out).1
  have xu1 := (Ku.out.ext HEr.out).2.1
  have xu2 := (Ku.out.ext HEr.out).2.2.1
  have xu3 := (Ku.out.ext HEr.out).2.2.2.1
  have xu4 := (Ku.out.ext HEr.out).2.2.2.2.1
  have xu5 := (Ku.out.ext HEr.out).2.2.2.2.2.1
  have xu6 := (Ku.out.ext HEr.out).2.2.2.2.2.2.1
  have xu7 := (Ku.out.ext HEr.out).2.2.2.2.2.2.2.1
  have xu8 := (Ku.out.ext HEr.out).2.2.2.2.2.2.2.2
  go_wp2_with fail
  clear zu xu0 xu1 xu2 xu3 xu4 xu5 xu6 xu7 xu8
  clear hs
  refine (nextG_any u s false A n c wr (HS.out.below (ET Ew1.out HEr.out)) hn).mono ?_
  rintro e w3 ⟨rfl, hE⟩
  have Ew3 := LH hE
  clear hE
  obtain ⟨a0, ha0⟩ : ∃ v, u.nextG s false = v := ⟨_, rfl⟩
  obtain ⟨b0, hb0⟩ : ∃ v, u.nextGB s false = v := ⟨_, rfl⟩
  rw [ha0, hb0]
  have Ha0 := LH ha0
  have Hb0 := LH hb0
  clear ha0 hb0
  cases b0
  ·skip
   have zu := World.block_lt_of_cell? _ _ (Ku.out.ext (ET HEr.out Ew3.out)).1
   have xu0 := (Ku.out.ext (ET HEr.out Ew3.out)).1
   have xu1 := (Ku.out.ext (ET HEr.out Ew3.out)).2.1
   have xu2 := (Ku.out.ext (ET HEr.out Ew3.out)).2.2.1
   have xu3 := (Ku.out.ext (ET HEr.out Ew3.out)).2.2.2.1
   have xu4 := (Ku.out.ext (ET HEr.out Ew3.out)).2.2.2.2.1
   have xu5 := (Ku.out.ext (ET HEr.out Ew3.out)).2.2.2.2.2.1
   have xu6 := (Ku.out.ext (ET HEr.out Ew3.out)).2.2.2.2.2.2.1
   have xu7 := (Ku.out.ext (ET HEr.out Ew3.out)).2.2.2.2.2.2.2.1
   have xu8 := (Ku.out.ext (ET HEr.out Ew3.out)).2.2.2.2.2.2.2.2
   go_wp2_with fail
   clear zu xu0 xu1 xu2 xu3 xu4 xu5 xu6 xu7 xu8
   refine (nextG_any u s true A n c w3 (HS.out.below (ET Ew1.out (ET HEr.out Ew3.out))) hn).mono ?_
   rintro e w4 ⟨rfl, hE⟩
   have Ew4 := LH hE
   clear hE
   obtain ⟨a1, ha1⟩ : ∃ v, u.nextG s true = v := ⟨_, rfl⟩
   obtain ⟨b1, hb1⟩ : ∃ v, u.nextGB s true = v := ⟨_, rfl⟩
   rw [ha1, hb1]
   have Ha1 := LH ha1
   have Hb1 := LH hb1
   clear ha1 hb1
   cases b1
   ·skip
    go_wp2_with fail
    go_roundw
    case rel => exact ⟨k + 1, by omega, by go_num, (ET HEr.out (ET Ew3.out Ew4.out)), ((HRr.out.ext (ET Ew3.out Ew4.out))).congr (fun i _ => by
     by_cases he : i = k
     ·subst he
      unfold rowTo
      rw [if_neg (by omega), if_pos (by omega)]
      simp only [HSK.out]
      rw [choice_FF Hb0.out Hb1.out]
     ·unfold rowTo
      by_cases hl : i < k
      ·rw [if_pos hl, if_pos (by omega)]
      ·rw [if_neg hl, if_neg (by omega)])⟩
    case measure => simp [intOf]; omega
   obtain ⟨-, ha10, ha11⟩ := nextG_range Hb1.out
   rw [Ha1.out] at ha10 ha11
   obtain ⟨j1, hj1⟩ : ∃ j : Nat, a1 + u.down = (j : Int) := ⟨(a1 + u.down).toNat, by omega⟩
   have hj1N : j1 < N := by have := HN.out; omega
   have hj1a : (0 : Int) ≤ (j1 : Int) := by omega
   have hj1b : (j1 : Int) < (N : Int) := by omega
   have hcl := HL.out.2 j1 hj1N
   simp only at hcl
   rw [show ((j1 : Nat) : Int) - u.down = a1 by omega] at hcl
   obtain ⟨sy, Ay, ny, cy, ty, By, my, dy, ⟨o0, o1, o2, o3, o4, o5⟩, hQ, -⟩ := hcl
   have Oy := LH (And.intro o0 (And.intro o1 (And.intro o2 o3)))
   have Qy := LH hQ
   clear hQ o4 o5 o0 o1 o2 o3
   have hw1 : IntKind.i64.wrap (a1 + u.down) = (j1 : Int) := by rw [hj1]; exact IntWalk.i64_in _ (by omega)
   go_wp2_with fail
   refine wp_region_havS [10] [0, 1, 2, 3, 4, 5, 6, 7, 8, 9] [11] (fun _ => .cells #[.bool false, .slice none 0 0, .bool false, .slice none 0 0] 29) (by kernel_rfl) (by kernel_rfl) ?_ ?_
   ·intro f hf
    simp only [List.mem_cons, List.not_mem_nil, or_false] at hf
    rcases hf with rfl
    all_goals exact makes_q (by rfl) rfl
   have hE : Ext w4 w4.drew := Ext.rfl'.drew
   generalize w4.drew = w5 at *
   have Ew5 := LH hE
   clear hE
   have f10 := fun z : ExtX w5 [] => z.cell (p := ⟨w.heap.size + 1, 0, none⟩) (K1.out.ext (ET HEr.out (ET Ew3.out (ET Ew4.out Ew5.out)))).1.1 (by simp)
   have f11 := fun z : ExtX w5 [] => z.cell (p := ⟨w.heap.size + 1, 1, none⟩) (K1.out.ext (ET HEr.out (ET Ew3.out (ET Ew4.out Ew5.out)))).1.2.1 (by simp)
   have f12 := fun z : ExtX w5 [] => z.cell (p := ⟨w.heap.size + 1, 2, none⟩) (K1.out.ext (ET HEr.out (ET Ew3.out (ET Ew4.out Ew5.out)))).1.2.2.1 (by simp)
   have f13 := fun z : ExtX w5 [] => z.cell (p := ⟨w.heap.size + 1, 3, none⟩) (K1.out.ext (ET HEr.out (ET Ew3.out (ET Ew4.out Ew5.out)))).1.2.2.2 (by simp)
   have fu4 := fun z : ExtX w5 [] => z.cell (p := ⟨w.heap.size, 4, none⟩) (Ku.out.ext (ET HEr.out (ET Ew3.out (ET Ew4.out Ew5.out)))).2.2.2.2.1 (by simp)
   have fl0 := fun z : ExtX w5 [] => z.cell (p := ⟨gL, j1 * 6, none⟩) (Ext.cellOf (ET Ew1.out (ET HEr.out (ET Ew3.out (ET Ew4.out Ew5.out)))) Oy.out.1) (by simp)
   have fl1 := fun z : ExtX w5 [] => z.cell (p := ⟨gL, j1 * 6 + 1, none⟩) (Ext.cellOf (ET Ew1.out (ET HEr.out (ET Ew3.out (ET Ew4.out Ew5.out)))) Oy.out.2.1) (by simp)
   have fl2 := fun z : ExtX w5 [] => z.cell (p := ⟨gL, j1 * 6 + 2, none⟩) (Ext.cellOf (ET Ew1.out (ET HEr.out (ET Ew3.out (ET Ew4.out Ew5.out)))) Oy.out.2.2.1) (by simp)
   have fl3 := fun z : ExtX w5 [] => z.cell (p := ⟨gL, j1 * 6 + 3, none⟩) (Ext.cellOf (ET Ew1.out (ET HEr.out (ET Ew3.out (ET Ew4.out Ew5.out)))) Oy.out.2.2.2) (by simp)
   intro w6 hE
   have Ew6 := LH hE
   clear hE
   repeat (refine havAt_still (by rfl) (by rfl) ?_; go_big_quiet_step (fail); refine wpQuiet_nil ?_)
   refine havAt_move (by rfl) (by rfl) (by kernel_rfl) ?_
   go_wp2_with fail
   refine (qadd_any s1 A1 n1 c1 t1 B1 m1 d1 _ sy Ay ny cy ty By my dy _ w6 (J1.out.ext (ET Ew1.out (ET HEr.out (ET Ew3.out (ET Ew4.out (ET Ew5.out Ew6.out)))))) ((Qy.out.ext (ET Ew1.out (ET HEr.out (ET Ew3.out (ET Ew4.out (ET Ew5.out Ew6.out)))))).arg (HZF.out a1) (by omega))).mono ?_
   rintro e w7 ⟨sx, Ax, nx, cx, tx, Bx, mx, dx, rfl, hQ, hE⟩
   have Ew7 := LH hE
   clear hE
   have Qx := LH hQ
   clear hQ
   go_wp2_with fail
   refine And.intro Ew7.out (fun w8 hE => ?_)
   have Ew8 := LH hE
   clear hE
   repeat (refine havAt_still (by rfl) (by rfl) ?_; go_big_quiet_step (fail); refine wpQuiet_nil ?_)
   refine havAt_end ?_
   intro gs hgs hne
   have hpv := hgs 10 (by simp)
   change IdxAt _ _ _ _ _ _ (Act.put _ (some 15) (.pointer (some ⟨gs 10, 0, none⟩))) _
   generalize gs 10 = gv at *
   clear hgs hne
   simp only [Act.put, List.setIfInBounds_toArray, List.set_cons_succ, List.set_cons_zero]
   have Pv := LH hpv
   have Kv := LH (Cell4.of_blk hpv.2.1)
   clear hpv
   repeat (refine idxAt_still (by rfl) (by rfl) ?_; go_big_quiet_step (fail); refine wpQuiet_nil ?_)
   obtain ⟨⟨o0, o1, o2, o3⟩, ⟨q0, q1, q2, q3⟩, ol⟩ := Kv.out
   refine idxAt_move (by rfl) (by rfl) (by kernel_rfl) ?_
   go_wp2_with fail
   refine And.intro (inX_put (p := ⟨gv, 3, none⟩) (inX_put (p := ⟨gv, 2, none⟩) (inX_put (p := ⟨gv, 1, none⟩) (inX_put (p := ⟨gv, 0, none⟩) (inX_of_ext _ (ET Ew6.out (ET Ew7.out Ew8.out))) (.inr Pv.out.1) _) (.inr Pv.out.1) _) (.inr Pv.out.1) _) (.inr Pv.out.1) _) ?_
   clear o0 o1 o2 o3 q0 q1 q2 q3 ol
   have Kv_1 := LH (Kv.out.put4 (.bool sx) (.slice Ax nx cx) (.bool tx) (.slice Bx mx dx))
   have NJ1 := LH (ext_put4 (ET Ew6.out (ET Ew7.out Ew8.out)) (g := gv) Pv.out.1 0 (.bool sx) (.slice Ax nx cx) (.bool tx) (.slice Bx mx dx))
   have NZ1 : Hid (w8.heap.size ≤ (put4 w8 (gv) 0 (.bool sx) (.slice Ax nx cx) (.bool tx) (.slice Bx mx dx)).heap.size) := by unfold Hid; rw [put4_size]; exact Nat.le_refl _
   have Qx_1 := LH ((Qx.out.ext Ew8.out).put4A (g := gv) (Qx.out.span (Pv.out.2.2 (w6.heap.size, w7.heap.size) (by simp))) 0 (.bool sx) (.slice Ax nx cx) (.bool tx) (.slice Bx mx dx))
   unfold put4 at Kv_1 NJ1 NZ1 Qx_1
   simp only [Nat.zero_add] at Kv_1 NJ1 NZ1 Qx_1
   generalize ((((w8.setCell ⟨gv, 0, none⟩ (.bool sx)).setCell ⟨gv, 1, none⟩ (.slice Ax nx cx)).setCell ⟨gv, 2, none⟩ (.bool tx)).setCell ⟨gv, 3, none⟩ (.slice Bx mx dx)) = w9 at *
   repeat (refine idxAt_still (by rfl) (by rfl) ?_; go_big_quiet_step (fail); refine wpQuiet_nil ?_)
   refine idxAt_nil ?_
   clear f10 f11 f12 f13 fu4 fl0 fl1 fl2 fl3
   clear hw1 hj1
   by_cases hneg : s < 0
   ·have hbn : decide (s < 0) = true := by simp; omega
    go_wp2_with fail
    refine wp_region_lexS (C := InX w9.drew []) (by kernel_rfl) (by kernel_rfl) (inX_self _ _) ?_
    have hE : Ext w9 w9.drew := Ext.rfl'.drew
    generalize w9.drew = w10 at *
    have Ew10 := LH hE
    clear hE
    have fv0 := fun z : ExtX w10 [] => z.cell (p := ⟨gv, 0, none⟩) (Kv_1.out.ext Ew10.out).1.1 (by simp)
    have fv1 := fun z : ExtX w10 [] => z.cell (p := ⟨gv, 1, none⟩) (Kv_1.out.ext Ew10.out).1.2.1 (by simp)
    have fv2 := fun z : ExtX w10 [] => z.cell (p := ⟨gv, 2, none⟩) (Kv_1.out.ext Ew10.out).1.2.2.1 (by simp)
    have fv3 := fun z : ExtX w10 [] => z.cell (p := ⟨gv, 3, none⟩) (Kv_1.out.ext Ew10.out).1.2.2.2 (by simp)
    have fu5 := fun z : ExtX w10 [] => z.cell (p := ⟨w.heap.size, 5, none⟩) (Ku.out.ext (ET HEr.out (ET Ew3.out (ET Ew4.out (ET Ew5.out (ET NJ1.out Ew10.out)))))).2.2.2.2.2.1 (by simp)
    repeat (refine lexAt_still (by rfl) ?_; go_big_quiet_step (fail); refine wpQuiet_nil ?_)
    refine lexAt_move (by rfl) (by kernel_rfl) ?_
    go_wp2_with fail
    refine (qfrom_any u.start w10 ⟨by omega, by omega⟩).mono ?_
    rintro e w11 ⟨se, Ae, ne, ce, te, Be, me, de, rfl, hQ, hE⟩
    have Ew11 := LH hE
    clear hE
    have Qe := LH hQ
    clear hQ
    go_wp2_with fail
    refine And.intro (inX_of_ext _ Ew11.out) ?_
    repeat (refine lexAt_still (by rfl) ?_; go_big_quiet_step (fail); refine wpQuiet_nil ?_)
    refine lexAt_move (by rfl) (by kernel_rfl) ?_
    go_wp2_with fail
    refine (qsub_any sx Ax nx cx tx Bx mx dx _ se Ae ne ce te Be me de _ w11 ((Qx_1.out.ext (ET Ew10.out Ew11.out)).arg (HZ1.out.add (HZF.out a1)) (by omega)) (Qe.out.arg (sz_small (z := u.start) (by omega) (by omega)) (by omega))).mono ?_
    rintro e w12 ⟨sz, Az, nz, cz, tz, Bz, mz, dz, rfl, hQ, hE⟩
    have Ew12 := LH hE
    clear hE
    have Qz := LH hQ
    clear hQ
    have HXe := LH (inX_of_ext [] (ET Ew11.out Ew12.out))
    clear fv0 fv1 fv2 fv3 fu5
    obtain ⟨⟨o0, o1, o2, o3⟩, ⟨q0, q1, q2, q3⟩, ol⟩ := (Kv_1.out.ext (ET Ew10.out (ET Ew11.out Ew12.out)))
    go_wp2_with fail
    refine And.intro HXe.out ?_
    refine lexAt_last (by rfl) (by kernel_rfl) (by kernel_rfl) ?_
    go_wp2_with fail
    refine And.intro trivial (lexAt_nil ?_)
    clear o0 o1 o2 o3 q0 q1 q2 q3 ol HXe
    have Kv_2 := LH ((Kv_1.out.ext (ET Ew10.out (ET Ew11.out Ew12.out))).put4 (.bool sz) (.slice Az nz cz) (.bool tz) (.slice Bz mz dz))
    have NJ2 := LH (ext_put4 (ET NJ1.out (ET Ew10.out (ET Ew11.out Ew12.out))) (g := gv) Pv.out.1 0 (.bool sz) (.slice Az nz cz) (.bool tz) (.slice Bz mz dz))
    have NZ2 : Hid (w12.heap.size ≤ (put4 w12 (gv) 0 (.bool sz) (.slice Az nz cz) (.bool tz) (.slice Bz mz dz)).heap.size) := by unfold Hid; rw [put4_size]; exact Nat.le_refl _
    have Qz_2 := LH (Qz.out.put4A (g := gv) (Qz.out.span (.inl (Nat.lt_of_lt_of_le Kv.out.2.2 (Nat.le_trans NZ1.out (Nat.le_trans Ew10.out.size Ew11.out.size))))) 0 (.bool sz) (.slice Az nz cz) (.bool tz) (.slice Bz mz dz))
    unfold put4 at Kv_2 NJ2 NZ2 Qz_2
    simp only [Nat.zero_add] at Kv_2 NJ2 NZ2 Qz_2
    generalize ((((w12.setCell ⟨gv, 0, none⟩ (.bool sz)).setCell ⟨gv, 1, none⟩ (.slice Az nz cz)).setCell ⟨gv, 2, none⟩ (.bool tz)).setCell ⟨gv, 3, none⟩ (.slice Bz mz dz)) = w13 at *
    have HON : Hid (u.onV g1 f s = g1 + (f a1).v - ((u.start : Int) : Rat)) := by unfold Hid; rw [onV_neg hneg, Ha1.out]
    go_wp2_with fail
    refine wp_region_lexS (C := InX w13.drew []) (by kernel_rfl) (by kernel_rfl) (inX_self _ _) ?_
    have hE : Ext w13 w13.drew := Ext.rfl'.drew
    generalize w13.drew = w14 at *
    have Ew14 := LH hE
    clear hE
    have fv0 := fun z : ExtX w14 [] => z.cell (p := ⟨gv, 0, none⟩) (Kv_2.out.ext Ew14.out).1.1 (by simp)
    have fv1 := fun z : ExtX w14 [] => z.cell (p := ⟨gv, 1, none⟩) (Kv_2.out.ext Ew14.out).1.2.1 (by simp)
    have fv2 := fun z : ExtX w14 [] => z.cell (p := ⟨gv, 2, none⟩) (Kv_2.out.ext Ew14.out).1.2.2.1 (by simp)
    have fv3 := fun z : ExtX w14 [] => z.cell (p := ⟨gv, 3, none⟩) (Kv_2.out.ext Ew14.out).1.2.2.2 (by simp)
    repeat (refine lexAt_still (by rfl) ?_; go_big_quiet_step (fail); refine wpQuiet_nil ?_)
    refine lexAt_skip (by kernel_rfl) ?_
    simp only [Act.put, List.setIfInBounds_toArray, List.set_cons_succ, List.set_cons_zero]
    repeat (refine lexAt_still (by rfl) ?_; go_big_quiet_step (fail); refine wpQuiet_nil ?_)
    refine lexAt_nil ?_
    clear fv0 fv1 fv2 fv3
    obtain ⟨⟨xv0, xv1, xv2, xv3⟩, -, zv⟩ := (Kv_2.out.ext Ew14.out)
    have HTH := LH ((HRr.out.ext (ET Ew3.out (ET Ew4.out (ET Ew5.out (ET NJ2.out Ew14.out))))).1.there (o := k * 6) (k := 6) (by omega))
    have HRWP := LH ((HRr.out.ext (ET Ew3.out (ET Ew4.out (ET Ew5.out (ET NJ2.out Ew14.out))))))
    have HQP := LH ((Qz_2.out.ext Ew14.out).base (Nat.le_trans hB (Nat.le_trans Ew1.out.size (Nat.le_trans HEr.out.size (Nat.le_trans Ew3.out.size (Nat.le_trans Ew4.out.size (Nat.le_trans Ew5.out.size (Nat.le_trans Ew6.out.size (Nat.le_trans Ew7.out.size (Nat.le_trans Ew8.out.size (Nat.le_trans NZ1.out (Nat.le_trans Ew10.out.size Ew11.out.size))))))))))))
    have HEP := LH ((ET HEr.out (ET Ew3.out (ET Ew4.out (ET Ew5.out (ET NJ2.out Ew14.out))))))
    go_wp2_with (
     refine wpList_storeV rfl 76 _ _ rfl (w.heap.size + 1 + 1) (k * 6) [.bool sz, .slice Az nz cz, .bool tz, .slice Bz mz dz, .bool true, .int .i64 a1] rfl rfl HTH.out (by kernel_rfl) rfl ?_
     intro w15 hpv
     have hrp := HRWP.out.put (k := k) (x := ⟨((g1 + (f a1).v) - ((u.start : Int) : Rat)), true, a1⟩) hlt (by simp) hpv HQP.out (fun y hy => by
       simp only [List.mem_cons, List.not_mem_nil, or_false] at hy
       subst hy
       exact Qz.out.span (.inl (Nat.lt_of_lt_of_le HRr.out.1.1 (Nat.le_trans Ew3.out.size (Nat.le_trans Ew4.out.size (Nat.le_trans Ew5.out.size (Nat.le_trans Ew6.out.size (Nat.le_trans Ew7.out.size (Nat.le_trans Ew8.out.size (Nat.le_trans NZ1.out (Nat.le_trans Ew10.out.size Ew11.out.size)))))))))))
     have NJ3 := LH (hpv.touch.ext w1 HEP.out (Nat.le_of_eq SZw1.out))
     have NZ3 := LH (Nat.le_of_eq hpv.touch.size.symm)
     have RWn : Hid (ChRow w15 B0 [w.heap.size + 1 + 1] (w.heap.size + 1 + 1) N (rowTo (fun i => u.choice g1 f ((i : Int) - u.down)) (k + 1))) := hrp.congr (fun i _ => rowTo_succ (show (fun i => u.choice g1 f ((i : Int) - u.down)) k = _ by simp only [HSK.out]; exact (by rw [choice_FT Hb0.out Hb1.out, HON.out, Ha1.out])) (G := (rowTo (fun i => u.choice g1 f ((i : Int) - u.down)) k)) (fun i hi => rfl) i)
     clear hrp hpv)
    clear HTH HRWP HQP HEP
    clear xv0 xv1 xv2 xv3 zv
    go_roundw
    case rel => exact ⟨k + 1, by omega, by go_num, NJ3.out, RWn.out⟩
    case measure => simp [intOf]; omega
   have hbn : decide (s < 0) = false := by simp; omega
   have HON : Hid (u.onV g1 f s = g1 + (f a1).v) := by unfold Hid; rw [onV_pos hneg, Ha1.out]
   go_wp2_with fail
   refine wp_region_lexS (C := InX w9.drew []) (by kernel_rfl) (by kernel_rfl) (inX_self _ _) ?_
   have hE : Ext w9 w9.drew := Ext.rfl'.drew
   generalize w9.drew = w16 at *
   have Ew16 := LH hE
   clear hE
   have fv0 := fun z : ExtX w16 [] => z.cell (p := ⟨gv, 0, none⟩) (Kv_1.out.ext Ew16.out).1.1 (by simp)
   have fv1 := fun z : ExtX w16 [] => z.cell (p := ⟨gv, 1, none⟩) (Kv_1.out.ext Ew16.out).1.2.1 (by simp)
   have fv2 := fun z : ExtX w16 [] => z.cell (p := ⟨gv, 2, none⟩) (Kv_1.out.ext Ew16.out).1.2.2.1 (by simp)
   have fv3 := fun z : ExtX w16 [] => z.cell (p := ⟨gv, 3, none⟩) (Kv_1.out.ext Ew16.out).1.2.2.2 (by simp)
   repeat (refine lexAt_still (by rfl) ?_; go_big_quiet_step (fail); refine wpQuiet_nil ?_)
   refine lexAt_skip (by kernel_rfl) ?_
   simp only [Act.put, List.setIfInBounds_toArray, List.set_cons_succ, List.set_cons_zero]
   repeat (refine lexAt_still (by rfl) ?_; go_big_quiet_step (fail); refine wpQuiet_nil ?_)
   refine lexAt_nil ?_
   clear fv0 fv1 fv2 fv3
   obtain ⟨⟨xv0, xv1, xv2, xv3⟩, -, zv⟩ := (Kv_1.out.ext Ew16.out)
   have HTH := LH ((HRr.out.ext (ET Ew3.out (ET Ew4.out (ET Ew5.out (ET NJ1.out Ew16.out))))).1.there (o := k * 6) (k := 6) (by omega))
   have HRWP := LH ((HRr.out.ext (ET Ew3.out (ET Ew4.out (ET Ew5.out (ET NJ1.out Ew16.out))))))
   have HQP := LH ((Qx_1.out.ext Ew16.out).base (Nat.le_trans hB (Nat.le_trans Ew1.out.size (Nat.le_trans HEr.out.size (Nat.le_trans Ew3.out.size (Nat.le_trans Ew4.out.size (Nat.le_trans Ew5.out.size Ew6.out.size)))))))
   have HEP := LH ((ET HEr.out (ET Ew3.out (ET Ew4.out (ET Ew5.out (ET NJ1.out Ew16.out))))))
   go_wp2_with (
    refine wpList_storeV rfl 76 _ _ rfl (w.heap.size + 1 + 1) (k * 6) [.bool sx, .slice Ax nx cx, .bool tx, .slice Bx mx dx, .bool true, .int .i64 a1] rfl rfl HTH.out (by kernel_rfl) rfl ?_
    intro w17 hpv
    have hrp := HRWP.out.put (k := k) (x := ⟨(g1 + (f a1).v), true, a1⟩) hlt (by simp) hpv HQP.out (fun y hy => by
      simp only [List.mem_cons, List.not_mem_nil, or_false] at hy
      subst hy
      exact Qx.out.span (.inl (Nat.lt_of_lt_of_le HRr.out.1.1 (Nat.le_trans Ew3.out.size (Nat.le_trans Ew4.out.size (Nat.le_trans Ew5.out.size Ew6.out.size))))))
    have NJ4 := LH (hpv.touch.ext w1 HEP.out (Nat.le_of_eq SZw1.out))
    have NZ4 := LH (Nat.le_of_eq hpv.touch.size.symm)
    have RWn : Hid (ChRow w17 B0 [w.heap.size + 1 + 1] (w.heap.size + 1 + 1) N (rowTo (fun i => u.choice g1 f ((i : Int) - u.down)) (k + 1))) := hrp.congr (fun i _ => rowTo_succ (show (fun i => u.choice g1 f ((i : Int) - u.down)) k = _ by simp only [HSK.out]; exact (by rw [choice_FT Hb0.out Hb1.out, HON.out, Ha1.out])) (G := (rowTo (fun i => u.choice g1 f ((i : Int) - u.down)) k)) (fun i hi => rfl) i)
    clear hrp hpv)
   clear HTH HRWP HQP HEP
   clear xv0 xv1 xv2 xv3 zv
   go_roundw
   case rel => exact ⟨k + 1, by omega, by go_num, NJ4.out, RWn.out⟩
   case measure => simp [intOf]; omega
  obtain ⟨-, ha00, ha01⟩ := nextG_range Hb0.out
  rw [Ha0.out] at ha00 ha01
  obtain ⟨j0, hj0⟩ : ∃ j : Nat, a0 + u.down = (j : Int) := ⟨(a0 + u.down).toNat, by omega⟩
  have hj0N : j0 < N := by have := HN.out; omega
  have hj0a : (0 : Int) ≤ (j0 : Int) := by omega
  have hj0b : (j0 : Int) < (N : Int) := by omega
  have hcl := HL.out.2 j0 hj0N
  simp only at hcl
  rw [show ((j0 : Nat) : Int) - u.down = a0 by omega] at hcl
  obtain ⟨sx, Ax, nx, cx, tx, Bx, mx, dx, ⟨o0, o1, o2, o3, o4, o5⟩, hQ, -⟩ := hcl
  have Ox := LH (And.intro o0 (And.intro o1 (And.intro o2 o3)))
  have Qx := LH hQ
  clear hQ o4 o5 o0 o1 o2 o3
  have hw0 : IntKind.i64.wrap (a0 + u.down) = (j0 : Int) := by rw [hj0]; exact IntWalk.i64_in _ (by omega)
  have zu := World.block_lt_of_cell? _ _ (Ku.out.ext (ET HEr.out Ew3.out)).1
  have xu4 := (Ku.out.ext (ET HEr.out Ew3.out)).2.2.2.2.1
  have xl0 := Ext.cellOf (ET Ew1.out (ET HEr.out Ew3.out)) Ox.out.1
  have xl1 := Ext.cellOf (ET Ew1.out (ET HEr.out Ew3.out)) Ox.out.2.1
  have xl2 := Ext.cellOf (ET Ew1.out (ET HEr.out Ew3.out)) Ox.out.2.2.1
  have xl3 := Ext.cellOf (ET Ew1.out (ET HEr.out Ew3.out)) Ox.out.2.2.2
  have HTH := LH ((HRr.out.ext Ew3.out).1.there (o := k * 6) (k := 6) (by omega))
  have HRWP := LH ((HRr.out.ext Ew3.out))
  have HQP := LH ((Qx.out.ext (ET Ew1.out (ET HEr.out Ew3.out))))
  have HEP := LH ((ET HEr.out Ew3.out))
  go_wp2_with (
   refine wpList_storeV rfl 76 _ _ rfl (w.heap.size + 1 + 1) (k * 6) [.bool sx, .slice Ax nx cx, .bool tx, .slice Bx mx dx, .bool false, .int .i64 a0] rfl rfl HTH.out (by kernel_rfl) rfl ?_
   intro w18 hpv
   have hrp := HRWP.out.put (k := k) (x := ⟨(f a0).v, false, a0⟩) hlt (by simp) hpv HQP.out (fun y hy => by
     simp only [List.mem_cons, List.not_mem_nil, or_false] at hy
     subst hy
     have ha := Qx.out.is.away (w.heap.size + 1 + 1 + 1)
     exact ⟨fun hn ad had => by have := ha.1 hn ad had; omega, fun hn ad had => by have := ha.2 hn ad had; omega⟩)
   have NJ5 := LH (hpv.touch.ext w1 HEP.out (Nat.le_of_eq SZw1.out))
   have NZ5 := LH (Nat.le_of_eq hpv.touch.size.symm)
   have RW1 : Hid (ChRow w18 B0 [w.heap.size + 1 + 1] (w.heap.size + 1 + 1) N (fun i => if i = k then (⟨(f a0).v, false, a0⟩ : Ch) else rowTo (fun i => u.choice g1 f ((i : Int) - u.down)) k i)) := hrp
   clear hrp hpv
   clear zu xu4 xl0 xl1 xl2 xl3 hw0 hj0
   have zu := World.block_lt_of_cell? _ _ (Ku.out.ext NJ5.out).1
   have xu0 := (Ku.out.ext NJ5.out).1
   have xu1 := (Ku.out.ext NJ5.out).2.1
   have xu2 := (Ku.out.ext NJ5.out).2.2.1
   have xu3 := (Ku.out.ext NJ5.out).2.2.2.1
   have xu4 := (Ku.out.ext NJ5.out).2.2.2.2.1
   have xu5 := (Ku.out.ext NJ5.out).2.2.2.2.2.1
   have xu6 := (Ku.out.ext NJ5.out).2.2.2.2.2.2.1
   have xu7 := (Ku.out.ext NJ5.out).2.2.2.2.2.2.2.1
   have xu8 := (Ku.out.ext NJ5.out).2.2.2.2.2.2.2.2)
  clear HTH HRWP HQP HEP
  try clear zu xu0 xu1 xu2 xu3 xu4 xu5 xu6 xu7 xu8
  skip
  refine (nextG_any u s true A n c w18 (HS.out.below (ET Ew1.out NJ5.out)) hn).mono ?_
  rintro e w19 ⟨rfl, hE⟩
  have Ew19 := LH hE
  clear hE
  obtain ⟨a1, ha1⟩ : ∃ v, u.nextG s true = v := ⟨_, rfl⟩
  obtain ⟨b1, hb1⟩ : ∃ v, u.nextGB s true = v := ⟨_, rfl⟩
  rw [ha1, hb1]
  have Ha1 := LH ha1
  have Hb1 := LH hb1
  clear ha1 hb1
  cases b1
  ·skip
   go_wp2_with fail
   go_roundw
   case rel => exact ⟨k + 1, by omega, by go_num, (ET NJ5.out Ew19.out), (RW1.out.ext Ew19.out).congr (fun i _ => rowTo_succ (show (fun i => u.choice g1 f ((i : Int) - u.down)) k = _ by simp only [HSK.out]; rw [choice_TF Hb0.out Hb1.out, Ha0.out]) (fun i _ => rfl) i)⟩
   case measure => simp [intOf]; omega
  obtain ⟨-, ha10, ha11⟩ := nextG_range Hb1.out
  rw [Ha1.out] at ha10 ha11
  obtain ⟨j1, hj1⟩ : ∃ j : Nat, a1 + u.down = (j : Int) := ⟨(a1 + u.down).toNat, by omega⟩
  have hj1N : j1 < N := by have := HN.out; omega
  have hj1a : (0 : Int) ≤ (j1 : Int) := by omega
  have hj1b : (j1 : Int) < (N : Int) := by omega
  have hcl := HL.out.2 j1 hj1N
  simp only at hcl
  rw [show ((j1 : Nat) : Int) - u.down = a1 by omega] at hcl
  obtain ⟨sy, Ay, ny, cy, ty, By, my, dy, ⟨o0, o1, o2, o3, o4, o5⟩, hQ, -⟩ := hcl
  have Oy := LH (And.intro o0 (And.intro o1 (And.intro o2 o3)))
  have Qy := LH hQ
  clear hQ o4 o5 o0 o1 o2 o3
  have hw1 : IntKind.i64.wrap (a1 + u.down) = (j1 : Int) := by rw [hj1]; exact IntWalk.i64_in _ (by omega)
  go_wp2_with fail
  refine wp_region_havS [10] [0, 1, 2, 3, 4, 5, 6, 7, 8, 9] [11] (fun _ => .cells #[.bool false, .slice none 0 0, .bool false, .slice none 0 0] 29) (by kernel_rfl) (by kernel_rfl) ?_ ?_
  ·intro f hf
   simp only [List.mem_cons, List.not_mem_nil, or_false] at hf
   rcases hf with rfl
   all_goals exact makes_q (by rfl) rfl
  have hE : Ext w19 w19.drew := Ext.rfl'.drew
  generalize w19.drew = w20 at *
  have Ew20 := LH hE
  clear hE
  have f10 := fun z : ExtX w20 [] => z.cell (p := ⟨w.heap.size + 1, 0, none⟩) (K1.out.ext (ET NJ5.out (ET Ew19.out Ew20.out))).1.1 (by simp)
  have f11 := fun z : ExtX w20 [] => z.cell (p := ⟨w.heap.size + 1, 1, none⟩) (K1.out.ext (ET NJ5.out (ET Ew19.out Ew20.out))).1.2.1 (by simp)
  have f12 := fun z : ExtX w20 [] => z.cell (p := ⟨w.heap.size + 1, 2, none⟩) (K1.out.ext (ET NJ5.out (ET Ew19.out Ew20.out))).1.2.2.1 (by simp)
  have f13 := fun z : ExtX w20 [] => z.cell (p := ⟨w.heap.size + 1, 3, none⟩) (K1.out.ext (ET NJ5.out (ET Ew19.out Ew20.out))).1.2.2.2 (by simp)
  have fu4 := fun z : ExtX w20 [] => z.cell (p := ⟨w.heap.size, 4, none⟩) (Ku.out.ext (ET NJ5.out (ET Ew19.out Ew20.out))).2.2.2.2.1 (by simp)
  have fl0 := fun z : ExtX w20 [] => z.cell (p := ⟨gL, j1 * 6, none⟩) (Ext.cellOf (ET Ew1.out (ET NJ5.out (ET Ew19.out Ew20.out))) Oy.out.1) (by simp)
  have fl1 := fun z : ExtX w20 [] => z.cell (p := ⟨gL, j1 * 6 + 1, none⟩) (Ext.cellOf (ET Ew1.out (ET NJ5.out (ET Ew19.out Ew20.out))) Oy.out.2.1) (by simp)
  have fl2 := fun z : ExtX w20 [] => z.cell (p := ⟨gL, j1 * 6 + 2, none⟩) (Ext.cellOf (ET Ew1.out (ET NJ5.out (ET Ew19.out Ew20.out))) Oy.out.2.2.1) (by simp)
  have fl3 := fun z : ExtX w20 [] => z.cell (p := ⟨gL, j1 * 6 + 3, none⟩) (Ext.cellOf (ET Ew1.out (ET NJ5.out (ET Ew19.out Ew20.out))) Oy.out.2.2.2) (by simp)
  intro w21 hE
  have Ew21 := LH hE
  clear hE
  repeat (refine havAt_still (by rfl) (by rfl) ?_; go_big_quiet_step (fail); refine wpQuiet_nil ?_)
  refine havAt_move (by rfl) (by rfl) (by kernel_rfl) ?_
  go_wp2_with fail
  refine (qadd_any s1 A1 n1 c1 t1 B1 m1 d1 _ sy Ay ny cy ty By my dy _ w21 (J1.out.ext (ET Ew1.out (ET NJ5.out (ET Ew19.out (ET Ew20.out Ew21.out))))) ((Qy.out.ext (ET Ew1.out (ET NJ5.out (ET Ew19.out (ET Ew20.out Ew21.out))))).arg (HZF.out a1) (by omega))).mono ?_
  rintro e w22 ⟨sx, Ax, nx, cx, tx, Bx, mx, dx, rfl, hQ, hE⟩
  have Ew22 := LH hE
  clear hE
  have Qx := LH hQ
  clear hQ
  go_wp2_with fail
  refine And.intro Ew22.out (fun w23 hE => ?_)
  have Ew23 := LH hE
  clear hE
  repeat (refine havAt_still (by rfl) (by rfl) ?_; go_big_quiet_step (fail); refine wpQuiet_nil ?_)
  refine havAt_end ?_
  intro gs hgs hne
  have hpv := hgs 10 (by simp)
  change IdxAt _ _ _ _ _ _ (Act.put _ (some 15) (.pointer (some ⟨gs 10, 0, none⟩))) _
  generalize gs 10 = gv at *
  clear hgs hne
  simp only [Act.put, List.setIfInBounds_toArray, List.set_cons_succ, List.set_cons_zero]
  have Pv := LH hpv
  have Kv := LH (Cell4.of_blk hpv.2.1)
  clear hpv
  repeat (refine idxAt_still (by rfl) (by rfl) ?_; go_big_quiet_step (fail); refine wpQuiet_nil ?_)
  obtain ⟨⟨o0, o1, o2, o3⟩, ⟨q0, q1, q2, q3⟩, ol⟩ := Kv.out
  refine idxAt_move (by rfl) (by rfl) (by kernel_rfl) ?_
  go_wp2_with fail
  refine And.intro (inX_put (p := ⟨gv, 3, none⟩) (inX_put (p := ⟨gv, 2, none⟩) (inX_put (p := ⟨gv, 1, none⟩) (inX_put (p := ⟨gv, 0, none⟩) (inX_of_ext _ (ET Ew21.out (ET Ew22.out Ew23.out))) (.inr Pv.out.1) _) (.inr Pv.out.1) _) (.inr Pv.out.1) _) (.inr Pv.out.1) _) ?_
  clear o0 o1 o2 o3 q0 q1 q2 q3 ol
  have Kv_6 := LH (Kv.out.put4 (.bool sx) (.slice Ax nx cx) (.bool tx) (.slice Bx mx dx))
  have NJ6 := LH (ext_put4 (ET Ew21.out (ET Ew22.out Ew23.out)) (g := gv) Pv.out.1 0 (.bool sx) (.slice Ax nx cx) (.bool tx) (.slice Bx mx dx))
  have NZ6 : Hid (w23.heap.size ≤ (put4 w23 (gv) 0 (.bool sx) (.slice Ax nx cx) (.bool tx) (.slice Bx mx dx)).heap.size) := by unfold Hid; rw [put4_size]; exact Nat.le_refl _
  have Qx_6 := LH ((Qx.out.ext Ew23.out).put4A (g := gv) (Qx.out.span (Pv.out.2.2 (w21.heap.size, w22.heap.size) (by simp))) 0 (.bool sx) (.slice Ax nx cx) (.bool tx) (.slice Bx mx dx))
  unfold put4 at Kv_6 NJ6 NZ6 Qx_6
  simp only [Nat.zero_add] at Kv_6 NJ6 NZ6 Qx_6
  generalize ((((w23.setCell ⟨gv, 0, none⟩ (.bool sx)).setCell ⟨gv, 1, none⟩ (.slice Ax nx cx)).setCell ⟨gv, 2, none⟩ (.bool tx)).setCell ⟨gv, 3, none⟩ (.slice Bx mx dx)) = w24 at *
  repeat (refine idxAt_still (by rfl) (by rfl) ?_; go_big_quiet_step (fail); refine wpQuiet_nil ?_)
  refine idxAt_nil ?_
  clear f10 f11 f12 f13 fu4 fl0 fl1 fl2 fl3
  clear hw1 hj1
  by_cases hneg : s < 0
  ·have hbn : decide (s < 0) = true := by simp; omega
   go_wp2_with fail
   refine wp_region_lexS (C := InX w24.drew []) (by kernel_rfl) (by kernel_rfl) (inX_self _ _) ?_
   have hE : Ext w24 w24.drew := Ext.rfl'.drew
   generalize w24.drew = w25 at *
   have Ew25 := LH hE
   clear hE
   have fv0 := fun z : ExtX w25 [] => z.cell (p := ⟨gv, 0, none⟩) (Kv_6.out.ext Ew25.out).1.1 (by simp)
   have fv1 := fun z : ExtX w25 [] => z.cell (p := ⟨gv, 1, none⟩) (Kv_6.out.ext Ew25.out).1.2.1 (by simp)
   have fv2 := fun z : ExtX w25 [] => z.cell (p := ⟨gv, 2, none⟩) (Kv_6.out.ext Ew25.out).1.2.2.1 (by simp)
   have fv3 := fun z : ExtX w25 [] => z.cell (p := ⟨gv, 3, none⟩) (Kv_6.out.ext Ew25.out).1.2.2.2 (by simp)
   have fu5 := fun z : ExtX w25 [] => z.cell (p := ⟨w.heap.size, 5, none⟩) (Ku.out.ext (ET NJ5.out (ET Ew19.out (ET Ew20.out (ET NJ6.out Ew25.out))))).2.2.2.2.2.1 (by simp)
   repeat (refine lexAt_still (by rfl) ?_; go_big_quiet_step (fail); refine wpQuiet_nil ?_)
   refine lexAt_move (by rfl) (by kernel_rfl) ?_
   go_wp2_with fail
   refine (qfrom_any u.start w25 ⟨by omega, by omega⟩).mono ?_
   rintro e w26 ⟨se, Ae, ne, ce, te, Be, me, de, rfl, hQ, hE⟩
   have Ew26 := LH hE
   clear hE
   have Qe := LH hQ
   clear hQ
   go_wp2_with fail
   refine And.intro (inX_of_ext _ Ew26.out) ?_
   repeat (refine lexAt_still (by rfl) ?_; go_big_quiet_step (fail); refine wpQuiet_nil ?_)
   refine lexAt_move (by rfl) (by kernel_rfl) ?_
   go_wp2_with fail
   refine (qsub_any sx Ax nx cx tx Bx mx dx _ se Ae ne ce te Be me de _ w26 ((Qx_6.out.ext (ET Ew25.out Ew26.out)).arg (HZ1.out.add (HZF.out a1)) (by omega)) (Qe.out.arg (sz_small (z := u.start) (by omega) (by omega)) (by omega))).mono ?_
   rintro e w27 ⟨sz, Az, nz, cz, tz, Bz, mz, dz, rfl, hQ, hE⟩
   have Ew27 := LH hE
   clear hE
   have Qz := LH hQ
   clear hQ
   have HXe := LH (inX_of_ext [] (ET Ew26.out Ew27.out))
   clear fv0 fv1 fv2 fv3 fu5
   obtain ⟨⟨o0, o1, o2, o3⟩, ⟨q0, q1, q2, q3⟩, ol⟩ := (Kv_6.out.ext (ET Ew25.out (ET Ew26.out Ew27.out)))
   go_wp2_with fail
   refine And.intro HXe.out ?_
   refine lexAt_last (by rfl) (by kernel_rfl) (by kernel_rfl) ?_
   go_wp2_with fail
   refine And.intro trivial (lexAt_nil ?_)
   clear o0 o1 o2 o3 q0 q1 q2 q3 ol HXe
   have Kv_7 := LH ((Kv_6.out.ext (ET Ew25.out (ET Ew26.out Ew27.out))).put4 (.bool sz) (.slice Az nz cz) (.bool tz) (.slice Bz mz dz))
   have NJ7 := LH (ext_put4 (ET NJ6.out (ET Ew25.out (ET Ew26.out Ew27.out))) (g := gv) Pv.out.1 0 (.bool sz) (.slice Az nz cz) (.bool tz) (.slice Bz mz dz))
   have NZ7 : Hid (w27.heap.size ≤ (put4 w27 (gv) 0 (.bool sz) (.slice Az nz cz) (.bool tz) (.slice Bz mz dz)).heap.size) := by unfold Hid; rw [put4_size]; exact Nat.le_refl _
   have Qz_7 := LH (Qz.out.put4A (g := gv) (Qz.out.span (.inl (Nat.lt_of_lt_of_le Kv.out.2.2 (Nat.le_trans NZ6.out (Nat.le_trans Ew25.out.size Ew26.out.size))))) 0 (.bool sz) (.slice Az nz cz) (.bool tz) (.slice Bz mz dz))
   unfold put4 at Kv_7 NJ7 NZ7 Qz_7
   simp only [Nat.zero_add] at Kv_7 NJ7 NZ7 Qz_7
   generalize ((((w27.setCell ⟨gv, 0, none⟩ (.bool sz)).setCell ⟨gv, 1, none⟩ (.slice Az nz cz)).setCell ⟨gv, 2, none⟩ (.bool tz)).setCell ⟨gv, 3, none⟩ (.slice Bz mz dz)) = w28 at *
   have HON : Hid (u.onV g1 f s = g1 + (f a1).v - ((u.start : Int) : Rat)) := by unfold Hid; rw [onV_neg hneg, Ha1.out]
   go_wp2_with fail
   have hck := (RW1.out.ext (ET Ew19.out (ET Ew20.out NJ7.out))).2 k hlt
   simp only [if_true] at hck
   obtain ⟨sq, Aq, nq, cq, tq, Bq, mq, dq, ⟨o0, o1, o2, o3, -, -⟩, hQ, -⟩ := hck
   have Oq := LH (And.intro o0 (And.intro o1 (And.intro o2 o3)))
   have Qq := LH hQ
   clear hQ o0 o1 o2 o3
   refine wp_region_lexS (C := InX w28.drew []) (by kernel_rfl) (by kernel_rfl) (inX_self _ _) ?_
   have hE : Ext w28 w28.drew := Ext.rfl'.drew
   generalize w28.drew = w29 at *
   have Ew29 := LH hE
   clear hE
   have fv0 := fun z : ExtX w29 [] => z.cell (p := ⟨gv, 0, none⟩) (Kv_7.out.ext Ew29.out).1.1 (by simp)
   have fv1 := fun z : ExtX w29 [] => z.cell (p := ⟨gv, 1, none⟩) (Kv_7.out.ext Ew29.out).1.2.1 (by simp)
   have fv2 := fun z : ExtX w29 [] => z.cell (p := ⟨gv, 2, none⟩) (Kv_7.out.ext Ew29.out).1.2.2.1 (by simp)
   have fv3 := fun z : ExtX w29 [] => z.cell (p := ⟨gv, 3, none⟩) (Kv_7.out.ext Ew29.out).1.2.2.2 (by simp)
   have fk0 := fun z : ExtX w29 [] => z.cell (p := ⟨w.heap.size + 1 + 1, k * 6, none⟩) (Ext.cellOf Ew29.out Oq.out.1) (by simp)
   have fk1 := fun z : ExtX w29 [] => z.cell (p := ⟨w.heap.size + 1 + 1, k * 6 + 1, none⟩) (Ext.cellOf Ew29.out Oq.out.2.1) (by simp)
   have fk2 := fun z : ExtX w29 [] => z.cell (p := ⟨w.heap.size + 1 + 1, k * 6 + 2, none⟩) (Ext.cellOf Ew29.out Oq.out.2.2.1) (by simp)
   have fk3 := fun z : ExtX w29 [] => z.cell (p := ⟨w.heap.size + 1 + 1, k * 6 + 3, none⟩) (Ext.cellOf Ew29.out Oq.out.2.2.2) (by simp)
   repeat (refine lexAt_still (by rfl) ?_; go_big_quiet_step (fail); refine wpQuiet_nil ?_)
   refine lexAt_move (by rfl) (by kernel_rfl) ?_
   go_wp2_with fail
   refine (qcmp_any sz Az nz cz tz Bz mz dz _ sq Aq nq cq tq Bq mq dq _ w29 ((Qz_7.out.ext Ew29.out).arg ((HZ1.out.add (HZF.out a1)).sub (sz_small (z := u.start) (by omega) (by omega))) (by omega)) ((Qq.out.ext Ew29.out).arg (HZF.out a0) (by omega))).mono ?_
   rintro e w30 ⟨rfl, hE⟩
   have Ew30 := LH hE
   clear hE
   obtain ⟨cm, hcm⟩ : ∃ x, cmpQ ((g1 + (f a1).v) - ((u.start : Int) : Rat)) (f a0).v = x := ⟨_, rfl⟩
   rw [hcm]
   have Hcm := LH hcm
   clear hcm
   by_cases hgt : (f a0).v < ((g1 + (f a1).v) - ((u.start : Int) : Rat))
   ·have hb5 : decide (0 < cm) = true := by
     have : 0 < cm := by rw [← Hcm.out]; exact (cmpQ_pos _ _).2 hgt
     simp; omega
    have HGT := LH hgt
    clear hgt
    go_wp2_with fail
    refine And.intro (inX_of_ext _ Ew30.out) ?_
    repeat (refine lexAt_still (by rfl) ?_; go_big_quiet_step (fail); refine wpQuiet_nil ?_)
    refine lexAt_nil ?_
    clear fv0 fv1 fv2 fv3 fk0 fk1 fk2 fk3
    obtain ⟨⟨xv0, xv1, xv2, xv3⟩, -, zv⟩ := (Kv_7.out.ext (ET Ew29.out Ew30.out))
    have HTH := LH ((RW1.out.ext (ET Ew19.out (ET Ew20.out (ET NJ7.out (ET Ew29.out Ew30.out))))).1.there (o := k * 6) (k := 6) (by omega))
    have HRWP := LH ((RW1.out.ext (ET Ew19.out (ET Ew20.out (ET NJ7.out (ET Ew29.out Ew30.out))))))
    have HQP := LH ((Qz_7.out.ext (ET Ew29.out Ew30.out)).base (Nat.le_trans hB (Nat.le_trans Ew1.out.size (Nat.le_trans HEr.out.size (Nat.le_trans Ew3.out.size (Nat.le_trans NZ5.out (Nat.le_trans Ew19.out.size (Nat.le_trans Ew20.out.size (Nat.le_trans Ew21.out.size (Nat.le_trans Ew22.out.size (Nat.le_trans Ew23.out.size (Nat.le_trans NZ6.out (Nat.le_trans Ew25.out.size Ew26.out.size)))))))))))))
    have HEP := LH ((ET NJ5.out (ET Ew19.out (ET Ew20.out (ET NJ7.out (ET Ew29.out Ew30.out))))))
    go_wp2_with (
     refine wpList_storeV rfl 76 _ _ rfl (w.heap.size + 1 + 1) (k * 6) [.bool sz, .slice Az nz cz, .bool tz, .slice Bz mz dz, .bool true, .int .i64 a1] rfl rfl HTH.out (by kernel_rfl) rfl ?_
     intro w31 hpv
     have hrp := HRWP.out.put (k := k) (x := ⟨((g1 + (f a1).v) - ((u.start : Int) : Rat)), true, a1⟩) hlt (by simp) hpv HQP.out (fun y hy => by
       simp only [List.mem_cons, List.not_mem_nil, or_false] at hy
       subst hy
       exact Qz.out.span (.inl (Nat.lt_of_lt_of_le HRr.out.1.1 (Nat.le_trans Ew3.out.size (Nat.le_trans NZ5.out (Nat.le_trans Ew19.out.size (Nat.le_trans Ew20.out.size (Nat.le_trans Ew21.out.size (Nat.le_trans Ew22.out.size (Nat.le_trans Ew23.out.size (Nat.le_trans NZ6.out (Nat.le_trans Ew25.out.size Ew26.out.size))))))))))))
     have NJ8 := LH (hpv.touch.ext w1 HEP.out (Nat.le_of_eq SZw1.out))
     have NZ8 := LH (Nat.le_of_eq hpv.touch.size.symm)
     have RWn : Hid (ChRow w31 B0 [w.heap.size + 1 + 1] (w.heap.size + 1 + 1) N (rowTo (fun i => u.choice g1 f ((i : Int) - u.down)) (k + 1))) := hrp.congr (fun i _ => rowTo_succ (show (fun i => u.choice g1 f ((i : Int) - u.down)) k = _ by simp only [HSK.out]; exact (by rw [choice_TTon Hb0.out Hb1.out (by rw [Ha0.out, HON.out]; exact HGT.out), HON.out, Ha1.out])) (G := (fun i => if i = k then (⟨(f a0).v, false, a0⟩ : Ch) else rowTo (fun i => u.choice g1 f ((i : Int) - u.down)) k i)) (fun i hi => if_neg hi) i)
     clear hrp hpv)
    clear HTH HRWP HQP HEP
    clear xv0 xv1 xv2 xv3 zv
    go_roundw
    case rel => exact ⟨k + 1, by omega, by go_num, NJ8.out, RWn.out⟩
    case measure => simp [intOf]; omega
   have hb5 : decide (0 < cm) = false := by
    have : ¬ 0 < cm := by rw [← Hcm.out]; exact fun e => hgt ((cmpQ_pos _ _).1 e)
    simp; omega
   have HGT := LH hgt
   clear hgt
   go_wp2_with fail
   refine And.intro (inX_of_ext _ Ew30.out) ?_
   repeat (refine lexAt_still (by rfl) ?_; go_big_quiet_step (fail); refine wpQuiet_nil ?_)
   refine lexAt_nil ?_
   clear fv0 fv1 fv2 fv3 fk0 fk1 fk2 fk3
   go_wp2_with fail
   go_roundw
   case rel => exact ⟨k + 1, by omega, by go_num, (ET NJ5.out (ET Ew19.out (ET Ew20.out (ET NJ7.out (ET Ew29.out Ew30.out))))), (RW1.out.ext (ET Ew19.out (ET Ew20.out (ET NJ7.out (ET Ew29.out Ew30.out))))).congr (fun i _ => rowTo_succ (show (fun i => u.choice g1 f ((i : Int) - u.down)) k = _ by simp only [HSK.out]; rw [choice_TToff Hb0.out Hb1.out (by rw [Ha0.out, HON.out]; exact HGT.out), Ha0.out]) (fun i _ => rfl) i)⟩
   case measure => simp [intOf]; omega
  have hbn : decide (s < 0) = false := by simp; omega
  have HON : Hid (u.onV g1 f s = g1 + (f a1).v) := by unfold Hid; rw [onV_pos hneg, Ha1.out]
  go_wp2_with fail
  have hck := (RW1.out.ext (ET Ew19.out (ET Ew20.out NJ6.out))).2 k hlt
  simp only [if_true] at hck
  obtain ⟨sq, Aq, nq, cq, tq, Bq, mq, dq, ⟨o0, o1, o2, o3, -, -⟩, hQ, -⟩ := hck
  have Oq := LH (And.intro o0 (And.intro o1 (And.intro o2 o3)))
  have Qq := LH hQ
  clear hQ o0 o1 o2 o3
  refine wp_region_lexS (C := InX w24.drew []) (by kernel_rfl) (by kernel_rfl) (inX_self _ _) ?_
  have hE : Ext w24 w24.drew := Ext.rfl'.drew
  generalize w24.drew = w32 at *
  have Ew32 := LH hE
  clear hE
  have fv0 := fun z : ExtX w32 [] => z.cell (p := ⟨gv, 0, none⟩) (Kv_6.out.ext Ew32.out).1.1 (by simp)
  have fv1 := fun z : ExtX w32 [] => z.cell (p := ⟨gv, 1, none⟩) (Kv_6.out.ext Ew32.out).1.2.1 (by simp)
  have fv2 := fun z : ExtX w32 [] => z.cell (p := ⟨gv, 2, none⟩) (Kv_6.out.ext Ew32.out).1.2.2.1 (by simp)
  have fv3 := fun z : ExtX w32 [] => z.cell (p := ⟨gv, 3, none⟩) (Kv_6.out.ext Ew32.out).1.2.2.2 (by simp)
  have fk0 := fun z : ExtX w32 [] => z.cell (p := ⟨w.heap.size + 1 + 1, k * 6, none⟩) (Ext.cellOf Ew32.out Oq.out.1) (by simp)
  have fk1 := fun z : ExtX w32 [] => z.cell (p := ⟨w.heap.size + 1 + 1, k * 6 + 1, none⟩) (Ext.cellOf Ew32.out Oq.out.2.1) (by simp)
  have fk2 := fun z : ExtX w32 [] => z.cell (p := ⟨w.heap.size + 1 + 1, k * 6 + 2, none⟩) (Ext.cellOf Ew32.out Oq.out.2.2.1) (by simp)
  have fk3 := fun z : ExtX w32 [] => z.cell (p := ⟨w.heap.size + 1 + 1, k * 6 + 3, none⟩) (Ext.cellOf Ew32.out Oq.out.2.2.2) (by simp)
  repeat (refine lexAt_still (by rfl) ?_; go_big_quiet_step (fail); refine wpQuiet_nil ?_)
  refine lexAt_move (by rfl) (by kernel_rfl) ?_
  go_wp2_with fail
  refine (qcmp_any sx Ax nx cx tx Bx mx dx _ sq Aq nq cq tq Bq mq dq _ w32 ((Qx_6.out.ext Ew32.out).arg (HZ1.out.add (HZF.out a1)) (by omega)) ((Qq.out.ext Ew32.out).arg (HZF.out a0) (by omega))).mono ?_
  rintro e w33 ⟨rfl, hE⟩
  have Ew33 := LH hE
  clear hE
  obtain ⟨cm, hcm⟩ : ∃ x, cmpQ (g1 + (f a1).v) (f a0).v = x := ⟨_, rfl⟩
  rw [hcm]
  have Hcm := LH hcm
  clear hcm
  by_cases hgt : (f a0).v < (g1 + (f a1).v)
  ·have hb5 : decide (0 < cm) = true := by
    have : 0 < cm := by rw [← Hcm.out]; exact (cmpQ_pos _ _).2 hgt
    simp; omega
   have HGT := LH hgt
   clear hgt
   go_wp2_with fail
   refine And.intro (inX_of_ext _ Ew33.out) ?_
   repeat (refine lexAt_still (by rfl) ?_; go_big_quiet_step (fail); refine wpQuiet_nil ?_)
   refine lexAt_nil ?_
   clear fv0 fv1 fv2 fv3 fk0 fk1 fk2 fk3
   obtain ⟨⟨xv0, xv1, xv2, xv3⟩, -, zv⟩ := (Kv_6.out.ext (ET Ew32.out Ew33.out))
   have HTH := LH ((RW1.out.ext (ET Ew19.out (ET Ew20.out (ET NJ6.out (ET Ew32.out Ew33.out))))).1.there (o := k * 6) (k := 6) (by omega))
   have HRWP := LH ((RW1.out.ext (ET Ew19.out (ET Ew20.out (ET NJ6.out (ET Ew32.out Ew33.out))))))
   have HQP := LH ((Qx_6.out.ext (ET Ew32.out Ew33.out)).base (Nat.le_trans hB (Nat.le_trans Ew1.out.size (Nat.le_trans HEr.out.size (Nat.le_trans Ew3.out.size (Nat.le_trans NZ5.out (Nat.le_trans Ew19.out.size (Nat.le_trans Ew20.out.size Ew21.out.size))))))))
   have HEP := LH ((ET NJ5.out (ET Ew19.out (ET Ew20.out (ET NJ6.out (ET Ew32.out Ew33.out))))))
   go_wp2_with (
    refine wpList_storeV rfl 76 _ _ rfl (w.heap.size + 1 + 1) (k * 6) [.bool sx, .slice Ax nx cx, .bool tx, .slice Bx mx dx, .bool true, .int .i64 a1] rfl rfl HTH.out (by kernel_rfl) rfl ?_
    intro w34 hpv
    have hrp := HRWP.out.put (k := k) (x := ⟨(g1 + (f a1).v), true, a1⟩) hlt (by simp) hpv HQP.out (fun y hy => by
      simp only [List.mem_cons, List.not_mem_nil, or_false] at hy
      subst hy
      exact Qx.out.span (.inl (Nat.lt_of_lt_of_le HRr.out.1.1 (Nat.le_trans Ew3.out.size (Nat.le_trans NZ5.out (Nat.le_trans Ew19.out.size (Nat.le_trans Ew20.out.size Ew21.out.size)))))))
    have NJ9 := LH (hpv.touch.ext w1 HEP.out (Nat.le_of_eq SZw1.out))
    have NZ9 := LH (Nat.le_of_eq hpv.touch.size.symm)
    have RWn : Hid (ChRow w34 B0 [w.heap.size + 1 + 1] (w.heap.size + 1 + 1) N (rowTo (fun i => u.choice g1 f ((i : Int) - u.down)) (k + 1))) := hrp.congr (fun i _ => rowTo_succ (show (fun i => u.choice g1 f ((i : Int) - u.down)) k = _ by simp only [HSK.out]; exact (by rw [choice_TTon Hb0.out Hb1.out (by rw [Ha0.out, HON.out]; exact HGT.out), HON.out, Ha1.out])) (G := (fun i => if i = k then (⟨(f a0).v, false, a0⟩ : Ch) else rowTo (fun i => u.choice g1 f ((i : Int) - u.down)) k i)) (fun i hi => if_neg hi) i)
    clear hrp hpv)
   clear HTH HRWP HQP HEP
   clear xv0 xv1 xv2 xv3 zv
   go_roundw
   case rel => exact ⟨k + 1, by omega, by go_num, NJ9.out, RWn.out⟩
   case measure => simp [intOf]; omega
  have hb5 : decide (0 < cm) = false := by
   have : ¬ 0 < cm := by rw [← Hcm.out]; exact fun e => hgt ((cmpQ_pos _ _).1 e)
   simp; omega
  have HGT := LH hgt
  clear hgt
  go_wp2_with fail
  refine And.intro (inX_of_ext _ Ew33.out) ?_
  repeat (refine lexAt_still (by rfl) ?_; go_big_quiet_step (fail); refine wpQuiet_nil ?_)
  refine lexAt_nil ?_
  clear fv0 fv1 fv2 fv3 fk0 fk1 fk2 fk3
  go_wp2_with fail
  go_roundw
  case rel => exact ⟨k + 1, by omega, by go_num, (ET NJ5.out (ET Ew19.out (ET Ew20.out (ET NJ6.out (ET Ew32.out Ew33.out))))), (RW1.out.ext (ET Ew19.out (ET Ew20.out (ET NJ6.out (ET Ew32.out Ew33.out))))).congr (fun i _ => rowTo_succ (show (fun i => u.choice g1 f ((i : Int) - u.down)) k = _ by simp only [HSK.out]; rw [choice_TToff Hb0.out Hb1.out (by rw [Ha0.out, HON.out]; exact HGT.out), Ha0.out]) (fun i _ => rfl) i)⟩
  case measure => simp [intOf]; omega
end Go.Proofs.YtjinpfnefeiooaaGreat
