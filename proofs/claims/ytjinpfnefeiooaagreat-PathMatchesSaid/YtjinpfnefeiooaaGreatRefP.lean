/- A part of the proof. -/
import Derived.Test.YtjinpfnefeiooaaGreatRefS
import Derived.Test.YtjinpfnefeiooaaGreatRefSU
import Derived.Test.YtjinpfnefeiooaaGreatHour
namespace Go.Proofs.YtjinpfnefeiooaaGreat
open Go.RowKit

def U.ownV (u : U) (p : Rat) (q : Int) : Rat := p * ((q : Int) : Rat) - costV u.steps ((q : Int) : Rat) - ((u.idle : Int) : Rat)
set_option maxRecDepth 100000 in
set_option maxHeartbeats 8000000 in
theorem rown_any (u : U) (A : Option Addr) (n c : Nat) (s1 : Bool) (A1 : Option Addr) (n1 c1 : Nat) (t1 : Bool) (B1 : Option Addr) (m1 d1 : Nat) (p : Rat) (q : Int) (w : World) (hs : StepsAt w A n u.steps) (hn : n ≤ maxLen) (h1 : QIs w s1 A1 n1 c1 t1 B1 m1 d1 p) (l1 : n1 ≤ 1000) (l2 : m1 ≤ 1000) (hq0 : 0 ≤ q) (hq1 : q ≤ 4000000) (hi0 : 0 ≤ u.idle) (hi1 : u.idle ≤ 1000000000) :
  Calls Tryz.prog 32 #[u.val A n c, .agg #[.bool s1, .slice A1 n1 c1, .bool t1, .slice B1 m1 d1], .int .i64 q] w (RetQ w (u.ownV p q)) := by
 have HS := LH hs
 have H1 := LH h1
 have HZ1 : Hid (Sz 1000 p) := h1.sz l1 l2 (by omega)
 clear hs h1
 go_enter Tryz.func32, Tryz.ntmps32
 go_wp2_with fail
 have k0 := UBox.new (w) (w.heap.size) (by simp) u A n c 24
 have k1 := Cell4.new ((w).alloc (.cells #[.int .i64 u.bus, .int .i64 u.mn, .slice A n c, .int .i64 u.up, .int .i64 u.down, .int .i64 u.start, .int .i64 u.idle, .int .i64 u.spin, .int .i64 u.on] 24)) (w.heap.size + 1) (by simp) (.bool s1) (.slice A1 n1 c1) (.bool t1) (.slice B1 m1 d1) 29
 have k2 := Cell4.new (((w).alloc (.cells #[.int .i64 u.bus, .int .i64 u.mn, .slice A n c, .int .i64 u.up, .int .i64 u.down, .int .i64 u.start, .int .i64 u.idle, .int .i64 u.spin, .int .i64 u.on] 24)).alloc (.cells #[.bool s1, .slice A1 n1 c1, .bool t1, .slice B1 m1 d1] 29)) (w.heap.size + 1 + 1) (by simp) (.bool false) (.slice none 0 0) (.bool false) (.slice none 0 0) 29
 have hE : Ext w ((((w).alloc (.cells #[.int .i64 u.bus, .int .i64 u.mn, .slice A n c, .int .i64 u.up, .int .i64 u.down, .int .i64 u.start, .int .i64 u.idle, .int .i64 u.spin, .int .i64 u.on] 24)).alloc (.cells #[.bool s1, .slice A1 n1 c1, .bool t1, .slice B1 m1 d1] 29)).alloc (.cells #[.bool false, .slice none 0 0, .bool false, .slice none 0 0] 29)) := (Ext.al (Ext.al (Ext.al Ext.rfl' _) _) _)
 have k0 := k0.ext (show Ext ((w).alloc (.cells #[.int .i64 u.bus, .int .i64 u.mn, .slice A n c, .int .i64 u.up, .int .i64 u.down, .int .i64 u.start, .int .i64 u.idle, .int .i64 u.spin, .int .i64 u.on] 24)) ((((w).alloc (.cells #[.int .i64 u.bus, .int .i64 u.mn, .slice A n c, .int .i64 u.up, .int .i64 u.down, .int .i64 u.start, .int .i64 u.idle, .int .i64 u.spin, .int .i64 u.on] 24)).alloc (.cells #[.bool s1, .slice A1 n1 c1, .bool t1, .slice B1 m1 d1] 29)).alloc (.cells #[.bool false, .slice none 0 0, .bool false, .slice none 0 0] 29)) from (Ext.al (Ext.al Ext.rfl' _) _))
 have k1 := k1.ext (show Ext (((w).alloc (.cells #[.int .i64 u.bus, .int .i64 u.mn, .slice A n c, .int .i64 u.up, .int .i64 u.down, .int .i64 u.start, .int .i64 u.idle, .int .i64 u.spin, .int .i64 u.on] 24)).alloc (.cells #[.bool s1, .slice A1 n1 c1, .bool t1, .slice B1 m1 d1] 29)) ((((w).alloc (.cells #[.int .i64 u.bus, .int .i64 u.mn, .slice A n c, .int .i64 u.up, .int .i64 u.down, .int .i64 u.start, .int .i64 u.idle, .int .i64 u.spin, .int .i64 u.on] 24)).alloc (.cells #[.bool s1, .slice A1 n1 c1, .bool t1, .slice B1 m1 d1] 29)).alloc (.cells #[.bool false, .slice none 0 0, .bool false, .slice none 0 0] 29)) from (Ext.al Ext.rfl' _))
 have hsz : ((((w).alloc (.cells #[.int .i64 u.bus, .int .i64 u.mn, .slice A n c, .int .i64 u.up, .int .i64 u.down, .int .i64 u.start, .int .i64 u.idle, .int .i64 u.spin, .int .i64 u.on] 24)).alloc (.cells #[.bool s1, .slice A1 n1 c1, .bool t1, .slice B1 m1 d1] 29)).alloc (.cells #[.bool false, .slice none 0 0, .bool false, .slice none 0 0] 29)).heap.size = w.heap.size + 1 + 1 + 1 := by simp
 generalize (((w).alloc (.cells #[.int .i64 u.bus, .int .i64 u.mn, .slice A n c, .int .i64 u.up, .int .i64 u.down, .int .i64 u.start, .int .i64 u.idle, .int .i64 u.spin, .int .i64 u.on] 24)).alloc (.cells #[.bool s1, .slice A1 n1 c1, .bool t1, .slice B1 m1 d1] 29)).alloc (.cells #[.bool false, .slice none 0 0, .bool false, .slice none 0 0] 29) = w1 at *
 have SZw1 := LH hsz
 clear hsz
 have Ew1 := LH hE
 clear hE
 have Ku := LH k0
 clear k0
 have K1 := LH k1
 clear k1
 have Kr := LH k2
 clear k2
 refine wp_region_havS [8] [0, 1, 2, 3, 4, 5, 6, 7] [9, 10] (fun _ => .cells #[.bool false, .slice none 0 0, .bool false, .slice none 0 0] 29) (by kernel_rfl) (by kernel_rfl) ?_ ?_
 ·intro f hf
  simp only [List.mem_cons, List.not_mem_nil, or_false] at hf
  rcases hf with rfl
  all_goals exact makes_q (by rfl) rfl
 have hE : Ext w1 w1.drew := Ext.rfl'.drew
 generalize w1.drew = w2 at *
 have Ew2 := LH hE
 clear hE
 have fu2 := fun z : ExtX w2 [] => z.cell (p := ⟨w.heap.size, 2, none⟩) (Ku.out.ext Ew2.out).2.2.1 (by simp)
 intro w3 hE
 have Ew3 := LH hE
 clear hE
 repeat (refine havAt_still (by rfl) (by rfl) ?_; go_big_quiet_step (fail); refine wpQuiet_nil ?_)
 refine havAt_move (by rfl) (by rfl) (by kernel_rfl) ?_
 go_wp2_with fail
 refine (rint_any q w3 ⟨by omega, by omega⟩).mono ?_
 rintro e w4 ⟨si, Ai, ni, ci, ti, Bi, mi, di, rfl, hQ, hE⟩
 have Ew4 := LH hE
 clear hE
 have Qi := LH hQ
 clear hQ
 go_wp2_with fail
 refine And.intro Ew4.out (fun w5 hE => ?_)
 have Ew5 := LH hE
 clear hE
 repeat (refine havAt_still (by rfl) (by rfl) ?_; go_big_quiet_step (fail); refine wpQuiet_nil ?_)
 refine havAt_move (by rfl) (by rfl) (by kernel_rfl) ?_
 go_wp2_with fail
 refine (rcost_any A n c u.steps si Ai ni ci ti Bi mi di ((q : Int) : Rat) w5 (HS.out.below (ET Ew1.out (ET Ew2.out (ET Ew3.out (ET Ew4.out Ew5.out))))) hn (Qi.out.ext Ew5.out).is (Nat.le_trans ((Qi.out.ext Ew5.out).len (sz_small (z := q) (by omega) (by omega))).1 (by omega)) (Nat.le_trans ((Qi.out.ext Ew5.out).len (sz_small (z := q) (by omega) (by omega))).2 (by omega))).mono ?_
 rintro e w6 ⟨sk, Ak, nk, ck, tk, Bk, mk, dk, rfl, hQ, hE⟩
 have Ew6 := LH hE
 clear hE
 have Qk := LH hQ
 clear hQ
 go_wp2_with fail
 refine And.intro Ew6.out (fun w7 hE => ?_)
 have Ew7 := LH hE
 clear hE
 repeat (refine havAt_still (by rfl) (by rfl) ?_; go_big_quiet_step (fail); refine wpQuiet_nil ?_)
 refine havAt_end ?_
 intro gs hgs hne
 have hpck := hgs 8 (by simp)
 change IdxAt _ _ _ _ _ _ (Act.put _ (some 7) (.pointer (some ⟨gs 8, 0, none⟩))) _
 generalize gs 8 = gck at *
 clear hgs hne
 simp only [Act.put, List.setIfInBounds_toArray, List.set_cons_succ, List.set_cons_zero]
 have Pck := LH hpck
 have Kck := LH (Cell4.of_blk hpck.2.1)
 clear hpck
 repeat (refine idxAt_still (by rfl) (by rfl) ?_; go_big_quiet_step (fail); refine wpQuiet_nil ?_)
 obtain ⟨⟨o0, o1, o2, o3⟩, ⟨q0, q1, q2, q3⟩, ol⟩ := Kck.out
 refine idxAt_move (by rfl) (by rfl) (by kernel_rfl) ?_
 go_wp2_with fail
 refine And.intro (inX_put (p := ⟨gck, 3, none⟩) (inX_put (p := ⟨gck, 2, none⟩) (inX_put (p := ⟨gck, 1, none⟩) (inX_put (p := ⟨gck, 0, none⟩) (inX_of_ext _ (ET Ew3.out (ET Ew4.out (ET Ew5.out (ET Ew6.out Ew7.out))))) (.inr Pck.out.1) _) (.inr Pck.out.1) _) (.inr Pck.out.1) _) (.inr Pck.out.1) _) ?_
 clear o0 o1 o2 o3 q0 q1 q2 q3 ol
 have Kck_1 := LH (Kck.out.put4 (.bool sk) (.slice Ak nk ck) (.bool tk) (.slice Bk mk dk))
 have NJ1 := LH (ext_put4 (ET Ew3.out (ET Ew4.out (ET Ew5.out (ET Ew6.out Ew7.out)))) (g := gck) Pck.out.1 0 (.bool sk) (.slice Ak nk ck) (.bool tk) (.slice Bk mk dk))
 have NZ1 : Hid (w7.heap.size ≤ (put4 w7 (gck) 0 (.bool sk) (.slice Ak nk ck) (.bool tk) (.slice Bk mk dk)).heap.size) := by unfold Hid; rw [put4_size]; exact Nat.le_refl _
 have Qk_1 := LH ((Qk.out.ext Ew7.out).put4A (g := gck) (Qk.out.span (Pck.out.2.2 (w5.heap.size, w6.heap.size) (by simp))) 0 (.bool sk) (.slice Ak nk ck) (.bool tk) (.slice Bk mk dk))
 unfold put4 at Kck_1 NJ1 NZ1 Qk_1
 simp only [Nat.zero_add] at Kck_1 NJ1 NZ1 Qk_1
 generalize ((((w7.setCell ⟨gck, 0, none⟩ (.bool sk)).setCell ⟨gck, 1, none⟩ (.slice Ak nk ck)).setCell ⟨gck, 2, none⟩ (.bool tk)).setCell ⟨gck, 3, none⟩ (.slice Bk mk dk)) = w8 at *
 repeat (refine idxAt_still (by rfl) (by rfl) ?_; go_big_quiet_step (fail); refine wpQuiet_nil ?_)
 refine idxAt_nil ?_
 clear fu2
 go_wp2_with fail
 refine wp_region_havS [6] [0, 1, 2, 3, 4, 5] [7] (fun _ => .cells #[.bool false, .slice none 0 0, .bool false, .slice none 0 0] 29) (by kernel_rfl) (by kernel_rfl) ?_ ?_
 ·intro f hf
  simp only [List.mem_cons, List.not_mem_nil, or_false] at hf
  rcases hf with rfl
  all_goals exact makes_q (by rfl) rfl
 have hE : Ext w8 w8.drew := Ext.rfl'.drew
 generalize w8.drew = w9 at *
 have Ew9 := LH hE
 clear hE
 have f10 := fun z : ExtX w9 [] => z.cell (p := ⟨w.heap.size + 1, 0, none⟩) (K1.out.ext (ET Ew2.out (ET NJ1.out Ew9.out))).1.1 (by simp)
 have f11 := fun z : ExtX w9 [] => z.cell (p := ⟨w.heap.size + 1, 1, none⟩) (K1.out.ext (ET Ew2.out (ET NJ1.out Ew9.out))).1.2.1 (by simp)
 have f12 := fun z : ExtX w9 [] => z.cell (p := ⟨w.heap.size + 1, 2, none⟩) (K1.out.ext (ET Ew2.out (ET NJ1.out Ew9.out))).1.2.2.1 (by simp)
 have f13 := fun z : ExtX w9 [] => z.cell (p := ⟨w.heap.size + 1, 3, none⟩) (K1.out.ext (ET Ew2.out (ET NJ1.out Ew9.out))).1.2.2.2 (by simp)
 have fck0 := fun z : ExtX w9 [] => z.cell (p := ⟨gck, 0, none⟩) (Kck_1.out.ext Ew9.out).1.1 (by simp)
 have fck1 := fun z : ExtX w9 [] => z.cell (p := ⟨gck, 1, none⟩) (Kck_1.out.ext Ew9.out).1.2.1 (by simp)
 have fck2 := fun z : ExtX w9 [] => z.cell (p := ⟨gck, 2, none⟩) (Kck_1.out.ext Ew9.out).1.2.2.1 (by simp)
 have fck3 := fun z : ExtX w9 [] => z.cell (p := ⟨gck, 3, none⟩) (Kck_1.out.ext Ew9.out).1.2.2.2 (by simp)
 intro w10 hE
 have Ew10 := LH hE
 clear hE
 repeat (refine havAt_still (by rfl) (by rfl) ?_; go_big_quiet_step (fail); refine wpQuiet_nil ?_)
 refine havAt_move (by rfl) (by rfl) (by kernel_rfl) ?_
 go_wp2_with fail
 refine (rint_any q w10 ⟨by omega, by omega⟩).mono ?_
 rintro e w11 ⟨sj, Aj, nj, cj, tj, Bj, mj, dj, rfl, hQ, hE⟩
 have Ew11 := LH hE
 clear hE
 have Qj := LH hQ
 clear hQ
 go_wp2_with fail
 refine And.intro Ew11.out (fun w12 hE => ?_)
 have Ew12 := LH hE
 clear hE
 repeat (refine havAt_still (by rfl) (by rfl) ?_; go_big_quiet_step (fail); refine wpQuiet_nil ?_)
 refine havAt_move (by rfl) (by rfl) (by kernel_rfl) ?_
 go_wp2_with fail
 refine (rqmul_any s1 A1 n1 c1 t1 B1 m1 d1 _ sj Aj nj cj tj Bj mj dj _ 20000 w12 ((H1.out.ext (ET Ew1.out (ET Ew2.out (ET NJ1.out (ET Ew9.out (ET Ew10.out (ET Ew11.out Ew12.out))))))).rarg (by omega) (by omega)) ((Qj.out.ext Ew12.out).rarg (sz_small (z := q) (by omega) (by omega)) (by omega)) (by omega)).mono ?_
 rintro e w13 ⟨sm, Am, nm, cm, tm, Bm, mm, dm, rfl, hQ, hE⟩
 have Ew13 := LH hE
 clear hE
 have Qm := LH hQ
 clear hQ
 go_wp2_with fail
 refine And.intro Ew13.out (fun w14 hE => ?_)
 have Ew14 := LH hE
 clear hE
 repeat (refine havAt_still (by rfl) (by rfl) ?_; go_big_quiet_step (fail); refine wpQuiet_nil ?_)
 refine havAt_move (by rfl) (by rfl) (by kernel_rfl) ?_
 go_wp2_with fail
 refine (rqsub_any sm Am nm cm tm Bm mm dm _ sk Ak nk ck tk Bk mk dk _ 20000 w14 ((Qm.out.ext Ew14.out).rarg (HZ1.out.mul (sz_small (z := q) (by omega) (by omega))) (by omega)) ((Qk_1.out.ext (ET Ew9.out (ET Ew10.out (ET Ew11.out (ET Ew12.out (ET Ew13.out Ew14.out)))))).rarg (sz_costV ((sz_small (z := q) (by omega) (by omega)).mono (by omega))) (by omega)) (by omega)).mono ?_
 rintro e w15 ⟨ss, As, ns, cs, ts, Bs, ms, ds, rfl, hQ, hE⟩
 have Ew15 := LH hE
 clear hE
 have Qs := LH hQ
 clear hQ
 go_wp2_with fail
 refine And.intro Ew15.out (fun w16 hE => ?_)
 have Ew16 := LH hE
 clear hE
 repeat (refine havAt_still (by rfl) (by rfl) ?_; go_big_quiet_step (fail); refine wpQuiet_nil ?_)
 refine havAt_end ?_
 intro gs hgs hne
 have hpcs := hgs 6 (by simp)
 change IdxAt _ _ _ _ _ _ (Act.put _ (some 9) (.pointer (some ⟨gs 6, 0, none⟩))) _
 generalize gs 6 = gcs at *
 clear hgs hne
 simp only [Act.put, List.setIfInBounds_toArray, List.set_cons_succ, List.set_cons_zero]
 have Pcs := LH hpcs
 have Kcs := LH (Cell4.of_blk hpcs.2.1)
 clear hpcs
 repeat (refine idxAt_still (by rfl) (by rfl) ?_; go_big_quiet_step (fail); refine wpQuiet_nil ?_)
 obtain ⟨⟨o0, o1, o2, o3⟩, ⟨q0, q1, q2, q3⟩, ol⟩ := Kcs.out
 refine idxAt_move (by rfl) (by rfl) (by kernel_rfl) ?_
 go_wp2_with fail
 refine And.intro (inX_put (p := ⟨gcs, 3, none⟩) (inX_put (p := ⟨gcs, 2, none⟩) (inX_put (p := ⟨gcs, 1, none⟩) (inX_put (p := ⟨gcs, 0, none⟩) (inX_of_ext _ (ET Ew10.out (ET Ew11.out (ET Ew12.out (ET Ew13.out (ET Ew14.out (ET Ew15.out Ew16.out))))))) (.inr Pcs.out.1) _) (.inr Pcs.out.1) _) (.inr Pcs.out.1) _) (.inr Pcs.out.1) _) ?_
 clear o0 o1 o2 o3 q0 q1 q2 q3 ol
 have Kcs_2 := LH (Kcs.out.put4 (.bool ss) (.slice As ns cs) (.bool ts) (.slice Bs ms ds))
 have NJ2 := LH (ext_put4 (ET Ew10.out (ET Ew11.out (ET Ew12.out (ET Ew13.out (ET Ew14.out (ET Ew15.out Ew16.out)))))) (g := gcs) Pcs.out.1 0 (.bool ss) (.slice As ns cs) (.bool ts) (.slice Bs ms ds))
 have NZ2 : Hid (w16.heap.size ≤ (put4 w16 (gcs) 0 (.bool ss) (.slice As ns cs) (.bool ts) (.slice Bs ms ds)).heap.size) := by unfold Hid; rw [put4_size]; exact Nat.le_refl _
 have Qs_2 := LH ((Qs.out.ext Ew16.out).put4A (g := gcs) (Qs.out.span (Pcs.out.2.2 (w14.heap.size, w15.heap.size) (by simp))) 0 (.bool ss) (.slice As ns cs) (.bool ts) (.slice Bs ms ds))
 unfold put4 at Kcs_2 NJ2 NZ2 Qs_2
 simp only [Nat.zero_add] at Kcs_2 NJ2 NZ2 Qs_2
 generalize ((((w16.setCell ⟨gcs, 0, none⟩ (.bool ss)).setCell ⟨gcs, 1, none⟩ (.slice As ns cs)).setCell ⟨gcs, 2, none⟩ (.bool ts)).setCell ⟨gcs, 3, none⟩ (.slice Bs ms ds)) = w17 at *
 repeat (refine idxAt_still (by rfl) (by rfl) ?_; go_big_quiet_step (fail); refine wpQuiet_nil ?_)
 refine idxAt_nil ?_
 clear f10 f11 f12 f13 fck0 fck1 fck2 fck3
 go_wp2_with fail
 refine wp_region_lexS (C := InX w17.drew []) (by kernel_rfl) (by kernel_rfl) (inX_self _ _) ?_
 have hE : Ext w17 w17.drew := Ext.rfl'.drew
 generalize w17.drew = w18 at *
 have Ew18 := LH hE
 clear hE
 have fcs0 := fun z : ExtX w18 [] => z.cell (p := ⟨gcs, 0, none⟩) (Kcs_2.out.ext Ew18.out).1.1 (by simp)
 have fcs1 := fun z : ExtX w18 [] => z.cell (p := ⟨gcs, 1, none⟩) (Kcs_2.out.ext Ew18.out).1.2.1 (by simp)
 have fcs2 := fun z : ExtX w18 [] => z.cell (p := ⟨gcs, 2, none⟩) (Kcs_2.out.ext Ew18.out).1.2.2.1 (by simp)
 have fcs3 := fun z : ExtX w18 [] => z.cell (p := ⟨gcs, 3, none⟩) (Kcs_2.out.ext Ew18.out).1.2.2.2 (by simp)
 have fu6 := fun z : ExtX w18 [] => z.cell (p := ⟨w.heap.size, 6, none⟩) (Ku.out.ext (ET Ew2.out (ET NJ1.out (ET Ew9.out (ET NJ2.out Ew18.out))))).2.2.2.2.2.2.1 (by simp)
 repeat (refine lexAt_still (by rfl) ?_; go_big_quiet_step (fail); refine wpQuiet_nil ?_)
 refine lexAt_move (by rfl) (by kernel_rfl) ?_
 go_wp2_with fail
 refine (rint_any u.idle w18 ⟨by omega, by omega⟩).mono ?_
 rintro e w19 ⟨sl, Al, nl, cl, tl, Bl, ml, dl, rfl, hQ, hE⟩
 have Ew19 := LH hE
 clear hE
 have Ql := LH hQ
 clear hQ
 go_wp2_with fail
 refine And.intro (inX_of_ext _ Ew19.out) ?_
 repeat (refine lexAt_still (by rfl) ?_; go_big_quiet_step (fail); refine wpQuiet_nil ?_)
 refine lexAt_move (by rfl) (by kernel_rfl) ?_
 go_wp2_with fail
 refine (rqsub_any ss As ns cs ts Bs ms ds _ sl Al nl cl tl Bl ml dl _ 20000 w19 ((Qs_2.out.ext (ET Ew18.out Ew19.out)).rarg ((HZ1.out.mul (sz_small (z := q) (by omega) (by omega))).sub (sz_costV ((sz_small (z := q) (by omega) (by omega)).mono (by omega)))) (by omega)) (Ql.out.rarg (sz_small (z := u.idle) (by omega) (by omega)) (by omega)) (by omega)).mono ?_
 rintro e w20 ⟨sv, Av, nv, cv, tv, Bv, mv, dv, rfl, hQ, hE⟩
 have Ew20 := LH hE
 clear hE
 have Qv := LH hQ
 clear hQ
 have QV := Qv.out
 rw [show (((p * ((q : Int) : Rat)) - (costV u.steps ((q : Int) : Rat))) - ((u.idle : Int) : Rat)) = u.ownV p q from rfl] at QV
 have Qz := LH QV
 clear QV Qv
 have HXe := LH (inX_of_ext [] (ET Ew19.out Ew20.out))
 clear fcs0 fcs1 fcs2 fcs3 fu6
 obtain ⟨⟨e0, e1, e2, e3⟩, ⟨f0, f1, f2, f3⟩, el⟩ := (Kr.out.ext (ET Ew2.out (ET NJ1.out (ET Ew9.out (ET NJ2.out (ET Ew18.out (ET Ew19.out Ew20.out)))))))
 go_wp2_with fail
 refine And.intro HXe.out ?_
 refine lexAt_last (by rfl) (by kernel_rfl) (by kernel_rfl) ?_
 go_wp2_with fail
 refine And.intro trivial (lexAt_nil ?_)
 go_wp2_with fail
 refine bodyPost_ret (v := .agg #[.bool sv, .slice Av nv cv, .bool tv, .slice Bv mv dv]) (by simp [results, Tryz.results32, go_sem, e0, e1, e2, e3]) rfl ?_
 exact ⟨_, _, _, _, _, _, _, _, rfl, retQ_fill (by omega) (Nat.lt_of_lt_of_le Kr.out.2.2 (Nat.le_trans Ew2.out.size (Nat.le_trans Ew3.out.size (Nat.le_trans Ew4.out.size (Nat.le_trans Ew5.out.size (Nat.le_trans Ew6.out.size (Nat.le_trans Ew7.out.size (Nat.le_trans NZ1.out (Nat.le_trans Ew9.out.size (Nat.le_trans Ew10.out.size (Nat.le_trans Ew11.out.size (Nat.le_trans Ew12.out.size (Nat.le_trans Ew13.out.size (Nat.le_trans Ew14.out.size (Nat.le_trans Ew15.out.size (Nat.le_trans Ew16.out.size (Nat.le_trans NZ2.out (Nat.le_trans Ew18.out.size Ew19.out.size)))))))))))))))))) Qz.out (ET Ew1.out (ET Ew2.out (ET NJ1.out (ET Ew9.out (ET NJ2.out (ET Ew18.out (ET Ew19.out Ew20.out))))))) _ _ _ _⟩
set_option maxRecDepth 100000 in
theorem rwrong_any (u : U) (A : Option Addr) (n c : Nat) (R : Option Addr) (m d : Nat) (w : World) (hs : StepsAt w A n u.steps) (hn : n ≤ maxLen) (hm : m ≤ maxLen) :
  Calls Tryz.prog 37 #[u.val A n c, .slice R m d] w fun e w' => e = .returned (.int .i64 (u.pchk m)) ∧ Ext w w' := by
 unfold maxLen at hm
 go_enter Tryz.func37, Tryz.ntmps37
 go_wp2_with fail
 refine (rCheck_any u 6 A n c _ (hs.below (Ext.al Ext.rfl' _)) hn).mono ?_
 rintro e w1 ⟨rfl, hE⟩
 have hE1 : Ext w w1 := Ext.new hE
 clear hE
 have HV : Hid (u.pchk m = if u.check 6 ≠ 0 then u.check 6 else if 8 < m then 5 else 0) := rfl
 generalize u.check 6 = ck at *
 by_cases h0 : ck = 0
 ·subst h0
  by_cases h8 : 8 < m
  ·have hb : decide ((8 : Int) < (m : Int)) = true := by simp; omega
   have hb2 : decide (8 < m) = true := by simp; omega
   go_wp2_with fail
   go_ret
   exact ⟨ret_int (show (5 : Int) = u.pchk m by rw [HV.out, if_neg (by simp), if_pos h8]), hE1⟩
  ·have hb : decide ((8 : Int) < (m : Int)) = false := by simp; omega
   have hb2 : decide (8 < m) = false := by simp; omega
   go_wp2_with fail
   go_ret
   exact ⟨ret_int (show (0 : Int) = u.pchk m by rw [HV.out, if_neg (by simp), if_neg h8]), hE1⟩
 ·have hb : (ck != 0) = true := by simp [h0]
  have hb2 : (ck == 0) = false := by simp [h0]
  go_wp2_with fail
  go_ret
  exact ⟨ret_int (show ck = u.pchk m by rw [HV.out, if_pos h0]), hE1⟩
end Go.Proofs.YtjinpfnefeiooaaGreat
