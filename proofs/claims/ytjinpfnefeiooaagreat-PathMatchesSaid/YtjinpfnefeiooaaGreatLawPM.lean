/- A part of the proof. -/
import Derived.Test.YtjinpfnefeiooaaGreatConsQ
import Derived.Test.YtjinpfnefeiooaaGreatAwake27
import Derived.Test.YtjinpfnefeiooaaGreatRefPH
import Derived.Test.YtjinpfnefeiooaaGreatRefPr
namespace Go.Proofs.YtjinpfnefeiooaaGreat
open Go.RowKit

set_option maxRecDepth 100000 in
set_option maxHeartbeats 16000000 in
theorem pm_any (u : U) (A : Option Addr) (n c : Nat) (s1 : Bool) (A1 : Option Addr) (n1 c1 : Nat) (t1 : Bool) (B1 : Option Addr) (m1 d1 : Nat) (p : Rat) (P : Option Addr) (k cp : Nat) (ps : List Rat) (ln : Nat → Nat × Nat) (R : Option Addr) (m dR : Nat) (row : List Bool) (w : World) (hs : StepsAt w A n u.steps) (hn : n ≤ maxLen) (h1 : QIs w s1 A1 n1 c1 t1 B1 m1 d1 p) (hp : QsRaw w P k ps ln) (hby : (1 + k) * 64 ≤ 140737488355328) (hr : BoolsAt w R m row) (hm : m ≤ maxLen) :
  Calls Tryz.prog 3 #[u.val A n c, .agg #[.bool s1, .slice A1 n1 c1, .bool t1, .slice B1 m1 d1], .slice P k cp, .slice R m dR] w fun e w' => e = .returned (.bool true) ∧ Ext w w' := by
 have HBL : Hid (n1 ≤ maxLen ∧ m1 ≤ maxLen) := by
  obtain ⟨z, y, ⟨_, _, a1, a2, _⟩, ⟨_, _, a3, a4, _⟩, _⟩ := h1
  exact ⟨by omega, by omega⟩
 have hk1 : 1 + k ≤ maxLen := by unfold maxLen; omega
 have HK1 := LH hk1
 have HS := LH hs
 have HP := LH hp
 have HPL := LH hp.1
 have H1 := LH h1
 have HB := LH hr
 have HBY := LH hby
 clear hs hp h1 hr hby hk1
 go_enter Tryz.func3, Tryz.ntmps3
 go_wp2_with fail
 have k0 := UBox.new (w) (w.heap.size) (by simp) u A n c 24
 have k1 := Cell4.new ((w).alloc (.cells #[.int .i64 u.bus, .int .i64 u.mn, .slice A n c, .int .i64 u.up, .int .i64 u.down, .int .i64 u.start, .int .i64 u.idle, .int .i64 u.spin, .int .i64 u.on] 24)) (w.heap.size + 1) (by simp) (.bool s1) (.slice A1 n1 c1) (.bool t1) (.slice B1 m1 d1) 29
 have hE : Ext w (((w).alloc (.cells #[.int .i64 u.bus, .int .i64 u.mn, .slice A n c, .int .i64 u.up, .int .i64 u.down, .int .i64 u.start, .int .i64 u.idle, .int .i64 u.spin, .int .i64 u.on] 24)).alloc (.cells #[.bool s1, .slice A1 n1 c1, .bool t1, .slice B1 m1 d1] 29)) := (Ext.al (Ext.al Ext.rfl' _) _)
 have k0 := k0.ext (show Ext ((w).alloc (.cells #[.int .i64 u.bus, .int .i64 u.mn, .slice A n c, .int .i64 u.up, .int .i64 u.down, .int .i64 u.start, .int .i64 u.idle, .int .i64 u.spin, .int .i64 u.on] 24)) (((w).alloc (.cells #[.int .i64 u.bus, .int .i64 u.mn, .slice A n c, .int .i64 u.up, .int .i64 u.down, .int .i64 u.start, .int .i64 u.idle, .int .i64 u.spin, .int .i64 u.on] 24)).alloc (.cells #[.bool s1, .slice A1 n1 c1, .bool t1, .slice B1 m1 d1] 29)) from (Ext.al Ext.rfl' _))
 have hsz : (((w).alloc (.cells #[.int .i64 u.bus, .int .i64 u.mn, .slice A n c, .int .i64 u.up, .int .i64 u.down, .int .i64 u.start, .int .i64 u.idle, .int .i64 u.spin, .int .i64 u.on] 24)).alloc (.cells #[.bool s1, .slice A1 n1 c1, .bool t1, .slice B1 m1 d1] 29)).heap.size = w.heap.size + 1 + 1 := by simp
 generalize ((w).alloc (.cells #[.int .i64 u.bus, .int .i64 u.mn, .slice A n c, .int .i64 u.up, .int .i64 u.down, .int .i64 u.start, .int .i64 u.idle, .int .i64 u.spin, .int .i64 u.on] 24)).alloc (.cells #[.bool s1, .slice A1 n1 c1, .bool t1, .slice B1 m1 d1] 29) = w1 at *
 have SZw1 := LH hsz
 clear hsz
 have Ew1 := LH hE
 clear hE
 have Ku := LH k0
 clear k0
 have Kp := LH k1
 clear k1
 refine wp_region_lexS (C := InX w1.drew []) (by kernel_rfl) (by kernel_rfl) (inX_self _ _) ?_
 have hE : Ext w1 w1.drew := Ext.rfl'.drew
 generalize w1.drew = w2 at *
 have Ew2 := LH hE
 clear hE
 have fp0 := fun z : ExtX w2 [] => z.cell (p := ⟨w.heap.size + 1, 0, none⟩) (Kp.out.ext Ew2.out).1.1 (by simp)
 have fp1 := fun z : ExtX w2 [] => z.cell (p := ⟨w.heap.size + 1, 1, none⟩) (Kp.out.ext Ew2.out).1.2.1 (by simp)
 have fp2 := fun z : ExtX w2 [] => z.cell (p := ⟨w.heap.size + 1, 2, none⟩) (Kp.out.ext Ew2.out).1.2.2.1 (by simp)
 have fp3 := fun z : ExtX w2 [] => z.cell (p := ⟨w.heap.size + 1, 3, none⟩) (Kp.out.ext Ew2.out).1.2.2.2 (by simp)
 have fu0 := fun z : ExtX w2 [] => z.cell (p := ⟨w.heap.size, 0, none⟩) (Ku.out.ext Ew2.out).1 (by simp)
 have fu1 := fun z : ExtX w2 [] => z.cell (p := ⟨w.heap.size, 1, none⟩) (Ku.out.ext Ew2.out).2.1 (by simp)
 have fu2 := fun z : ExtX w2 [] => z.cell (p := ⟨w.heap.size, 2, none⟩) (Ku.out.ext Ew2.out).2.2.1 (by simp)
 have fu3 := fun z : ExtX w2 [] => z.cell (p := ⟨w.heap.size, 3, none⟩) (Ku.out.ext Ew2.out).2.2.2.1 (by simp)
 have fu4 := fun z : ExtX w2 [] => z.cell (p := ⟨w.heap.size, 4, none⟩) (Ku.out.ext Ew2.out).2.2.2.2.1 (by simp)
 have fu5 := fun z : ExtX w2 [] => z.cell (p := ⟨w.heap.size, 5, none⟩) (Ku.out.ext Ew2.out).2.2.2.2.2.1 (by simp)
 have fu6 := fun z : ExtX w2 [] => z.cell (p := ⟨w.heap.size, 6, none⟩) (Ku.out.ext Ew2.out).2.2.2.2.2.2.1 (by simp)
 have fu7 := fun z : ExtX w2 [] => z.cell (p := ⟨w.heap.size, 7, none⟩) (Ku.out.ext Ew2.out).2.2.2.2.2.2.2.1 (by simp)
 have fu8 := fun z : ExtX w2 [] => z.cell (p := ⟨w.heap.size, 8, none⟩) (Ku.out.ext Ew2.out).2.2.2.2.2.2.2.2 (by simp)
 repeat (refine lexAt_still (by rfl) ?_; go_big_quiet_step (fail); refine wpQuiet_nil ?_)
 refine lexAt_move (by rfl) (by kernel_rfl) ?_
 go_wp2_with fail
 refine And.intro (inX_of_ext _ (Ext.al (Ext.rfl' (w := w2)) _)) ?_
 repeat (refine lexAt_still (by rfl) ?_; go_big_quiet_step (fail); refine wpQuiet_nil ?_)
 refine lexAt_move (by rfl) (by kernel_rfl) ?_
 go_wp2_with (
  at_builtin
  refine wpList_cons_q w2 rfl (.tmp 21) (.tmp 22) rfl s1 A1 n1 c1 t1 B1 m1 d1 p P k cp ps ln rfl rfl (H1.out.ext (ET Ew1.out Ew2.out)) HBL.out.1 HBL.out.2 (HP.out.ext (ET Ew1.out Ew2.out)) HK1.out HBY.out ?_
  intro g cap w3 hraw hE
  have HRW := LH hraw
  clear hraw)
 have Ew3 := LH hE
 clear hE
 refine And.intro (inX_of_ext _ Ew3.out) ?_
 repeat (refine lexAt_still (by rfl) ?_; go_big_quiet_step (fail); refine wpQuiet_nil ?_)
 refine lexAt_move (by rfl) (by kernel_rfl) ?_
 go_wp2_with fail
 refine (long27_any u A n c (some ⟨g, 0, none⟩) (1 + k) cap (p :: ps) (lnCons n1 m1 ln) R m dR w3 HRW.out HK1.out).mono ?_
 rintro e w4 ⟨⟨bl, rfl, hbl⟩, hE⟩
 have Ew4 := LH hE
 clear hE
 go_wp2_with fail
 refine And.intro (inX_of_ext _ (ET Ew3.out Ew4.out)) ?_
 repeat (refine lexAt_still (by rfl) ?_; go_big_quiet_step (fail); refine wpQuiet_nil ?_)
 have HLN := LH hbl
 clear hbl
 refine lexAt_nil ?_
 clear fp0 fp1 fp2 fp3 fu0 fu1 fu2 fu3 fu4 fu5 fu6 fu7 fu8
 cases bl
 rotate_left
 ·skip
  go_wp2_with fail
  refine (awake_any w4).mono ?_
  rintro e wz ⟨rfl, hEz⟩
  go_wp2_with fail
  go_ret
  exact ⟨rfl, ET (ET Ew1.out (ET Ew2.out (ET Ew3.out Ew4.out))) hEz⟩
 obtain ⟨hn100, hm100, hk30, hl6⟩ := HLN.out rfl
 clear HLN
 have hl1 := hl6 0 (by omega)
 have hl2 : ∀ i, i < k → (ln i).1 ≤ 6 ∧ (ln i).2 ≤ 6 := fun i hi => by
  have := hl6 (i + 1) (by omega)
  unfold lnCons at this
  rw [if_neg (by omega)] at this
  exact this
 have lp1 : n1 ≤ 6 := hl1.1
 have lp2 : m1 ≤ 6 := hl1.2
 have HPA := LH (HP.out.at hl2)
 have HS6 : Hid (∀ i, i < ps.length → Sz 6 (ps.getD i 0)) := fun i hi => HP.out.sz6 hl2 (by rw [← HPL.out]; exact hi)
 have HZ1 : Hid (Sz 6 p) := H1.out.sz (by omega) (by omega) (by omega)
 have hkm : k ≤ maxLen := by unfold maxLen; omega
 clear hl6 hl1 hl2
 have HKM := LH hkm
 have HMM := LH hm
 clear hkm hm
 have zu := World.block_lt_of_cell? _ _ (Ku.out.ext (ET Ew2.out (ET Ew3.out Ew4.out))).1
 have xu0 := (Ku.out.ext (ET Ew2.out (ET Ew3.out Ew4.out))).1
 have xu1 := (Ku.out.ext (ET Ew2.out (ET Ew3.out Ew4.out))).2.1
 have xu2 := (Ku.out.ext (ET Ew2.out (ET Ew3.out Ew4.out))).2.2.1
 have xu3 := (Ku.out.ext (ET Ew2.out (ET Ew3.out Ew4.out))).2.2.2.1
 have xu4 := (Ku.out.ext (ET Ew2.out (ET Ew3.out Ew4.out))).2.2.2.2.1
 have xu5 := (Ku.out.ext (ET Ew2.out (ET Ew3.out Ew4.out))).2.2.2.2.2.1
 have xu6 := (Ku.out.ext (ET Ew2.out (ET Ew3.out Ew4.out))).2.2.2.2.2.2.1
 have xu7 := (Ku.out.ext (ET Ew2.out (ET Ew3.out Ew4.out))).2.2.2.2.2.2.2.1
 have xu8 := (Ku.out.ext (ET Ew2.out (ET Ew3.out Ew4.out))).2.2.2.2.2.2.2.2
 obtain ⟨⟨xp0, xp1, xp2, xp3⟩, -, zp⟩ := (Kp.out.ext (ET Ew2.out (ET Ew3.out Ew4.out)))
 go_wp2_with fail
 clear zu xu0 xu1 xu2 xu3 xu4 xu5 xu6 xu7 xu8 xp0 xp1 xp2 xp3 zp
 obtain ⟨hv, hhv⟩ : ∃ v, u.hqE p = v := ⟨_, rfl⟩
 obtain ⟨ck, hck⟩ : ∃ v, u.check 6 = v := ⟨_, rfl⟩
 obtain ⟨pe, hpe⟩ : ∃ v, u.profE ps row = v := ⟨_, rfl⟩
 have HHV := LH hhv
 have HCK := LH hck
 have HPE := LH hpe
 clear hhv hck hpe
 have e1 : (hv == hv) = true := by simp
 have e2 : (ck == ck) = true := by simp
 have e3 : (pe == pe) = true := by simp
 refine (hour_any u A n c s1 A1 n1 c1 t1 B1 m1 d1 p w4 (HS.out.below (ET Ew1.out (ET Ew2.out (ET Ew3.out Ew4.out)))) hn (H1.out.ext (ET Ew1.out (ET Ew2.out (ET Ew3.out Ew4.out)))) (by omega) (by omega)).mono ?_
 rintro e w5 ⟨sa, Aa, na, ca, ta, Ba, ma, da, rfl, hQ, hE⟩
 have Ew5 := LH hE
 clear hE
 have Qa := LH hQ
 clear hQ
 rw [HHV.out, HCK.out]
 have zu := World.block_lt_of_cell? _ _ (Ku.out.ext (ET Ew2.out (ET Ew3.out (ET Ew4.out Ew5.out)))).1
 have xu0 := (Ku.out.ext (ET Ew2.out (ET Ew3.out (ET Ew4.out Ew5.out)))).1
 have xu1 := (Ku.out.ext (ET Ew2.out (ET Ew3.out (ET Ew4.out Ew5.out)))).2.1
 have xu2 := (Ku.out.ext (ET Ew2.out (ET Ew3.out (ET Ew4.out Ew5.out)))).2.2.1
 have xu3 := (Ku.out.ext (ET Ew2.out (ET Ew3.out (ET Ew4.out Ew5.out)))).2.2.2.1
 have xu4 := (Ku.out.ext (ET Ew2.out (ET Ew3.out (ET Ew4.out Ew5.out)))).2.2.2.2.1
 have xu5 := (Ku.out.ext (ET Ew2.out (ET Ew3.out (ET Ew4.out Ew5.out)))).2.2.2.2.2.1
 have xu6 := (Ku.out.ext (ET Ew2.out (ET Ew3.out (ET Ew4.out Ew5.out)))).2.2.2.2.2.2.1
 have xu7 := (Ku.out.ext (ET Ew2.out (ET Ew3.out (ET Ew4.out Ew5.out)))).2.2.2.2.2.2.2.1
 have xu8 := (Ku.out.ext (ET Ew2.out (ET Ew3.out (ET Ew4.out Ew5.out)))).2.2.2.2.2.2.2.2
 obtain ⟨⟨xp0, xp1, xp2, xp3⟩, -, zp⟩ := (Kp.out.ext (ET Ew2.out (ET Ew3.out (ET Ew4.out Ew5.out))))
 go_wp2_with fail
 clear zu xu0 xu1 xu2 xu3 xu4 xu5 xu6 xu7 xu8 xp0 xp1 xp2 xp3 zp
 have kw6 := Cell4.new w5 _ rfl (.bool sa) (.slice Aa na ca) (.bool ta) (.slice Ba ma da) 29
 have hE : Ext w5 (w5.alloc (.cells #[.bool sa, .slice Aa na ca, .bool ta, .slice Ba ma da] 29)) := Ext.al Ext.rfl' _
 generalize w5.alloc (.cells #[.bool sa, .slice Aa na ca, .bool ta, .slice Ba ma da] 29) = w6 at *
 have Ew6 := LH hE
 clear hE
 have Ka := LH kw6
 clear kw6
 refine (rhour_any u A n c s1 A1 n1 c1 t1 B1 m1 d1 p w6 (HS.out.below (ET Ew1.out (ET Ew2.out (ET Ew3.out (ET Ew4.out (ET Ew5.out Ew6.out)))))) hn (H1.out.ext (ET Ew1.out (ET Ew2.out (ET Ew3.out (ET Ew4.out (ET Ew5.out Ew6.out)))))) (by omega) (by omega)).mono ?_
 rintro e w7 ⟨sb, Ab, nb, cb, tb, Bb, mb, db, rfl, hQ, hE⟩
 have Ew7 := LH hE
 clear hE
 have Qb := LH hQ
 clear hQ
 rw [HHV.out, HCK.out]
 have zu := World.block_lt_of_cell? _ _ (Ku.out.ext (ET Ew2.out (ET Ew3.out (ET Ew4.out (ET Ew5.out (ET Ew6.out Ew7.out)))))).1
 have xu0 := (Ku.out.ext (ET Ew2.out (ET Ew3.out (ET Ew4.out (ET Ew5.out (ET Ew6.out Ew7.out)))))).1
 have xu1 := (Ku.out.ext (ET Ew2.out (ET Ew3.out (ET Ew4.out (ET Ew5.out (ET Ew6.out Ew7.out)))))).2.1
 have xu2 := (Ku.out.ext (ET Ew2.out (ET Ew3.out (ET Ew4.out (ET Ew5.out (ET Ew6.out Ew7.out)))))).2.2.1
 have xu3 := (Ku.out.ext (ET Ew2.out (ET Ew3.out (ET Ew4.out (ET Ew5.out (ET Ew6.out Ew7.out)))))).2.2.2.1
 have xu4 := (Ku.out.ext (ET Ew2.out (ET Ew3.out (ET Ew4.out (ET Ew5.out (ET Ew6.out Ew7.out)))))).2.2.2.2.1
 have xu5 := (Ku.out.ext (ET Ew2.out (ET Ew3.out (ET Ew4.out (ET Ew5.out (ET Ew6.out Ew7.out)))))).2.2.2.2.2.1
 have xu6 := (Ku.out.ext (ET Ew2.out (ET Ew3.out (ET Ew4.out (ET Ew5.out (ET Ew6.out Ew7.out)))))).2.2.2.2.2.2.1
 have xu7 := (Ku.out.ext (ET Ew2.out (ET Ew3.out (ET Ew4.out (ET Ew5.out (ET Ew6.out Ew7.out)))))).2.2.2.2.2.2.2.1
 have xu8 := (Ku.out.ext (ET Ew2.out (ET Ew3.out (ET Ew4.out (ET Ew5.out (ET Ew6.out Ew7.out)))))).2.2.2.2.2.2.2.2
 go_wp2_with fail
 clear zu xu0 xu1 xu2 xu3 xu4 xu5 xu6 xu7 xu8
 have kw8 := Cell4.new w7 _ rfl (.bool sb) (.slice Ab nb cb) (.bool tb) (.slice Bb mb db) 29
 have hE : Ext w7 (w7.alloc (.cells #[.bool sb, .slice Ab nb cb, .bool tb, .slice Bb mb db] 29)) := Ext.al Ext.rfl' _
 generalize w7.alloc (.cells #[.bool sb, .slice Ab nb cb, .bool tb, .slice Bb mb db] 29) = w8 at *
 have Ew8 := LH hE
 clear hE
 have Kb := LH kw8
 clear kw8
 refine (profit_any u A n c P k cp ps R m dR row w8 (HS.out.below (ET Ew1.out (ET Ew2.out (ET Ew3.out (ET Ew4.out (ET Ew5.out (ET Ew6.out (ET Ew7.out Ew8.out)))))))) hn (HPA.out.ext (ET Ew1.out (ET Ew2.out (ET Ew3.out (ET Ew4.out (ET Ew5.out (ET Ew6.out (ET Ew7.out Ew8.out)))))))) HKM.out (HB.out.below (ET Ew1.out (ET Ew2.out (ET Ew3.out (ET Ew4.out (ET Ew5.out (ET Ew6.out (ET Ew7.out Ew8.out)))))))) HMM.out).mono ?_
 rintro e w9 ⟨sx, Ax, nx, cx, tx, Bx, mx, dx, rfl, hQ, hE⟩
 have Ew9 := LH hE
 clear hE
 have Qx := LH hQ
 clear hQ
 rw [HPE.out]
 have zu := World.block_lt_of_cell? _ _ (Ku.out.ext (ET Ew2.out (ET Ew3.out (ET Ew4.out (ET Ew5.out (ET Ew6.out (ET Ew7.out (ET Ew8.out Ew9.out)))))))).1
 have xu0 := (Ku.out.ext (ET Ew2.out (ET Ew3.out (ET Ew4.out (ET Ew5.out (ET Ew6.out (ET Ew7.out (ET Ew8.out Ew9.out)))))))).1
 have xu1 := (Ku.out.ext (ET Ew2.out (ET Ew3.out (ET Ew4.out (ET Ew5.out (ET Ew6.out (ET Ew7.out (ET Ew8.out Ew9.out)))))))).2.1
 have xu2 := (Ku.out.ext (ET Ew2.out (ET Ew3.out (ET Ew4.out (ET Ew5.out (ET Ew6.out (ET Ew7.out (ET Ew8.out Ew9.out)))))))).2.2.1
 have xu3 := (Ku.out.ext (ET Ew2.out (ET Ew3.out (ET Ew4.out (ET Ew5.out (ET Ew6.out (ET Ew7.out (ET Ew8.out Ew9.out)))))))).2.2.2.1
 have xu4 := (Ku.out.ext (ET Ew2.out (ET Ew3.out (ET Ew4.out (ET Ew5.out (ET Ew6.out (ET Ew7.out (ET Ew8.out Ew9.out)))))))).2.2.2.2.1
 have xu5 := (Ku.out.ext (ET Ew2.out (ET Ew3.out (ET Ew4.out (ET Ew5.out (ET Ew6.out (ET Ew7.out (ET Ew8.out Ew9.out)))))))).2.2.2.2.2.1
 have xu6 := (Ku.out.ext (ET Ew2.out (ET Ew3.out (ET Ew4.out (ET Ew5.out (ET Ew6.out (ET Ew7.out (ET Ew8.out Ew9.out)))))))).2.2.2.2.2.2.1
 have xu7 := (Ku.out.ext (ET Ew2.out (ET Ew3.out (ET Ew4.out (ET Ew5.out (ET Ew6.out (ET Ew7.out (ET Ew8.out Ew9.out)))))))).2.2.2.2.2.2.2.1
 have xu8 := (Ku.out.ext (ET Ew2.out (ET Ew3.out (ET Ew4.out (ET Ew5.out (ET Ew6.out (ET Ew7.out (ET Ew8.out Ew9.out)))))))).2.2.2.2.2.2.2.2
 go_wp2_with fail
 clear zu xu0 xu1 xu2 xu3 xu4 xu5 xu6 xu7 xu8
 have kw10 := Cell4.new w9 _ rfl (.bool sx) (.slice Ax nx cx) (.bool tx) (.slice Bx mx dx) 29
 have hE : Ext w9 (w9.alloc (.cells #[.bool sx, .slice Ax nx cx, .bool tx, .slice Bx mx dx] 29)) := Ext.al Ext.rfl' _
 generalize w9.alloc (.cells #[.bool sx, .slice Ax nx cx, .bool tx, .slice Bx mx dx] 29) = w10 at *
 have Ew10 := LH hE
 clear hE
 have Kx := LH kw10
 clear kw10
 refine (rProfit_any u A n c P k cp ps R m dR row w10 (HS.out.below (ET Ew1.out (ET Ew2.out (ET Ew3.out (ET Ew4.out (ET Ew5.out (ET Ew6.out (ET Ew7.out (ET Ew8.out (ET Ew9.out Ew10.out)))))))))) hn (HPA.out.ext (ET Ew1.out (ET Ew2.out (ET Ew3.out (ET Ew4.out (ET Ew5.out (ET Ew6.out (ET Ew7.out (ET Ew8.out (ET Ew9.out Ew10.out)))))))))) HKM.out (HB.out.below (ET Ew1.out (ET Ew2.out (ET Ew3.out (ET Ew4.out (ET Ew5.out (ET Ew6.out (ET Ew7.out (ET Ew8.out (ET Ew9.out Ew10.out)))))))))) HMM.out HS6.out).mono ?_
 rintro e w11 ⟨sy, Ay, ny, cy, ty, By, my, dy, rfl, hQ, hE⟩
 have Ew11 := LH hE
 clear hE
 have Qy := LH hQ
 clear hQ
 rw [HPE.out]
 obtain ⟨⟨xa0, xa1, xa2, xa3⟩, -, za⟩ := (Ka.out.ext (ET Ew7.out (ET Ew8.out (ET Ew9.out (ET Ew10.out Ew11.out)))))
 obtain ⟨⟨xb0, xb1, xb2, xb3⟩, -, zb⟩ := (Kb.out.ext (ET Ew9.out (ET Ew10.out Ew11.out)))
 go_wp2_with fail
 clear xa0 xa1 xa2 xa3 za xb0 xb1 xb2 xb3 zb
 have kw12 := Cell4.new w11 _ rfl (.bool sy) (.slice Ay ny cy) (.bool ty) (.slice By my dy) 29
 have hE : Ext w11 (w11.alloc (.cells #[.bool sy, .slice Ay ny cy, .bool ty, .slice By my dy] 29)) := Ext.al Ext.rfl' _
 generalize w11.alloc (.cells #[.bool sy, .slice Ay ny cy, .bool ty, .slice By my dy] 29) = w12 at *
 have Ew12 := LH hE
 clear hE
 have Ky := LH kw12
 clear kw12
 have hlx := (Qa.out.ext (ET Ew6.out (ET Ew7.out (ET Ew8.out (ET Ew9.out (ET Ew10.out (ET Ew11.out Ew12.out))))))).len (szC_hpE HZ1.out)
 refine (ris_any sa Aa na ca ta Ba ma da _ sb Ab nb cb tb Bb mb db _ _ _ w12 (Qa.out.ext (ET Ew6.out (ET Ew7.out (ET Ew8.out (ET Ew9.out (ET Ew10.out (ET Ew11.out Ew12.out))))))) (Qb.out.ext (ET Ew8.out (ET Ew9.out (ET Ew10.out (ET Ew11.out Ew12.out))))) (by omega) (by omega)).mono ?_
 rintro e w13 ⟨rfl, hE⟩
 rw [decide_eq_true rfl]
 clear hlx
 have Ew13 := LH hE
 clear hE
 obtain ⟨⟨xx0, xx1, xx2, xx3⟩, -, zx⟩ := (Kx.out.ext (ET Ew11.out (ET Ew12.out Ew13.out)))
 obtain ⟨⟨xy0, xy1, xy2, xy3⟩, -, zy⟩ := (Ky.out.ext Ew13.out)
 go_wp2_with fail
 clear xx0 xx1 xx2 xx3 zx xy0 xy1 xy2 xy3 zy
 have hlx := (Qx.out.ext (ET Ew10.out (ET Ew11.out (ET Ew12.out Ew13.out)))).len (sz_profV (fun i hi => (HS6.out i hi).mono (by omega)))
 refine (ris_any sx Ax nx cx tx Bx mx dx _ sy Ay ny cy ty By my dy _ _ _ w13 (Qx.out.ext (ET Ew10.out (ET Ew11.out (ET Ew12.out Ew13.out)))) (Qy.out.ext (ET Ew12.out Ew13.out)) (by omega) (by omega)).mono ?_
 rintro e w14 ⟨rfl, hE⟩
 rw [decide_eq_true rfl]
 clear hlx
 have Ew14 := LH hE
 clear hE
 go_wp2_with fail
 refine (awake_any w14).mono ?_
 rintro e wz ⟨rfl, hEz⟩
 go_wp2_with fail
 go_ret
 exact ⟨rfl, ET (ET Ew1.out (ET Ew2.out (ET Ew3.out (ET Ew4.out (ET Ew5.out (ET Ew6.out (ET Ew7.out (ET Ew8.out (ET Ew9.out (ET Ew10.out (ET Ew11.out (ET Ew12.out (ET Ew13.out Ew14.out))))))))))))) hEz⟩
end Go.Proofs.YtjinpfnefeiooaaGreat
