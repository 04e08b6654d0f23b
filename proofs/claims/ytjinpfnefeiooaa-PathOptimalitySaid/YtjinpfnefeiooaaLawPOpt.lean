/- The walk of the law PathOptimality. Printed by gen_popt.py. -/
import Derived.Test.YtjinpfnefeiooaaPathR
namespace Go.Proofs.Ytjinpfnefeiooaa
open Go.RowKit

set_option maxRecDepth 100000 in
set_option maxHeartbeats 16000000 in
theorem popt_any (u : U) (A : Option Addr) (n c : Nat) (P : Option Addr) (k cp : Nat) (ps : List Rat) (ln : Nat → Nat × Nat) (R : Option Addr) (m dR : Nat) (row : List Bool) (w : World) (hs : StepsAt w A n u.steps) (hn : n ≤ maxLen) (hp : QsRaw w P k ps ln) (hk : k ≤ maxLen) (hr : BoolsAt w R m row) (hm : m ≤ maxLen) :
    Calls Try.prog 4 #[u.val A n c, .slice P k cp, .slice R m dR] w fun e w' => e = .returned (.bool true) ∧ Ext w w' := by
  have HS := Lib.hid hs
  have HP := Lib.hid hp
  have HPL := Lib.hid hp.1
  clear hs hp
  have HR := Lib.hid hr
  have HRL := Lib.hid hr.1
  have HKM := Lib.hid hk
  clear hr
  go_enter Try.func4, Try.ntmps4
  go_wp2_with fail
  have k0 := UBox.new (w) (w.heap.size) (by simp) u A n c 24
  have hE : Ext w ((w).alloc (.cells #[.int .i64 u.bus, .int .i64 u.mn, .slice A n c, .int .i64 u.up, .int .i64 u.down, .int .i64 u.start, .int .i64 u.idle, .int .i64 u.spin, .int .i64 u.on] 24)) := (Ext.al Ext.rfl' _)
  have hsz : ((w).alloc (.cells #[.int .i64 u.bus, .int .i64 u.mn, .slice A n c, .int .i64 u.up, .int .i64 u.down, .int .i64 u.start, .int .i64 u.idle, .int .i64 u.spin, .int .i64 u.on] 24)).heap.size = w.heap.size + 1 := by simp
  generalize (w).alloc (.cells #[.int .i64 u.bus, .int .i64 u.mn, .slice A n c, .int .i64 u.up, .int .i64 u.down, .int .i64 u.start, .int .i64 u.idle, .int .i64 u.spin, .int .i64 u.on] 24) = w1 at *
  have SZw1 := Lib.hid hsz
  clear hsz
  have Ew1 := Lib.hid hE
  clear hE
  have Ku := Lib.hid k0
  clear k0
  refine (long27_any u A n c P k cp ps ln R m dR w1 (HP.out.ext Ew1.out) hk).mono ?_
  rintro e w2 ⟨⟨bl, rfl, hbl⟩, hE⟩
  have Ew2 := Lib.hid hE
  clear hE
  have HLN := Lib.hid hbl
  clear hbl
  cases bl
  rotate_left
  · skip
    go_wp2_with fail
    refine (awake_any w2).mono ?_
    rintro e wz ⟨rfl, hEz⟩
    go_wp2_with fail
    go_ret
    exact ⟨rfl, Ext.trans (Ext.trans Ew1.out Ew2.out) hEz⟩
  obtain ⟨hn100, hm100, hk30, hl6⟩ := HLN.out rfl
  clear HLN
  have HPA := Lib.hid (HP.out.at hl6)
  have HS6 : Hid (∀ i, i < k → Sz 6 (ps.getD i 0)) := fun i hi => HP.out.sz6 hl6 hi
  have HSZ : Hid (∀ i, i < ps.length → Sz 1000 (ps.getD i 0)) := fun i hi => (HS6.out i (by rw [← HPL.out]; exact hi)).mono (by omega)
  clear hl6
  go_wp2_with fail
  refine (awake_any w2).mono ?_
  rintro e w3 ⟨rfl, hE⟩
  have Ew3 := Lib.hid hE
  clear hE
  by_cases h0 : u.pchk ps.length = 0
  rotate_left
  · obtain ⟨ck, hck⟩ : ∃ v, u.pchk ps.length = v := ⟨_, rfl⟩
    have hb : (ck != 0) = true := by rw [← hck]; simp [h0]
    have hbb : (ck == ck) = true := by simp
    have HCK := Lib.hid hck
    have HNZ := Lib.hid h0
    have HPE : Hid (u.profE ps row = ck) := by unfold Hid U.profE; rw [if_pos h0, hck]
    clear h0 hck
    have zu := World.block_lt_of_cell? _ _ (Ku.out.ext (Ext.trans Ew2.out Ew3.out)).1
    have xu0 := (Ku.out.ext (Ext.trans Ew2.out Ew3.out)).1
    have xu1 := (Ku.out.ext (Ext.trans Ew2.out Ew3.out)).2.1
    have xu2 := (Ku.out.ext (Ext.trans Ew2.out Ew3.out)).2.2.1
    have xu3 := (Ku.out.ext (Ext.trans Ew2.out Ew3.out)).2.2.2.1
    have xu4 := (Ku.out.ext (Ext.trans Ew2.out Ew3.out)).2.2.2.2.1
    have xu5 := (Ku.out.ext (Ext.trans Ew2.out Ew3.out)).2.2.2.2.2.1
    have xu6 := (Ku.out.ext (Ext.trans Ew2.out Ew3.out)).2.2.2.2.2.2.1
    have xu7 := (Ku.out.ext (Ext.trans Ew2.out Ew3.out)).2.2.2.2.2.2.2.1
    have xu8 := (Ku.out.ext (Ext.trans Ew2.out Ew3.out)).2.2.2.2.2.2.2.2
    go_wp2_with fail
    clear zu xu0 xu1 xu2 xu3 xu4 xu5 xu6 xu7 xu8
    refine (best_any u A n c P k cp ps w3 (HS.out.below (Ext.trans Ew1.out (Ext.trans Ew2.out Ew3.out))) hn (HPA.out.ext (Ext.trans Ew1.out (Ext.trans Ew2.out Ew3.out))) HKM.out).mono ?_
    rintro e w4 ⟨vB, sx, Ax, nx, cx, tx, Bx, mx, dx, rfl, hQ, hE, hno, hrow⟩
    have Ew4 := Lib.hid hE
    clear hE
    obtain rfl := hno HNZ.out
    clear hno hrow
    rw [HCK.out]
    rw [bestV_bad HNZ.out] at hQ
    have Qx := Lib.hid hQ
    clear hQ
    have zu := World.block_lt_of_cell? _ _ (Ku.out.ext (Ext.trans Ew2.out (Ext.trans Ew3.out Ew4.out))).1
    have xu0 := (Ku.out.ext (Ext.trans Ew2.out (Ext.trans Ew3.out Ew4.out))).1
    have xu1 := (Ku.out.ext (Ext.trans Ew2.out (Ext.trans Ew3.out Ew4.out))).2.1
    have xu2 := (Ku.out.ext (Ext.trans Ew2.out (Ext.trans Ew3.out Ew4.out))).2.2.1
    have xu3 := (Ku.out.ext (Ext.trans Ew2.out (Ext.trans Ew3.out Ew4.out))).2.2.2.1
    have xu4 := (Ku.out.ext (Ext.trans Ew2.out (Ext.trans Ew3.out Ew4.out))).2.2.2.2.1
    have xu5 := (Ku.out.ext (Ext.trans Ew2.out (Ext.trans Ew3.out Ew4.out))).2.2.2.2.2.1
    have xu6 := (Ku.out.ext (Ext.trans Ew2.out (Ext.trans Ew3.out Ew4.out))).2.2.2.2.2.2.1
    have xu7 := (Ku.out.ext (Ext.trans Ew2.out (Ext.trans Ew3.out Ew4.out))).2.2.2.2.2.2.2.1
    have xu8 := (Ku.out.ext (Ext.trans Ew2.out (Ext.trans Ew3.out Ew4.out))).2.2.2.2.2.2.2.2
    go_wp2_with fail
    clear zu xu0 xu1 xu2 xu3 xu4 xu5 xu6 xu7 xu8
    have kw5 := Cell4.new w4 _ rfl (.bool sx) (.slice Ax nx cx) (.bool tx) (.slice Bx mx dx) 34
    have hE : Ext w4 (w4.alloc (.cells #[.bool sx, .slice Ax nx cx, .bool tx, .slice Bx mx dx] 34)) := Ext.al Ext.rfl' _
    generalize w4.alloc (.cells #[.bool sx, .slice Ax nx cx, .bool tx, .slice Bx mx dx] 34) = w5 at *
    have Ew5 := Lib.hid hE
    clear hE
    have Kx := Lib.hid kw5
    clear kw5
    refine (profit_any u A n c P k cp ps R m dR row w5 (HS.out.below (Ext.trans Ew1.out (Ext.trans Ew2.out (Ext.trans Ew3.out (Ext.trans Ew4.out Ew5.out))))) hn (HPA.out.ext (Ext.trans Ew1.out (Ext.trans Ew2.out (Ext.trans Ew3.out (Ext.trans Ew4.out Ew5.out))))) HKM.out (HR.out.below (Ext.trans Ew1.out (Ext.trans Ew2.out (Ext.trans Ew3.out (Ext.trans Ew4.out Ew5.out))))) hm).mono ?_
    rintro e w6 ⟨sy, Ay, ny, cy, ty, By, my, dy, rfl, hQ, hE⟩
    have Ew6 := Lib.hid hE
    clear hE
    have Qy := Lib.hid hQ
    clear hQ
    rw [HPE.out]
    go_wp2_with fail
    go_ret
    exact ⟨rfl, Ext.al (Ext.trans Ew1.out (Ext.trans Ew2.out (Ext.trans Ew3.out (Ext.trans Ew4.out (Ext.trans Ew5.out Ew6.out))))) _⟩
  have HC0 := Lib.hid h0
  have HBF := Lib.hid (best_facts h0)
  clear h0
  have zu := World.block_lt_of_cell? _ _ (Ku.out.ext (Ext.trans Ew2.out Ew3.out)).1
  have xu0 := (Ku.out.ext (Ext.trans Ew2.out Ew3.out)).1
  have xu1 := (Ku.out.ext (Ext.trans Ew2.out Ew3.out)).2.1
  have xu2 := (Ku.out.ext (Ext.trans Ew2.out Ew3.out)).2.2.1
  have xu3 := (Ku.out.ext (Ext.trans Ew2.out Ew3.out)).2.2.2.1
  have xu4 := (Ku.out.ext (Ext.trans Ew2.out Ew3.out)).2.2.2.2.1
  have xu5 := (Ku.out.ext (Ext.trans Ew2.out Ew3.out)).2.2.2.2.2.1
  have xu6 := (Ku.out.ext (Ext.trans Ew2.out Ew3.out)).2.2.2.2.2.2.1
  have xu7 := (Ku.out.ext (Ext.trans Ew2.out Ew3.out)).2.2.2.2.2.2.2.1
  have xu8 := (Ku.out.ext (Ext.trans Ew2.out Ew3.out)).2.2.2.2.2.2.2.2
  go_wp2_with fail
  clear zu xu0 xu1 xu2 xu3 xu4 xu5 xu6 xu7 xu8
  refine (best_any u A n c P k cp ps w3 (HS.out.below (Ext.trans Ew1.out (Ext.trans Ew2.out Ew3.out))) hn (HPA.out.ext (Ext.trans Ew1.out (Ext.trans Ew2.out Ew3.out))) HKM.out).mono ?_
  rintro e w7 ⟨vB, sx, Ax, nx, cx, tx, Bx, mx, dx, rfl, hQ, hE, hno, hrow⟩
  have Ew7 := Lib.hid hE
  clear hE
  obtain ⟨gB, rfl, hgB0, hRB, hcB⟩ := hrow HC0.out
  clear hno hrow
  rw [HC0.out, HPL.out]
  rw [HPL.out] at hRB hcB
  have HBB := Lib.hid (best_bools ((best_facts HC0.out).2.2.2.trans HPL.out) hRB hcB)
  have Qx := Lib.hid hQ
  clear hRB hcB hQ hgB0
  have zu := World.block_lt_of_cell? _ _ (Ku.out.ext (Ext.trans Ew2.out (Ext.trans Ew3.out Ew7.out))).1
  have xu0 := (Ku.out.ext (Ext.trans Ew2.out (Ext.trans Ew3.out Ew7.out))).1
  have xu1 := (Ku.out.ext (Ext.trans Ew2.out (Ext.trans Ew3.out Ew7.out))).2.1
  have xu2 := (Ku.out.ext (Ext.trans Ew2.out (Ext.trans Ew3.out Ew7.out))).2.2.1
  have xu3 := (Ku.out.ext (Ext.trans Ew2.out (Ext.trans Ew3.out Ew7.out))).2.2.2.1
  have xu4 := (Ku.out.ext (Ext.trans Ew2.out (Ext.trans Ew3.out Ew7.out))).2.2.2.2.1
  have xu5 := (Ku.out.ext (Ext.trans Ew2.out (Ext.trans Ew3.out Ew7.out))).2.2.2.2.2.1
  have xu6 := (Ku.out.ext (Ext.trans Ew2.out (Ext.trans Ew3.out Ew7.out))).2.2.2.2.2.2.1
  have xu7 := (Ku.out.ext (Ext.trans Ew2.out (Ext.trans Ew3.out Ew7.out))).2.2.2.2.2.2.2.1
  have xu8 := (Ku.out.ext (Ext.trans Ew2.out (Ext.trans Ew3.out Ew7.out))).2.2.2.2.2.2.2.2
  go_wp2_with fail
  clear zu xu0 xu1 xu2 xu3 xu4 xu5 xu6 xu7 xu8
  have kw8 := Cell4.new w7 _ rfl (.bool sx) (.slice Ax nx cx) (.bool tx) (.slice Bx mx dx) 34
  have hE : Ext w7 (w7.alloc (.cells #[.bool sx, .slice Ax nx cx, .bool tx, .slice Bx mx dx] 34)) := Ext.al Ext.rfl' _
  generalize w7.alloc (.cells #[.bool sx, .slice Ax nx cx, .bool tx, .slice Bx mx dx] 34) = w8 at *
  have Ew8 := Lib.hid hE
  clear hE
  have Kx := Lib.hid kw8
  clear kw8
  refine (profit_any u A n c P k cp ps R m dR row w8 (HS.out.below (Ext.trans Ew1.out (Ext.trans Ew2.out (Ext.trans Ew3.out (Ext.trans Ew7.out Ew8.out))))) hn (HPA.out.ext (Ext.trans Ew1.out (Ext.trans Ew2.out (Ext.trans Ew3.out (Ext.trans Ew7.out Ew8.out))))) HKM.out (HR.out.below (Ext.trans Ew1.out (Ext.trans Ew2.out (Ext.trans Ew3.out (Ext.trans Ew7.out Ew8.out))))) hm).mono ?_
  rintro e w9 ⟨sy, Ay, ny, cy, ty, By, my, dy, rfl, hQ, hE⟩
  have Ew9 := Lib.hid hE
  clear hE
  have Qy := Lib.hid hQ
  clear hQ
  obtain ⟨pe, hpe⟩ : ∃ v, u.profE ps row = v := ⟨_, rfl⟩
  rw [hpe]
  have HPE := Lib.hid hpe
  clear hpe
  have zu := World.block_lt_of_cell? _ _ (Ku.out.ext (Ext.trans Ew2.out (Ext.trans Ew3.out (Ext.trans Ew7.out (Ext.trans Ew8.out Ew9.out))))).1
  have xu0 := (Ku.out.ext (Ext.trans Ew2.out (Ext.trans Ew3.out (Ext.trans Ew7.out (Ext.trans Ew8.out Ew9.out))))).1
  have xu1 := (Ku.out.ext (Ext.trans Ew2.out (Ext.trans Ew3.out (Ext.trans Ew7.out (Ext.trans Ew8.out Ew9.out))))).2.1
  have xu2 := (Ku.out.ext (Ext.trans Ew2.out (Ext.trans Ew3.out (Ext.trans Ew7.out (Ext.trans Ew8.out Ew9.out))))).2.2.1
  have xu3 := (Ku.out.ext (Ext.trans Ew2.out (Ext.trans Ew3.out (Ext.trans Ew7.out (Ext.trans Ew8.out Ew9.out))))).2.2.2.1
  have xu4 := (Ku.out.ext (Ext.trans Ew2.out (Ext.trans Ew3.out (Ext.trans Ew7.out (Ext.trans Ew8.out Ew9.out))))).2.2.2.2.1
  have xu5 := (Ku.out.ext (Ext.trans Ew2.out (Ext.trans Ew3.out (Ext.trans Ew7.out (Ext.trans Ew8.out Ew9.out))))).2.2.2.2.2.1
  have xu6 := (Ku.out.ext (Ext.trans Ew2.out (Ext.trans Ew3.out (Ext.trans Ew7.out (Ext.trans Ew8.out Ew9.out))))).2.2.2.2.2.2.1
  have xu7 := (Ku.out.ext (Ext.trans Ew2.out (Ext.trans Ew3.out (Ext.trans Ew7.out (Ext.trans Ew8.out Ew9.out))))).2.2.2.2.2.2.2.1
  have xu8 := (Ku.out.ext (Ext.trans Ew2.out (Ext.trans Ew3.out (Ext.trans Ew7.out (Ext.trans Ew8.out Ew9.out))))).2.2.2.2.2.2.2.2
  go_wp2_with fail
  clear zu xu0 xu1 xu2 xu3 xu4 xu5 xu6 xu7 xu8
  have kw10 := Cell4.new w9 _ rfl (.bool sy) (.slice Ay ny cy) (.bool ty) (.slice By my dy) 34
  have hE : Ext w9 (w9.alloc (.cells #[.bool sy, .slice Ay ny cy, .bool ty, .slice By my dy] 34)) := Ext.al Ext.rfl' _
  generalize w9.alloc (.cells #[.bool sy, .slice Ay ny cy, .bool ty, .slice By my dy] 34) = w10 at *
  have Ew10 := Lib.hid hE
  clear hE
  have Ky := Lib.hid kw10
  clear kw10
  refine (profit_any u A n c P k cp ps (some ⟨gB, 0, none⟩) k k (u.path ps u.init) w10 (HS.out.below (Ext.trans Ew1.out (Ext.trans Ew2.out (Ext.trans Ew3.out (Ext.trans Ew7.out (Ext.trans Ew8.out (Ext.trans Ew9.out Ew10.out))))))) hn (HPA.out.ext (Ext.trans Ew1.out (Ext.trans Ew2.out (Ext.trans Ew3.out (Ext.trans Ew7.out (Ext.trans Ew8.out (Ext.trans Ew9.out Ew10.out))))))) HKM.out (HBB.out.below (Ext.trans Ew8.out (Ext.trans Ew9.out Ew10.out))) HKM.out).mono ?_
  rintro e w11 ⟨sz, Az, nz, cz, tz, Bz, mz, dz, rfl, hQ, hE⟩
  have Ew11 := Lib.hid hE
  clear hE
  rw [HBF.out.1]
  rw [HBF.out.2.1] at hQ
  have Qz := Lib.hid hQ
  clear hQ
  obtain ⟨⟨xx0, xx1, xx2, xx3⟩, -, zx⟩ := (Kx.out.ext (Ext.trans Ew9.out (Ext.trans Ew10.out Ew11.out)))
  go_wp2_with fail
  clear xx0 xx1 xx2 xx3 zx
  have kw12 := Cell4.new w11 _ rfl (.bool sz) (.slice Az nz cz) (.bool tz) (.slice Bz mz dz) 34
  have hE : Ext w11 (w11.alloc (.cells #[.bool sz, .slice Az nz cz, .bool tz, .slice Bz mz dz] 34)) := Ext.al Ext.rfl' _
  generalize w11.alloc (.cells #[.bool sz, .slice Az nz cz, .bool tz, .slice Bz mz dz] 34) = w12 at *
  have Ew12 := Lib.hid hE
  clear hE
  have Kz := Lib.hid kw12
  clear kw12
  refine (qequal_any sz Az nz cz tz Bz mz dz _ sx Ax nx cx tx Bx mx dx _ w12 ((Qz.out.ext Ew12.out).arg (sz_bestV HSZ.out) (by omega)) ((Qx.out.ext (Ext.trans Ew8.out (Ext.trans Ew9.out (Ext.trans Ew10.out (Ext.trans Ew11.out Ew12.out))))).arg (sz_bestV HSZ.out) (by omega))).mono ?_
  rintro e w13 ⟨rfl, hE⟩
  have Ew13 := Lib.hid hE
  clear hE
  rw [decide_eq_true rfl]
  have hkk : ((k : Int) != (k : Int)) = false := by simp
  have hkk2 : (k != k) = false := by simp
  have zu := World.block_lt_of_cell? _ _ (Ku.out.ext (Ext.trans Ew2.out (Ext.trans Ew3.out (Ext.trans Ew7.out (Ext.trans Ew8.out (Ext.trans Ew9.out (Ext.trans Ew10.out (Ext.trans Ew11.out (Ext.trans Ew12.out Ew13.out))))))))).1
  have xu0 := (Ku.out.ext (Ext.trans Ew2.out (Ext.trans Ew3.out (Ext.trans Ew7.out (Ext.trans Ew8.out (Ext.trans Ew9.out (Ext.trans Ew10.out (Ext.trans Ew11.out (Ext.trans Ew12.out Ew13.out))))))))).1
  have xu1 := (Ku.out.ext (Ext.trans Ew2.out (Ext.trans Ew3.out (Ext.trans Ew7.out (Ext.trans Ew8.out (Ext.trans Ew9.out (Ext.trans Ew10.out (Ext.trans Ew11.out (Ext.trans Ew12.out Ew13.out))))))))).2.1
  have xu2 := (Ku.out.ext (Ext.trans Ew2.out (Ext.trans Ew3.out (Ext.trans Ew7.out (Ext.trans Ew8.out (Ext.trans Ew9.out (Ext.trans Ew10.out (Ext.trans Ew11.out (Ext.trans Ew12.out Ew13.out))))))))).2.2.1
  have xu3 := (Ku.out.ext (Ext.trans Ew2.out (Ext.trans Ew3.out (Ext.trans Ew7.out (Ext.trans Ew8.out (Ext.trans Ew9.out (Ext.trans Ew10.out (Ext.trans Ew11.out (Ext.trans Ew12.out Ew13.out))))))))).2.2.2.1
  have xu4 := (Ku.out.ext (Ext.trans Ew2.out (Ext.trans Ew3.out (Ext.trans Ew7.out (Ext.trans Ew8.out (Ext.trans Ew9.out (Ext.trans Ew10.out (Ext.trans Ew11.out (Ext.trans Ew12.out Ew13.out))))))))).2.2.2.2.1
  have xu5 := (Ku.out.ext (Ext.trans Ew2.out (Ext.trans Ew3.out (Ext.trans Ew7.out (Ext.trans Ew8.out (Ext.trans Ew9.out (Ext.trans Ew10.out (Ext.trans Ew11.out (Ext.trans Ew12.out Ew13.out))))))))).2.2.2.2.2.1
  have xu6 := (Ku.out.ext (Ext.trans Ew2.out (Ext.trans Ew3.out (Ext.trans Ew7.out (Ext.trans Ew8.out (Ext.trans Ew9.out (Ext.trans Ew10.out (Ext.trans Ew11.out (Ext.trans Ew12.out Ew13.out))))))))).2.2.2.2.2.2.1
  have xu7 := (Ku.out.ext (Ext.trans Ew2.out (Ext.trans Ew3.out (Ext.trans Ew7.out (Ext.trans Ew8.out (Ext.trans Ew9.out (Ext.trans Ew10.out (Ext.trans Ew11.out (Ext.trans Ew12.out Ew13.out))))))))).2.2.2.2.2.2.2.1
  have xu8 := (Ku.out.ext (Ext.trans Ew2.out (Ext.trans Ew3.out (Ext.trans Ew7.out (Ext.trans Ew8.out (Ext.trans Ew9.out (Ext.trans Ew10.out (Ext.trans Ew11.out (Ext.trans Ew12.out Ew13.out))))))))).2.2.2.2.2.2.2.2
  go_wp2_with fail
  clear zu xu0 xu1 xu2 xu3 xu4 xu5 xu6 xu7 xu8
  refine (feasible_any u A n c (some ⟨gB, 0, none⟩) k k (u.path ps u.init) w13 (HS.out.below (Ext.trans Ew1.out (Ext.trans Ew2.out (Ext.trans Ew3.out (Ext.trans Ew7.out (Ext.trans Ew8.out (Ext.trans Ew9.out (Ext.trans Ew10.out (Ext.trans Ew11.out (Ext.trans Ew12.out Ew13.out)))))))))) hn (HBB.out.below (Ext.trans Ew8.out (Ext.trans Ew9.out (Ext.trans Ew10.out (Ext.trans Ew11.out (Ext.trans Ew12.out Ew13.out)))))) HKM.out).mono ?_
  rintro e w14 ⟨rfl, hE⟩
  have Ew14 := Lib.hid hE
  clear hE
  rw [HBF.out.2.2.1]
  by_cases hp0 : pe = 0
  rotate_left
  · have hb : (pe != 0) = true := by simp [hp0]
    have h3 : pe = 3 := by rw [← HPE.out]; exact prof_bad HC0.out (by rw [HPE.out]; exact hp0)
    subst h3
    clear hp0
    go_wp2_with fail
    go_ret
    exact ⟨rfl, (Ext.trans Ew1.out (Ext.trans Ew2.out (Ext.trans Ew3.out (Ext.trans Ew7.out (Ext.trans Ew8.out (Ext.trans Ew9.out (Ext.trans Ew10.out (Ext.trans Ew11.out (Ext.trans Ew12.out (Ext.trans Ew13.out Ew14.out))))))))))⟩
  subst hp0
  have HOP := Lib.hid (popt_facts HPE.out)
  have HMK : Hid (m = k) := by unfold Hid; rw [← HRL.out, ← HPL.out]; exact (prof_parts HPE.out).2.1
  obtain rfl := HMK.out
  clear HMK
  obtain ⟨⟨xy0, xy1, xy2, xy3⟩, -, zy⟩ := (Ky.out.ext (Ext.trans Ew11.out (Ext.trans Ew12.out (Ext.trans Ew13.out Ew14.out))))
  obtain ⟨⟨xx0, xx1, xx2, xx3⟩, -, zx⟩ := (Kx.out.ext (Ext.trans Ew9.out (Ext.trans Ew10.out (Ext.trans Ew11.out (Ext.trans Ew12.out (Ext.trans Ew13.out Ew14.out))))))
  go_wp2_with fail
  clear xy0 xy1 xy2 xy3 zy xx0 xx1 xx2 xx3 zx
  refine (qcmp_any sy Ay ny cy ty By my dy _ sx Ax nx cx tx Bx mx dx _ w14 ((Qy.out.ext (Ext.trans Ew10.out (Ext.trans Ew11.out (Ext.trans Ew12.out (Ext.trans Ew13.out Ew14.out))))).arg (sz_profV HSZ.out) (by omega)) ((Qx.out.ext (Ext.trans Ew8.out (Ext.trans Ew9.out (Ext.trans Ew10.out (Ext.trans Ew11.out (Ext.trans Ew12.out (Ext.trans Ew13.out Ew14.out))))))).arg (sz_bestV HSZ.out) (by omega))).mono ?_
  rintro e w15 ⟨rfl, hE⟩
  have Ew15 := Lib.hid hE
  clear hE
  obtain ⟨cm, hcm⟩ : ∃ x, cmpQ ((u.profV ps row)) ((u.bestV ps)) = x := ⟨_, rfl⟩
  rw [hcm]
  have Hcm := Lib.hid hcm
  clear hcm
  have hcm : decide (cm ≤ 0) = true := by
    have : ¬ 0 < cm := by rw [← Hcm.out]; exact fun e => Rat.not_lt.2 HOP.out.1 ((cmpQ_pos _ _).1 e)
    simp; omega
  have HLX : Hid (cm = 0 → lexAfter row (u.path ps u.init)) := fun e => HOP.out.2 ((cmp_is _ _).2.2.1 (Hcm.out.trans e))
  unfold maxLen at hm
  go_wp2_with fail
  go_loopw [15] (fun i wr => ∃ q : Nat, q ≤ m ∧ i = .int .i64 q ∧ Hid (Ext w15 wr) ∧ Hid (cm = 0 → ∀ j, j < q → row.getD j false = (u.path ps u.init).getD j false)) (fun i _ => m - (intOf i).toNat)
  case atStart => exact ⟨0, by omega, rfl, Ext.rfl', fun _ j hj => by omega⟩
  case round =>
    obtain ⟨q, hq, rfl, HEr, HJ⟩ := hrel
    by_cases hlt : q < m ∧ cm = 0
    rotate_left
    · have hb : (decide ((q : Int) < (m : Int)) && (cm == 0)) = false := by
        rw [Bool.and_eq_false_iff]
        by_cases h1 : q < m
        · right; simp; exact fun e => hlt ⟨h1, e⟩
        · left; simp; omega
      by_cases h1 : q < m
      · have hb1 : decide ((q : Int) < (m : Int)) = true := by simp; omega
        have hb2 : decide (q < m) = true := by simp; omega
        have hb3 : (cm == 0) = false := by simp; exact fun e => hlt ⟨h1, e⟩
        clear hlt hb
        go_wp2_with fail
        go_ret
        exact ⟨rfl, (Ext.trans Ew1.out (Ext.trans Ew2.out (Ext.trans Ew3.out (Ext.trans Ew7.out (Ext.trans Ew8.out (Ext.trans Ew9.out (Ext.trans Ew10.out (Ext.trans Ew11.out (Ext.trans Ew12.out (Ext.trans Ew13.out (Ext.trans Ew14.out (Ext.trans Ew15.out HEr.out))))))))))))⟩
      have hb1 : decide ((q : Int) < (m : Int)) = false := by simp; omega
      have hb2 : decide (q < m) = false := by simp; omega
      clear hlt hb
      go_wp2_with fail
      go_ret
      exact ⟨rfl, (Ext.trans Ew1.out (Ext.trans Ew2.out (Ext.trans Ew3.out (Ext.trans Ew7.out (Ext.trans Ew8.out (Ext.trans Ew9.out (Ext.trans Ew10.out (Ext.trans Ew11.out (Ext.trans Ew12.out (Ext.trans Ew13.out (Ext.trans Ew14.out (Ext.trans Ew15.out HEr.out))))))))))))⟩
    obtain ⟨hqm, hc0⟩ := hlt
    have hb1 : decide ((q : Int) < (m : Int)) = true := by simp; omega
    have hb2 : decide (q < m) = true := by simp; omega
    have hb3 : (cm == 0) = true := by simp; exact hc0
    have hz0 : (0 : Int) ≤ (q : Int) := by omega
    have hzn : (q : Int) < (m : Int) := by omega
    have HC := Lib.hid hc0
    clear hc0
    obtain ⟨bR, oR, hR, hbR, hcR⟩ := HR.out.2 (by omega)
    subst hR
    have HCR := Lib.hid (hcR q hqm)
    clear hcR hbR
    obtain ⟨b9, o9, h9, -, hcB⟩ := (HBB.out.below (Ext.trans Ew8.out (Ext.trans Ew9.out (Ext.trans Ew10.out (Ext.trans Ew11.out (Ext.trans Ew12.out (Ext.trans Ew13.out (Ext.trans Ew14.out (Ext.trans Ew15.out HEr.out))))))))).2 (by omega)
    injection h9 with h9
    injection h9 with h91 h92
    subst h91 h92
    have hcb := hcB q hqm
    rw [Nat.zero_add] at hcb
    have HCB := Lib.hid hcb
    clear hcB hcb
    have HSTEP : Hid (row.getD q false = (u.path ps u.init).getD q false → ∀ j, j < q + 1 → row.getD j false = (u.path ps u.init).getD j false) := fun e j hj => by
      by_cases hjq : j = q
      · rw [hjq]; exact e
      · exact HJ.out HC.out j (by omega)
    have HTRUE : Hid (row.getD q false ≠ (u.path ps u.init).getD q false → row.getD q false = true) := fun e => lex_at (HLX.out HC.out) ((prof_parts HPE.out).2.1.trans HBF.out.2.2.2.symm) (by rw [HRL.out]; exact hqm) (HJ.out HC.out) e
    generalize row.getD q false = rb at *
    generalize (u.path ps u.init).getD q false = pb at *
    cases rb
    · cases pb
      · skip
        go_wp2_with fail
        refine wp_region_lexS (C := InX wr.drew []) (by kernel_rfl) (by kernel_rfl) (inX_self _ _) ?_
        have hE : Ext wr wr.drew := Ext.rfl'.drew
        generalize wr.drew = w16 at *
        have Ew16 := Lib.hid hE
        clear hE
        have fr0 := fun z : ExtX w16 [] => z.cell (p := ⟨bR, oR + q, none⟩) (Ext.cellOf (Ext.trans Ew1.out (Ext.trans Ew2.out (Ext.trans Ew3.out (Ext.trans Ew7.out (Ext.trans Ew8.out (Ext.trans Ew9.out (Ext.trans Ew10.out (Ext.trans Ew11.out (Ext.trans Ew12.out (Ext.trans Ew13.out (Ext.trans Ew14.out (Ext.trans Ew15.out (Ext.trans HEr.out Ew16.out))))))))))))) HCR.out) (by simp)
        have fb0 := fun z : ExtX w16 [] => z.cell (p := ⟨gB, q, none⟩) (Ext.cellOf Ew16.out HCB.out) (by simp)
        repeat (refine lexAt_still (by rfl) ?_; go_big_quiet_step (fail); refine wpQuiet_nil ?_)
        refine lexAt_nil ?_
        clear fr0 fb0
        go_wp2_with fail
        go_roundw
        case rel => exact ⟨q + 1, by omega, by go_num, (Ext.trans HEr.out Ew16.out), fun _ => HSTEP.out (by trivial)⟩
        case measure => simp [intOf]; omega
      · exact absurd (HTRUE.out (by decide)) (by decide)
    · cases pb
      · skip
        go_wp2_with fail
        refine wp_region_lexS (C := InX wr.drew []) (by kernel_rfl) (by kernel_rfl) (inX_self _ _) ?_
        have hE : Ext wr wr.drew := Ext.rfl'.drew
        generalize wr.drew = w17 at *
        have Ew17 := Lib.hid hE
        clear hE
        have fr0 := fun z : ExtX w17 [] => z.cell (p := ⟨bR, oR + q, none⟩) (Ext.cellOf (Ext.trans Ew1.out (Ext.trans Ew2.out (Ext.trans Ew3.out (Ext.trans Ew7.out (Ext.trans Ew8.out (Ext.trans Ew9.out (Ext.trans Ew10.out (Ext.trans Ew11.out (Ext.trans Ew12.out (Ext.trans Ew13.out (Ext.trans Ew14.out (Ext.trans Ew15.out (Ext.trans HEr.out Ew17.out))))))))))))) HCR.out) (by simp)
        have fb0 := fun z : ExtX w17 [] => z.cell (p := ⟨gB, q, none⟩) (Ext.cellOf Ew17.out HCB.out) (by simp)
        repeat (refine lexAt_still (by rfl) ?_; go_big_quiet_step (fail); refine wpQuiet_nil ?_)
        refine lexAt_nil ?_
        clear fr0 fb0
        have xr := Ext.cellOf (Ext.trans Ew1.out (Ext.trans Ew2.out (Ext.trans Ew3.out (Ext.trans Ew7.out (Ext.trans Ew8.out (Ext.trans Ew9.out (Ext.trans Ew10.out (Ext.trans Ew11.out (Ext.trans Ew12.out (Ext.trans Ew13.out (Ext.trans Ew14.out (Ext.trans Ew15.out (Ext.trans HEr.out Ew17.out))))))))))))) HCR.out
        go_wp2_with fail
        go_ret
        exact ⟨rfl, (Ext.trans Ew1.out (Ext.trans Ew2.out (Ext.trans Ew3.out (Ext.trans Ew7.out (Ext.trans Ew8.out (Ext.trans Ew9.out (Ext.trans Ew10.out (Ext.trans Ew11.out (Ext.trans Ew12.out (Ext.trans Ew13.out (Ext.trans Ew14.out (Ext.trans Ew15.out (Ext.trans HEr.out Ew17.out)))))))))))))⟩
      · skip
        go_wp2_with fail
        refine wp_region_lexS (C := InX wr.drew []) (by kernel_rfl) (by kernel_rfl) (inX_self _ _) ?_
        have hE : Ext wr wr.drew := Ext.rfl'.drew
        generalize wr.drew = w18 at *
        have Ew18 := Lib.hid hE
        clear hE
        have fr0 := fun z : ExtX w18 [] => z.cell (p := ⟨bR, oR + q, none⟩) (Ext.cellOf (Ext.trans Ew1.out (Ext.trans Ew2.out (Ext.trans Ew3.out (Ext.trans Ew7.out (Ext.trans Ew8.out (Ext.trans Ew9.out (Ext.trans Ew10.out (Ext.trans Ew11.out (Ext.trans Ew12.out (Ext.trans Ew13.out (Ext.trans Ew14.out (Ext.trans Ew15.out (Ext.trans HEr.out Ew18.out))))))))))))) HCR.out) (by simp)
        have fb0 := fun z : ExtX w18 [] => z.cell (p := ⟨gB, q, none⟩) (Ext.cellOf Ew18.out HCB.out) (by simp)
        repeat (refine lexAt_still (by rfl) ?_; go_big_quiet_step (fail); refine wpQuiet_nil ?_)
        refine lexAt_nil ?_
        clear fr0 fb0
        go_wp2_with fail
        go_roundw
        case rel => exact ⟨q + 1, by omega, by go_num, (Ext.trans HEr.out Ew18.out), fun _ => HSTEP.out (by trivial)⟩
        case measure => simp [intOf]; omega
end Go.Proofs.Ytjinpfnefeiooaa
