/- A part of the proof. -/
import Derived.Test.YtjinpfnefeiooaaGreatPathPQ
import Derived.Test.YtjinpfnefeiooaaGreatUnits
import Derived.Test.YtjinpfnefeiooaaGreatVarT
namespace Go.Proofs.YtjinpfnefeiooaaGreat
open Go.RowKit

def UBox (w : World) (g : Nat) (u : U) (A : Option Addr) (n c : Nat) : Prop :=
 w.cell? ⟨g, 0, none⟩ = some (.int .i64 u.bus) ∧ w.cell? ⟨g, 1, none⟩ = some (.int .i64 u.mn) ∧ w.cell? ⟨g, 2, none⟩ = some (.slice A n c) ∧ w.cell? ⟨g, 3, none⟩ = some (.int .i64 u.up) ∧ w.cell? ⟨g, 4, none⟩ = some (.int .i64 u.down) ∧
 w.cell? ⟨g, 5, none⟩ = some (.int .i64 u.start) ∧ w.cell? ⟨g, 6, none⟩ = some (.int .i64 u.idle) ∧ w.cell? ⟨g, 7, none⟩ = some (.int .i64 u.spin) ∧ w.cell? ⟨g, 8, none⟩ = some (.int .i64 u.on)
theorem UBox.new (w : World) (g : Nat) (hg : w.heap.size = g) (u : U) (A : Option Addr) (n c : Nat) (t : TypeId) : UBox (w.alloc (.cells #[.int .i64 u.bus, .int .i64 u.mn, .slice A n c, .int .i64 u.up, .int .i64 u.down, .int .i64 u.start, .int .i64 u.idle, .int .i64 u.spin, .int .i64 u.on] t)) g u A n c := by
 subst hg
 refine ⟨?_, ?_, ?_, ?_, ?_, ?_, ?_, ?_, ?_⟩ <;> simp [go_sem]
theorem UBox.ext {w w' : World} {g : Nat} {u : U} {A : Option Addr} {n c : Nat} (h : UBox w g u A n c) (hb : Ext w w') : UBox w' g u A n c := by
 obtain ⟨h0, h1, h2, h3, h4, h5, h6, h7, h8⟩ := h
 exact ⟨Ext.cellOf hb h0, Ext.cellOf hb h1, Ext.cellOf hb h2, Ext.cellOf hb h3, Ext.cellOf hb h4, Ext.cellOf hb h5, Ext.cellOf hb h6, Ext.cellOf hb h7, Ext.cellOf hb h8⟩
theorem UBox.put {w : World} {g : Nat} {u : U} {A : Option Addr} {n c : Nat} (h : UBox w g u A n c) {g' : Nat} (hne : g' ≠ g) (off : Nat) (v : Value) : UBox (w.setCell ⟨g', off, none⟩ v) g u A n c := by
 have e : ∀ i, (w.setCell ⟨g', off, none⟩ v).cell? ⟨g, i, none⟩ = w.cell? ⟨g, i, none⟩ := fun i => World.cell?_setCell_other _ _ _ _ (by intro hh; injection hh; omega)
 obtain ⟨h0, h1, h2, h3, h4, h5, h6, h7, h8⟩ := h
 exact ⟨(e 0).trans h0, (e 1).trans h1, (e 2).trans h2, (e 3).trans h3, (e 4).trans h4, (e 5).trans h5, (e 6).trans h6, (e 7).trans h7, (e 8).trans h8⟩
theorem UBox.put4 {w : World} {g : Nat} {u : U} {A : Option Addr} {n c : Nat} (h : UBox w g u A n c) {g' : Nat} (hne : g' ≠ g) (off : Nat) (v0 v1 v2 v3 : Value) : UBox (put4 w g' off v0 v1 v2 v3) g u A n c := (((h.put hne _ _).put hne _ _).put hne _ _).put hne _ _
def U.pchk (u : U) (n : Nat) : Int := if u.check 6 ≠ 0 then u.check 6 else if 8 < n then 5 else 0
theorem ok_iff (u : U) : u.ok = true ↔ u.check 6 = 0 := by unfold U.ok; exact decide_eq_true_iff
set_option maxRecDepth 100000 in
theorem pcheck_any (u : U) (A : Option Addr) (n c : Nat) (R : Option Addr) (m d : Nat) (w : World) (hs : StepsAt w A n u.steps) (hn : n ≤ maxLen) (hm : m ≤ maxLen) :
  Calls Tryz.prog 34 #[u.val A n c, .slice R m d] w fun e w' => e = .returned (.int .i64 (u.pchk m)) ∧ Ext w w' := by
 unfold maxLen at hm
 go_enter Tryz.func34, Tryz.ntmps34
 go_wp2_with fail
 refine (ucheck_any u 6 A n c _ (hs.below (Ext.al Ext.rfl' _)) hn).mono ?_
 rintro e w1 ⟨rfl, hE⟩
 have hE1 : Ext w w1 := Ext.new hE
 clear hE
 have HV : Hid (u.pchk m = if u.check 6 ≠ 0 then u.check 6 else if 8 < m then 5 else 0) := rfl
 generalize u.check 6 = ck at *
 by_cases h0 : ck = 0
 ·subst h0
  by_cases h8 : 8 < m
  ·have hb : decide ((8 : Int) < (m : Int)) = true := by simp; omega
   have hb2 : decide (8 < m) = true := by simp; omega
   go_wp2_with fail
   go_ret
   exact ⟨ret_int (show (5 : Int) = u.pchk m by rw [HV.out, if_neg (by simp), if_pos h8]), hE1⟩
  ·have hb : decide ((8 : Int) < (m : Int)) = false := by simp; omega
   have hb2 : decide (8 < m) = false := by simp; omega
   go_wp2_with fail
   go_ret
   exact ⟨ret_int (show (0 : Int) = u.pchk m by rw [HV.out, if_neg (by simp), if_neg h8]), hE1⟩
 ·have hb : (ck != 0) = true := by simp [h0]
  go_wp2_with fail
  go_ret
  exact ⟨ret_int (show ck = u.pchk m by rw [HV.out, if_pos h0]), hE1⟩
def U.hqE (u : U) (p : Rat) : Int := if u.ok = true then u.hq p else 0
def U.hpE (u : U) (p : Rat) : Rat := if u.ok = true then u.hp p else 0
def RetHour (w : World) (u : U) (p : Rat) (e : Ending) (w' : World) : Prop := ∃ s A n c t B m d, e = .returned (.tuple #[.int .i64 (u.hqE p), .agg #[.bool s, .slice A n c, .bool t, .slice B m d], .int .i64 (u.check 6)]) ∧ QCan w' w.heap.size s A n c t B m d (u.hpE p) ∧ Ext w w'
theorem ret_hour {v : Value} {a b x y : Int} (h : a = b) (h2 : x = y) : Ending.returned (.tuple #[.int .i64 a, v, .int .i64 x]) = .returned (.tuple #[.int .i64 b, v, .int .i64 y]) := by rw [h, h2]
set_option maxRecDepth 100000 in
set_option maxHeartbeats 8000000 in
theorem hour_any (u : U) (A : Option Addr) (n c : Nat) (s1 : Bool) (A1 : Option Addr) (n1 c1 : Nat) (t1 : Bool) (B1 : Option Addr) (m1 d1 : Nat) (p : Rat) (w : World) (hs : StepsAt w A n u.steps) (hn : n ≤ maxLen) (h1 : QIs w s1 A1 n1 c1 t1 B1 m1 d1 p) (l1 : n1 ≤ 1000) (l2 : m1 ≤ 1000) :
  Calls Tryz.prog 8 #[u.val A n c, .agg #[.bool s1, .slice A1 n1 c1, .bool t1, .slice B1 m1 d1]] w (RetHour w u p) := by
 have HS := LH hs
 have H1 := LH h1
 have HZ1 : Hid (Sz 1000 p) := h1.sz l1 l2 (by omega)
 clear hs h1
 go_enter Tryz.func8, Tryz.ntmps8
 go_wp2_with fail
 have k0 := UBox.new (w) (w.heap.size) (by simp) u A n c 24
 have k1 := Cell4.new ((w).alloc (.cells #[.int .i64 u.bus, .int .i64 u.mn, .slice A n c, .int .i64 u.up, .int .i64 u.down, .int .i64 u.start, .int .i64 u.idle, .int .i64 u.spin, .int .i64 u.on] 24)) (w.heap.size + 1) (by simp) (.bool s1) (.slice A1 n1 c1) (.bool t1) (.slice B1 m1 d1) 29
 have k2 := Cell4.new (((w).alloc (.cells #[.int .i64 u.bus, .int .i64 u.mn, .slice A n c, .int .i64 u.up, .int .i64 u.down, .int .i64 u.start, .int .i64 u.idle, .int .i64 u.spin, .int .i64 u.on] 24)).alloc (.cells #[.bool s1, .slice A1 n1 c1, .bool t1, .slice B1 m1 d1] 29)) (w.heap.size + 1 + 1) (by simp) (.bool false) (.slice none 0 0) (.bool false) (.slice none 0 0) 29
 have hE : Ext w ((((w).alloc (.cells #[.int .i64 u.bus, .int .i64 u.mn, .slice A n c, .int .i64 u.up, .int .i64 u.down, .int .i64 u.start, .int .i64 u.idle, .int .i64 u.spin, .int .i64 u.on] 24)).alloc (.cells #[.bool s1, .slice A1 n1 c1, .bool t1, .slice B1 m1 d1] 29)).alloc (.cells #[.bool false, .slice none 0 0, .bool false, .slice none 0 0] 29)) := (Ext.al (Ext.al (Ext.al Ext.rfl' _) _) _)
 have k0 := k0.ext (show Ext ((w).alloc (.cells #[.int .i64 u.bus, .int .i64 u.mn, .slice A n c, .int .i64 u.up, .int .i64 u.down, .int .i64 u.start, .int .i64 u.idle, .int .i64 u.spin, .int .i64 u.on] 24)) ((((w).alloc (.cells #[.int .i64 u.bus, .int .i64 u.mn, .slice A n c, .int .i64 u.up, .int .i64 u.down, .int .i64 u.start, .int .i64 u.idle, .int .i64 u.spin, .int .i64 u.on] 24)).alloc (.cells #[.bool s1, .slice A1 n1 c1, .bool t1, .slice B1 m1 d1] 29)).alloc (.cells #[.bool false, .slice none 0 0, .bool false, .slice none 0 0] 29)) from (Ext.al (Ext.al Ext.rfl' _) _))
 have k1 := k1.ext (show Ext (((w).alloc (.cells #[.int .i64 u.bus, .int .i64 u.mn, .slice A n c, .int .i64 u.up, .int .i64 u.down, .int .i64 u.start, .int .i64 u.idle, .int .i64 u.spin, .int .i64 u.on] 24)).alloc (.cells #[.bool s1, .slice A1 n1 c1, .bool t1, .slice B1 m1 d1] 29)) ((((w).alloc (.cells #[.int .i64 u.bus, .int .i64 u.mn, .slice A n c, .int .i64 u.up, .int .i64 u.down, .int .i64 u.start, .int .i64 u.idle, .int .i64 u.spin, .int .i64 u.on] 24)).alloc (.cells #[.bool s1, .slice A1 n1 c1, .bool t1, .slice B1 m1 d1] 29)).alloc (.cells #[.bool false, .slice none 0 0, .bool false, .slice none 0 0] 29)) from (Ext.al Ext.rfl' _))
 have hsz : ((((w).alloc (.cells #[.int .i64 u.bus, .int .i64 u.mn, .slice A n c, .int .i64 u.up, .int .i64 u.down, .int .i64 u.start, .int .i64 u.idle, .int .i64 u.spin, .int .i64 u.on] 24)).alloc (.cells #[.bool s1, .slice A1 n1 c1, .bool t1, .slice B1 m1 d1] 29)).alloc (.cells #[.bool false, .slice none 0 0, .bool false, .slice none 0 0] 29)).heap.size = w.heap.size + 1 + 1 + 1 := by simp
 generalize (((w).alloc (.cells #[.int .i64 u.bus, .int .i64 u.mn, .slice A n c, .int .i64 u.up, .int .i64 u.down, .int .i64 u.start, .int .i64 u.idle, .int .i64 u.spin, .int .i64 u.on] 24)).alloc (.cells #[.bool s1, .slice A1 n1 c1, .bool t1, .slice B1 m1 d1] 29)).alloc (.cells #[.bool false, .slice none 0 0, .bool false, .slice none 0 0] 29) = w1 at *
 have SZw1 := LH hsz
 clear hsz
 have Ew1 := LH hE
 clear hE
 have Ku := LH k0
 clear k0
 have K1 := LH k1
 clear k1
 have Kr := LH k2
 clear k2
 refine (ucheck_any u 6 A n c w1 (HS.out.below Ew1.out) hn).mono ?_
 rintro e w2 ⟨rfl, hE⟩
 have Ew2 := LH hE
 clear hE
 by_cases h0 : u.check 6 = 0
 rotate_left
 ·have hok : u.ok = false := by
   cases h : u.ok
   ·rfl
   ·exact absurd ((ok_iff u).1 h) h0
  obtain ⟨ck, hck⟩ : ∃ v, u.check 6 = v := ⟨_, rfl⟩
  rw [hck]
  have hb : (ck != 0) = true := by rw [← hck]; simp [h0]
  have HCK := LH hck
  have HOK := LH hok
  clear h0 hck hok
  obtain ⟨⟨xr0, xr1, xr2, xr3⟩, ⟨yr0, yr1, yr2, yr3⟩, zr⟩ := (Kr.out.ext Ew2.out)
  go_wp2_with fail
  refine bodyPost_ret (v := .tuple #[.int .i64 0, .agg #[.bool false, .slice none 0 0, .bool false, .slice none 0 0], .int .i64 ck]) (by simp [results, Tryz.results8, go_sem, xr0, xr1, xr2, xr3]) rfl ?_
  have hq : QCan w2 (w.heap.size + 1 + 1 + 1) false none 0 0 false none 0 0 (u.hpE p) := by unfold U.hpE; rw [HOK.out]; exact qcan_zero _ _
  exact ⟨_, _, _, _, _, _, _, _, ret_hour (by unfold U.hqE; rw [HOK.out]; rfl) HCK.out.symm, retQ_fill (by omega) (by omega) hq (ET Ew1.out Ew2.out) _ _ _ _⟩
 have hok := (ok_iff u).2 h0
 rw [h0]
 have HQR := LH (u.hq_range hok p)
 have HWB := LH (wantL_bd hok p)
 have HAL := LH (u.hq_alloc hok p)
 have HC0 := LH (U.chk0 hok)
 have HTB := LH (total_bd u.steps)
 have HOK := LH hok
 have HCK := LH h0
 have hid0 := (U.good hok).id0
 have hid9 := (U.good hok).id9
 have hmn := U.okm hok
 have hmn2 : u.mn ≤ 3000000 := by have := total_bd u.steps; omega
 have hmn1 := hmn.1
 clear hmn h0 hok
 have zu := World.block_lt_of_cell? _ _ (Ku.out.ext Ew2.out).1
 have xu2 := (Ku.out.ext Ew2.out).2.2.1
 obtain ⟨⟨x10, x11, x12, x13⟩, -, z1⟩ := (K1.out.ext Ew2.out)
 go_wp2_with fail
 clear zu xu2 x10 x11 x12 x13 z1
 refine (supply_any A n c u.steps s1 A1 n1 c1 t1 B1 m1 d1 p w2 (HS.out.below (ET Ew1.out Ew2.out)) hn ⟨(H1.out.ext (ET Ew1.out Ew2.out)), by omega, by omega⟩).mono ?_
 rintro e w3 ⟨rfl, hE⟩
 have Ew3 := LH hE
 clear hE
 obtain ⟨wl, hwl⟩ : ∃ v, wantL true u.steps p = v := ⟨_, rfl⟩
 obtain ⟨wm, hwm⟩ : ∃ v, wantM true u.steps p = v := ⟨_, rfl⟩
 rw [hwl, hwm, HC0.out]
 have hw0 : 0 ≤ wl := by rw [← hwl]; exact HWB.out.1
 have hw1 : wl ≤ 3000000 := by have h := HWB.out.2; have h2 := HTB.out.2; rw [hwl] at h; exact Int.le_trans h h2
 have HHQ : Hid (u.hq p = max wl u.mn) := by unfold Hid U.hq; rw [hwl]
 clear hwl hwm
 by_cases hle : wl < u.mn
 ·rw [show max wl u.mn = u.mn by omega] at HHQ
  have zu := World.block_lt_of_cell? _ _ (Ku.out.ext (ET Ew2.out Ew3.out)).1
  have xu1 := (Ku.out.ext (ET Ew2.out Ew3.out)).2.1
  go_wp2_with fail
  clear zu xu1
  refine wp_region_havS [8] [0, 1, 2, 3, 4, 5, 6, 7] [9, 10] (fun _ => .cells #[.bool false, .slice none 0 0, .bool false, .slice none 0 0] 29) (by kernel_rfl) (by kernel_rfl) ?_ ?_
  ·intro f hf
   simp only [List.mem_cons, List.not_mem_nil, or_false] at hf
   rcases hf with rfl
   all_goals exact makes_q (by rfl) rfl
  have hE : Ext w3 w3.drew := Ext.rfl'.drew
  generalize w3.drew = w4 at *
  have Ew4 := LH hE
  clear hE
  have fu2 := fun z : ExtX w4 [] => z.cell (p := ⟨w.heap.size, 2, none⟩) (Ku.out.ext (ET Ew2.out (ET Ew3.out Ew4.out))).2.2.1 (by simp)
  intro w5 hE
  have Ew5 := LH hE
  clear hE
  repeat (refine havAt_still (by rfl) (by rfl) ?_; go_big_quiet_step (fail); refine wpQuiet_nil ?_)
  refine havAt_move (by rfl) (by rfl) (by kernel_rfl) ?_
  go_wp2_with fail
  refine (qfrom_any u.mn w5 ⟨by omega, by omega⟩).mono ?_
  rintro e w6 ⟨si, Ai, ni, ci, ti, Bi, mi, di, rfl, hQ, hE⟩
  have Ew6 := LH hE
  clear hE
  have Qi := LH hQ
  clear hQ
  go_wp2_with fail
  refine And.intro Ew6.out (fun w7 hE => ?_)
  have Ew7 := LH hE
  clear hE
  repeat (refine havAt_still (by rfl) (by rfl) ?_; go_big_quiet_step (fail); refine wpQuiet_nil ?_)
  refine havAt_move (by rfl) (by rfl) (by kernel_rfl) ?_
  go_wp2_with fail
  refine (cost_any A n c u.steps si Ai ni ci ti Bi mi di ((u.mn : Int) : Rat) w7 (HS.out.below (ET Ew1.out (ET Ew2.out (ET Ew3.out (ET Ew4.out (ET Ew5.out (ET Ew6.out Ew7.out))))))) hn (Qi.out.ext Ew7.out).is (Nat.le_trans ((Qi.out.ext Ew7.out).len (sz_small (z := u.mn) (by omega) (by omega))).1 (by omega)) (Nat.le_trans ((Qi.out.ext Ew7.out).len (sz_small (z := u.mn) (by omega) (by omega))).2 (by omega))).mono ?_
  rintro e w8 ⟨sk, Ak, nk, ck, tk, Bk, mk, dk, rfl, hQ, hE⟩
  have Ew8 := LH hE
  clear hE
  have Qk := LH hQ
  clear hQ
  rw [show allocE u.steps ((u.mn : Int) : Rat) = 0 by rw [← HHQ.out]; exact HAL.out]
  go_wp2_with fail
  refine And.intro Ew8.out (fun w9 hE => ?_)
  have Ew9 := LH hE
  clear hE
  repeat (refine havAt_still (by rfl) (by rfl) ?_; go_big_quiet_step (fail); refine wpQuiet_nil ?_)
  refine havAt_end ?_
  intro gs hgs hne
  have hpck := hgs 8 (by simp)
  change IdxAt _ _ _ _ _ _ (Act.put _ (some 10) (.pointer (some ⟨gs 8, 0, none⟩))) _
  generalize gs 8 = gck at *
  clear hgs hne
  simp only [Act.put, List.setIfInBounds_toArray, List.set_cons_succ, List.set_cons_zero]
  have Pck := LH hpck
  have Kck := LH (Cell4.of_blk hpck.2.1)
  clear hpck
  repeat (refine idxAt_still (by rfl) (by rfl) ?_; go_big_quiet_step (fail); refine wpQuiet_nil ?_)
  obtain ⟨⟨o0, o1, o2, o3⟩, ⟨q0, q1, q2, q3⟩, ol⟩ := Kck.out
  refine idxAt_move (by rfl) (by rfl) (by kernel_rfl) ?_
  go_wp2_with fail
  refine And.intro (inX_put (p := ⟨gck, 3, none⟩) (inX_put (p := ⟨gck, 2, none⟩) (inX_put (p := ⟨gck, 1, none⟩) (inX_put (p := ⟨gck, 0, none⟩) (inX_of_ext _ (ET Ew5.out (ET Ew6.out (ET Ew7.out (ET Ew8.out Ew9.out))))) (.inr Pck.out.1) _) (.inr Pck.out.1) _) (.inr Pck.out.1) _) (.inr Pck.out.1) _) ?_
  clear o0 o1 o2 o3 q0 q1 q2 q3 ol
  have Kck_1 := LH (Kck.out.put4 (.bool sk) (.slice Ak nk ck) (.bool tk) (.slice Bk mk dk))
  have NJ1 := LH (ext_put4 (ET Ew5.out (ET Ew6.out (ET Ew7.out (ET Ew8.out Ew9.out)))) (g := gck) Pck.out.1 0 (.bool sk) (.slice Ak nk ck) (.bool tk) (.slice Bk mk dk))
  have NZ1 : Hid (w9.heap.size ≤ (put4 w9 (gck) 0 (.bool sk) (.slice Ak nk ck) (.bool tk) (.slice Bk mk dk)).heap.size) := by unfold Hid; rw [put4_size]; exact Nat.le_refl _
  have Qk_1 := LH ((Qk.out.ext Ew9.out).put4A (g := gck) (Qk.out.span (Pck.out.2.2 (w7.heap.size, w8.heap.size) (by simp))) 0 (.bool sk) (.slice Ak nk ck) (.bool tk) (.slice Bk mk dk))
  unfold put4 at Kck_1 NJ1 NZ1 Qk_1
  simp only [Nat.zero_add] at Kck_1 NJ1 NZ1 Qk_1
  generalize ((((w9.setCell ⟨gck, 0, none⟩ (.bool sk)).setCell ⟨gck, 1, none⟩ (.slice Ak nk ck)).setCell ⟨gck, 2, none⟩ (.bool tk)).setCell ⟨gck, 3, none⟩ (.slice Bk mk dk)) = w10 at *
  repeat (refine idxAt_still (by rfl) (by rfl) ?_; go_big_quiet_step (fail); refine wpQuiet_nil ?_)
  refine idxAt_nil ?_
  clear fu2
  go_wp2_with fail
  refine wp_region_lexS (C := InX w10.drew []) (by kernel_rfl) (by kernel_rfl) (inX_self _ _) ?_
  have hE : Ext w10 w10.drew := Ext.rfl'.drew
  generalize w10.drew = w11 at *
  have Ew11 := LH hE
  clear hE
  have f10 := fun z : ExtX w11 [] => z.cell (p := ⟨w.heap.size + 1, 0, none⟩) (K1.out.ext (ET Ew2.out (ET Ew3.out (ET Ew4.out (ET NJ1.out Ew11.out))))).1.1 (by simp)
  have f11 := fun z : ExtX w11 [] => z.cell (p := ⟨w.heap.size + 1, 1, none⟩) (K1.out.ext (ET Ew2.out (ET Ew3.out (ET Ew4.out (ET NJ1.out Ew11.out))))).1.2.1 (by simp)
  have f12 := fun z : ExtX w11 [] => z.cell (p := ⟨w.heap.size + 1, 2, none⟩) (K1.out.ext (ET Ew2.out (ET Ew3.out (ET Ew4.out (ET NJ1.out Ew11.out))))).1.2.2.1 (by simp)
  have f13 := fun z : ExtX w11 [] => z.cell (p := ⟨w.heap.size + 1, 3, none⟩) (K1.out.ext (ET Ew2.out (ET Ew3.out (ET Ew4.out (ET NJ1.out Ew11.out))))).1.2.2.2 (by simp)
  have fck0 := fun z : ExtX w11 [] => z.cell (p := ⟨gck, 0, none⟩) (Kck_1.out.ext Ew11.out).1.1 (by simp)
  have fck1 := fun z : ExtX w11 [] => z.cell (p := ⟨gck, 1, none⟩) (Kck_1.out.ext Ew11.out).1.2.1 (by simp)
  have fck2 := fun z : ExtX w11 [] => z.cell (p := ⟨gck, 2, none⟩) (Kck_1.out.ext Ew11.out).1.2.2.1 (by simp)
  have fck3 := fun z : ExtX w11 [] => z.cell (p := ⟨gck, 3, none⟩) (Kck_1.out.ext Ew11.out).1.2.2.2 (by simp)
  have fu6 := fun z : ExtX w11 [] => z.cell (p := ⟨w.heap.size, 6, none⟩) (Ku.out.ext (ET Ew2.out (ET Ew3.out (ET Ew4.out (ET NJ1.out Ew11.out))))).2.2.2.2.2.2.1 (by simp)
  repeat (refine lexAt_still (by rfl) ?_; go_big_quiet_step (fail); refine wpQuiet_nil ?_)
  refine lexAt_move (by rfl) (by kernel_rfl) ?_
  go_wp2_with fail
  refine (qfrom_any u.mn w11 ⟨by omega, by omega⟩).mono ?_
  rintro e w12 ⟨sj, Aj, nj, cj, tj, Bj, mj, dj, rfl, hQ, hE⟩
  have Ew12 := LH hE
  clear hE
  have Qj := LH hQ
  clear hQ
  go_wp2_with fail
  refine And.intro (inX_of_ext _ Ew12.out) ?_
  repeat (refine lexAt_still (by rfl) ?_; go_big_quiet_step (fail); refine wpQuiet_nil ?_)
  refine lexAt_move (by rfl) (by kernel_rfl) ?_
  go_wp2_with fail
  refine (qmul_any s1 A1 n1 c1 t1 B1 m1 d1 _ sj Aj nj cj tj Bj mj dj _ w12 ⟨(H1.out.ext (ET Ew1.out (ET Ew2.out (ET Ew3.out (ET Ew4.out (ET NJ1.out (ET Ew11.out Ew12.out))))))), by omega, by omega⟩ (Qj.out.arg (sz_small (z := u.mn) (by omega) (by omega)) (by omega))).mono ?_
  rintro e w13 ⟨sm, Am, nm, cm, tm, Bm, mm, dm, rfl, hQ, hE⟩
  have Ew13 := LH hE
  clear hE
  have Qm := LH hQ
  clear hQ
  go_wp2_with fail
  refine And.intro (inX_of_ext _ (ET Ew12.out Ew13.out)) ?_
  repeat (refine lexAt_still (by rfl) ?_; go_big_quiet_step (fail); refine wpQuiet_nil ?_)
  refine lexAt_move (by rfl) (by kernel_rfl) ?_
  go_wp2_with fail
  refine (qfrom_any u.idle w13 ⟨by omega, by omega⟩).mono ?_
  rintro e w14 ⟨sl, Al, nl, cl, tl, Bl, ml, dl, rfl, hQ, hE⟩
  have Ew14 := LH hE
  clear hE
  have Ql := LH hQ
  clear hQ
  go_wp2_with fail
  refine And.intro (inX_of_ext _ (ET Ew12.out (ET Ew13.out Ew14.out))) ?_
  repeat (refine lexAt_still (by rfl) ?_; go_big_quiet_step (fail); refine wpQuiet_nil ?_)
  refine lexAt_move (by rfl) (by kernel_rfl) ?_
  go_wp2_with fail
  refine (qadd_any sk Ak nk ck tk Bk mk dk _ sl Al nl cl tl Bl ml dl _ w14 ((Qk_1.out.ext (ET Ew11.out (ET Ew12.out (ET Ew13.out Ew14.out)))).arg (sz_costV ((sz_small (z := u.mn) (by omega) (by omega)).mono (by omega))) (by omega)) (Ql.out.arg (sz_small (z := u.idle) (by omega) (by omega)) (by omega))).mono ?_
  rintro e w15 ⟨ss, As, ns, cs, ts, Bs, ms, ds, rfl, hQ, hE⟩
  have Ew15 := LH hE
  clear hE
  have Qs := LH hQ
  clear hQ
  go_wp2_with fail
  refine And.intro (inX_of_ext _ (ET Ew12.out (ET Ew13.out (ET Ew14.out Ew15.out)))) ?_
  repeat (refine lexAt_still (by rfl) ?_; go_big_quiet_step (fail); refine wpQuiet_nil ?_)
  refine lexAt_move (by rfl) (by kernel_rfl) ?_
  go_wp2_with fail
  refine (qsub_any sm Am nm cm tm Bm mm dm _ ss As ns cs ts Bs ms ds _ w15 ((Qm.out.ext (ET Ew14.out Ew15.out)).arg (HZ1.out.mul (sz_small (z := u.mn) (by omega) (by omega))) (by omega)) (Qs.out.arg ((sz_costV ((sz_small (z := u.mn) (by omega) (by omega)).mono (by omega))).add (sz_small (z := u.idle) (by omega) (by omega))) (by omega))).mono ?_
  rintro e w16 ⟨sz, Az, nz, cz, tz, Bz, mz, dz, rfl, hQ, hE⟩
  have Ew16 := LH hE
  clear hE
  have Qz := LH hQ
  clear hQ
  have HXe := LH (inX_of_ext [] (ET Ew12.out (ET Ew13.out (ET Ew14.out (ET Ew15.out Ew16.out)))))
  clear f10 f11 f12 f13 fck0 fck1 fck2 fck3 fu6
  obtain ⟨⟨o0, o1, o2, o3⟩, ⟨q0, q1, q2, q3⟩, ol⟩ := (Kr.out.ext (ET Ew2.out (ET Ew3.out (ET Ew4.out (ET NJ1.out (ET Ew11.out (ET Ew12.out (ET Ew13.out (ET Ew14.out (ET Ew15.out Ew16.out))))))))))
  go_wp2_with fail
  refine And.intro HXe.out ?_
  refine lexAt_last (by rfl) (by kernel_rfl) (by kernel_rfl) ?_
  go_wp2_with fail
  refine And.intro trivial (lexAt_nil ?_)
  clear o0 o1 o2 o3 q0 q1 q2 q3 ol HXe
  have Kr_2 := LH ((Kr.out.ext (ET Ew2.out (ET Ew3.out (ET Ew4.out (ET NJ1.out (ET Ew11.out (ET Ew12.out (ET Ew13.out (ET Ew14.out (ET Ew15.out Ew16.out)))))))))).put4 (.bool sz) (.slice Az nz cz) (.bool tz) (.slice Bz mz dz))
  have NJ2 := LH (ext_put4 (ET Ew1.out (ET Ew2.out (ET Ew3.out (ET Ew4.out (ET NJ1.out (ET Ew11.out (ET Ew12.out (ET Ew13.out (ET Ew14.out (ET Ew15.out Ew16.out)))))))))) (g := w.heap.size + 1 + 1) (by omega) 0 (.bool sz) (.slice Az nz cz) (.bool tz) (.slice Bz mz dz))
  have NZ2 : Hid (w16.heap.size ≤ (put4 w16 (w.heap.size + 1 + 1) 0 (.bool sz) (.slice Az nz cz) (.bool tz) (.slice Bz mz dz)).heap.size) := by unfold Hid; rw [put4_size]; exact Nat.le_refl _
  have Ku_2 := LH ((Ku.out.ext (ET Ew2.out (ET Ew3.out (ET Ew4.out (ET NJ1.out (ET Ew11.out (ET Ew12.out (ET Ew13.out (ET Ew14.out (ET Ew15.out Ew16.out)))))))))).put4 (g' := w.heap.size + 1 + 1) (by omega) 0 (.bool sz) (.slice Az nz cz) (.bool tz) (.slice Bz mz dz))
  have K1_2 := LH ((K1.out.ext (ET Ew2.out (ET Ew3.out (ET Ew4.out (ET NJ1.out (ET Ew11.out (ET Ew12.out (ET Ew13.out (ET Ew14.out (ET Ew15.out Ew16.out)))))))))).far4 (g := w.heap.size + 1 + 1) (off := 0) (by omega) (.bool sz) (.slice Az nz cz) (.bool tz) (.slice Bz mz dz))
  have Qz_2 := LH (Qz.out.put4A (g := w.heap.size + 1 + 1) (Qz.out.span (.inl (Nat.lt_of_lt_of_le Kr.out.2.2 (Nat.le_trans Ew2.out.size (Nat.le_trans Ew3.out.size (Nat.le_trans Ew4.out.size (Nat.le_trans Ew5.out.size (Nat.le_trans Ew6.out.size (Nat.le_trans Ew7.out.size (Nat.le_trans Ew8.out.size (Nat.le_trans Ew9.out.size (Nat.le_trans NZ1.out (Nat.le_trans Ew11.out.size (Nat.le_trans Ew12.out.size (Nat.le_trans Ew13.out.size (Nat.le_trans Ew14.out.size Ew15.out.size)))))))))))))))) 0 (.bool sz) (.slice Az nz cz) (.bool tz) (.slice Bz mz dz))
  unfold put4 at Kr_2 NJ2 NZ2 Ku_2 K1_2 Qz_2
  simp only [Nat.zero_add] at Kr_2 NJ2 NZ2 Ku_2 K1_2 Qz_2
  generalize ((((w16.setCell ⟨w.heap.size + 1 + 1, 0, none⟩ (.bool sz)).setCell ⟨w.heap.size + 1 + 1, 1, none⟩ (.slice Az nz cz)).setCell ⟨w.heap.size + 1 + 1, 2, none⟩ (.bool tz)).setCell ⟨w.heap.size + 1 + 1, 3, none⟩ (.slice Bz mz dz)) = w17 at *
  obtain ⟨⟨xr0, xr1, xr2, xr3⟩, ⟨yr0, yr1, yr2, yr3⟩, zr⟩ := Kr_2.out
  go_wp2_with fail
  go_region
  go_wp2_with fail
  have hdr : Ext w17 w17.drew := Ext.rfl'.drew
  have hqz : QCan w17.drew w15.heap.size sz Az nz cz tz Bz mz dz (u.hpE p) := by
   rw [show u.hpE p = ((p * ((u.mn : Int) : Rat)) - ((costV u.steps ((u.mn : Int) : Rat)) + ((u.idle : Int) : Rat))) by unfold U.hpE; rw [if_pos HOK.out]; unfold U.hp; rw [HHQ.out]]
   exact Qz_2.out.ext hdr
  refine bodyPost_ret (v := .tuple #[.int .i64 (u.mn), .agg #[.bool sz, .slice Az nz cz, .bool tz, .slice Bz mz dz], .int .i64 0]) (by simp [results, Tryz.results8, go_sem, xr0, xr1, xr2, xr3]) rfl ?_
  exact ⟨_, _, _, _, _, _, _, _, ret_hour (by unfold U.hqE; rw [if_pos HOK.out, HHQ.out]) HCK.out.symm, retQ_fill (by omega) (Nat.lt_of_lt_of_le Kr.out.2.2 (Nat.le_trans Ew2.out.size (Nat.le_trans Ew3.out.size (Nat.le_trans Ew4.out.size (Nat.le_trans Ew5.out.size (Nat.le_trans Ew6.out.size (Nat.le_trans Ew7.out.size (Nat.le_trans Ew8.out.size (Nat.le_trans Ew9.out.size (Nat.le_trans NZ1.out (Nat.le_trans Ew11.out.size (Nat.le_trans Ew12.out.size (Nat.le_trans Ew13.out.size (Nat.le_trans Ew14.out.size Ew15.out.size)))))))))))))) hqz (ET NJ2.out hdr) _ _ _ _⟩
 ·rw [show max wl u.mn = wl by omega] at HHQ
  have zu := World.block_lt_of_cell? _ _ (Ku.out.ext (ET Ew2.out Ew3.out)).1
  have xu1 := (Ku.out.ext (ET Ew2.out Ew3.out)).2.1
  go_wp2_with fail
  clear zu xu1
  refine wp_region_havS [8] [0, 1, 2, 3, 4, 5, 6, 7] [9, 10] (fun _ => .cells #[.bool false, .slice none 0 0, .bool false, .slice none 0 0] 29) (by kernel_rfl) (by kernel_rfl) ?_ ?_
  ·intro f hf
   simp only [List.mem_cons, List.not_mem_nil, or_false] at hf
   rcases hf with rfl
   all_goals exact makes_q (by rfl) rfl
  have hE : Ext w3 w3.drew := Ext.rfl'.drew
  generalize w3.drew = w18 at *
  have Ew18 := LH hE
  clear hE
  have fu2 := fun z : ExtX w18 [] => z.cell (p := ⟨w.heap.size, 2, none⟩) (Ku.out.ext (ET Ew2.out (ET Ew3.out Ew18.out))).2.2.1 (by simp)
  intro w19 hE
  have Ew19 := LH hE
  clear hE
  repeat (refine havAt_still (by rfl) (by rfl) ?_; go_big_quiet_step (fail); refine wpQuiet_nil ?_)
  refine havAt_move (by rfl) (by rfl) (by kernel_rfl) ?_
  go_wp2_with fail
  refine (qfrom_any wl w19 ⟨by omega, by omega⟩).mono ?_
  rintro e w20 ⟨si, Ai, ni, ci, ti, Bi, mi, di, rfl, hQ, hE⟩
  have Ew20 := LH hE
  clear hE
  have Qi := LH hQ
  clear hQ
  go_wp2_with fail
  refine And.intro Ew20.out (fun w21 hE => ?_)
  have Ew21 := LH hE
  clear hE
  repeat (refine havAt_still (by rfl) (by rfl) ?_; go_big_quiet_step (fail); refine wpQuiet_nil ?_)
  refine havAt_move (by rfl) (by rfl) (by kernel_rfl) ?_
  go_wp2_with fail
  refine (cost_any A n c u.steps si Ai ni ci ti Bi mi di ((wl : Int) : Rat) w21 (HS.out.below (ET Ew1.out (ET Ew2.out (ET Ew3.out (ET Ew18.out (ET Ew19.out (ET Ew20.out Ew21.out))))))) hn (Qi.out.ext Ew21.out).is (Nat.le_trans ((Qi.out.ext Ew21.out).len (sz_small (z := wl) (by omega) (by omega))).1 (by omega)) (Nat.le_trans ((Qi.out.ext Ew21.out).len (sz_small (z := wl) (by omega) (by omega))).2 (by omega))).mono ?_
  rintro e w22 ⟨sk, Ak, nk, ck, tk, Bk, mk, dk, rfl, hQ, hE⟩
  have Ew22 := LH hE
  clear hE
  have Qk := LH hQ
  clear hQ
  rw [show allocE u.steps ((wl : Int) : Rat) = 0 by rw [← HHQ.out]; exact HAL.out]
  go_wp2_with fail
  refine And.intro Ew22.out (fun w23 hE => ?_)
  have Ew23 := LH hE
  clear hE
  repeat (refine havAt_still (by rfl) (by rfl) ?_; go_big_quiet_step (fail); refine wpQuiet_nil ?_)
  refine havAt_end ?_
  intro gs hgs hne
  have hpck := hgs 8 (by simp)
  change IdxAt _ _ _ _ _ _ (Act.put _ (some 10) (.pointer (some ⟨gs 8, 0, none⟩))) _
  generalize gs 8 = gck at *
  clear hgs hne
  simp only [Act.put, List.setIfInBounds_toArray, List.set_cons_succ, List.set_cons_zero]
  have Pck := LH hpck
  have Kck := LH (Cell4.of_blk hpck.2.1)
  clear hpck
  repeat (refine idxAt_still (by rfl) (by rfl) ?_; go_big_quiet_step (fail); refine wpQuiet_nil ?_)
  obtain ⟨⟨o0, o1, o2, o3⟩, ⟨q0, q1, q2, q3⟩, ol⟩ := Kck.out
  refine idxAt_move (by rfl) (by rfl) (by kernel_rfl) ?_
  go_wp2_with fail
  refine And.intro (inX_put (p := ⟨gck, 3, none⟩) (inX_put (p := ⟨gck, 2, none⟩) (inX_put (p := ⟨gck, 1, none⟩) (inX_put (p := ⟨gck, 0, none⟩) (inX_of_ext _ (ET Ew19.out (ET Ew20.out (ET Ew21.out (ET Ew22.out Ew23.out))))) (.inr Pck.out.1) _) (.inr Pck.out.1) _) (.inr Pck.out.1) _) (.inr Pck.out.1) _) ?_
  clear o0 o1 o2 o3 q0 q1 q2 q3 ol
  have Kck_3 := LH (Kck.out.put4 (.bool sk) (.slice Ak nk ck) (.bool tk) (.slice Bk mk dk))
  have NJ3 := LH (ext_put4 (ET Ew19.out (ET Ew20.out (ET Ew21.out (ET Ew22.out Ew23.out)))) (g := gck) Pck.out.1 0 (.bool sk) (.slice Ak nk ck) (.bool tk) (.slice Bk mk dk))
  have NZ3 : Hid (w23.heap.size ≤ (put4 w23 (gck) 0 (.bool sk) (.slice Ak nk ck) (.bool tk) (.slice Bk mk dk)).heap.size) := by unfold Hid; rw [put4_size]; exact Nat.le_refl _
  have Qk_3 := LH ((Qk.out.ext Ew23.out).put4A (g := gck) (Qk.out.span (Pck.out.2.2 (w21.heap.size, w22.heap.size) (by simp))) 0 (.bool sk) (.slice Ak nk ck) (.bool tk) (.slice Bk mk dk))
  unfold put4 at Kck_3 NJ3 NZ3 Qk_3
  simp only [Nat.zero_add] at Kck_3 NJ3 NZ3 Qk_3
  generalize ((((w23.setCell ⟨gck, 0, none⟩ (.bool sk)).setCell ⟨gck, 1, none⟩ (.slice Ak nk ck)).setCell ⟨gck, 2, none⟩ (.bool tk)).setCell ⟨gck, 3, none⟩ (.slice Bk mk dk)) = w24 at *
  repeat (refine idxAt_still (by rfl) (by rfl) ?_; go_big_quiet_step (fail); refine wpQuiet_nil ?_)
  refine idxAt_nil ?_
  clear fu2
  go_wp2_with fail
  refine wp_region_lexS (C := InX w24.drew []) (by kernel_rfl) (by kernel_rfl) (inX_self _ _) ?_
  have hE : Ext w24 w24.drew := Ext.rfl'.drew
  generalize w24.drew = w25 at *
  have Ew25 := LH hE
  clear hE
  have f10 := fun z : ExtX w25 [] => z.cell (p := ⟨w.heap.size + 1, 0, none⟩) (K1.out.ext (ET Ew2.out (ET Ew3.out (ET Ew18.out (ET NJ3.out Ew25.out))))).1.1 (by simp)
  have f11 := fun z : ExtX w25 [] => z.cell (p := ⟨w.heap.size + 1, 1, none⟩) (K1.out.ext (ET Ew2.out (ET Ew3.out (ET Ew18.out (ET NJ3.out Ew25.out))))).1.2.1 (by simp)
  have f12 := fun z : ExtX w25 [] => z.cell (p := ⟨w.heap.size + 1, 2, none⟩) (K1.out.ext (ET Ew2.out (ET Ew3.out (ET Ew18.out (ET NJ3.out Ew25.out))))).1.2.2.1 (by simp)
  have f13 := fun z : ExtX w25 [] => z.cell (p := ⟨w.heap.size + 1, 3, none⟩) (K1.out.ext (ET Ew2.out (ET Ew3.out (ET Ew18.out (ET NJ3.out Ew25.out))))).1.2.2.2 (by simp)
  have fck0 := fun z : ExtX w25 [] => z.cell (p := ⟨gck, 0, none⟩) (Kck_3.out.ext Ew25.out).1.1 (by simp)
  have fck1 := fun z : ExtX w25 [] => z.cell (p := ⟨gck, 1, none⟩) (Kck_3.out.ext Ew25.out).1.2.1 (by simp)
  have fck2 := fun z : ExtX w25 [] => z.cell (p := ⟨gck, 2, none⟩) (Kck_3.out.ext Ew25.out).1.2.2.1 (by simp)
  have fck3 := fun z : ExtX w25 [] => z.cell (p := ⟨gck, 3, none⟩) (Kck_3.out.ext Ew25.out).1.2.2.2 (by simp)
  have fu6 := fun z : ExtX w25 [] => z.cell (p := ⟨w.heap.size, 6, none⟩) (Ku.out.ext (ET Ew2.out (ET Ew3.out (ET Ew18.out (ET NJ3.out Ew25.out))))).2.2.2.2.2.2.1 (by simp)
  repeat (refine lexAt_still (by rfl) ?_; go_big_quiet_step (fail); refine wpQuiet_nil ?_)
  refine lexAt_move (by rfl) (by kernel_rfl) ?_
  go_wp2_with fail
  refine (qfrom_any wl w25 ⟨by omega, by omega⟩).mono ?_
  rintro e w26 ⟨sj, Aj, nj, cj, tj, Bj, mj, dj, rfl, hQ, hE⟩
  have Ew26 := LH hE
  clear hE
  have Qj := LH hQ
  clear hQ
  go_wp2_with fail
  refine And.intro (inX_of_ext _ Ew26.out) ?_
  repeat (refine lexAt_still (by rfl) ?_; go_big_quiet_step (fail); refine wpQuiet_nil ?_)
  refine lexAt_move (by rfl) (by kernel_rfl) ?_
  go_wp2_with fail
  refine (qmul_any s1 A1 n1 c1 t1 B1 m1 d1 _ sj Aj nj cj tj Bj mj dj _ w26 ⟨(H1.out.ext (ET Ew1.out (ET Ew2.out (ET Ew3.out (ET Ew18.out (ET NJ3.out (ET Ew25.out Ew26.out))))))), by omega, by omega⟩ (Qj.out.arg (sz_small (z := wl) (by omega) (by omega)) (by omega))).mono ?_
  rintro e w27 ⟨sm, Am, nm, cm, tm, Bm, mm, dm, rfl, hQ, hE⟩
  have Ew27 := LH hE
  clear hE
  have Qm := LH hQ
  clear hQ
  go_wp2_with fail
  refine And.intro (inX_of_ext _ (ET Ew26.out Ew27.out)) ?_
  repeat (refine lexAt_still (by rfl) ?_; go_big_quiet_step (fail); refine wpQuiet_nil ?_)
  refine lexAt_move (by rfl) (by kernel_rfl) ?_
  go_wp2_with fail
  refine (qfrom_any u.idle w27 ⟨by omega, by omega⟩).mono ?_
  rintro e w28 ⟨sl, Al, nl, cl, tl, Bl, ml, dl, rfl, hQ, hE⟩
  have Ew28 := LH hE
  clear hE
  have Ql := LH hQ
  clear hQ
  go_wp2_with fail
  refine And.intro (inX_of_ext _ (ET Ew26.out (ET Ew27.out Ew28.out))) ?_
  repeat (refine lexAt_still (by rfl) ?_; go_big_quiet_step (fail); refine wpQuiet_nil ?_)
  refine lexAt_move (by rfl) (by kernel_rfl) ?_
  go_wp2_with fail
  refine (qadd_any sk Ak nk ck tk Bk mk dk _ sl Al nl cl tl Bl ml dl _ w28 ((Qk_3.out.ext (ET Ew25.out (ET Ew26.out (ET Ew27.out Ew28.out)))).arg (sz_costV ((sz_small (z := wl) (by omega) (by omega)).mono (by omega))) (by omega)) (Ql.out.arg (sz_small (z := u.idle) (by omega) (by omega)) (by omega))).mono ?_
  rintro e w29 ⟨ss, As, ns, cs, ts, Bs, ms, ds, rfl, hQ, hE⟩
  have Ew29 := LH hE
  clear hE
  have Qs := LH hQ
  clear hQ
  go_wp2_with fail
  refine And.intro (inX_of_ext _ (ET Ew26.out (ET Ew27.out (ET Ew28.out Ew29.out)))) ?_
  repeat (refine lexAt_still (by rfl) ?_; go_big_quiet_step (fail); refine wpQuiet_nil ?_)
  refine lexAt_move (by rfl) (by kernel_rfl) ?_
  go_wp2_with fail
  refine (qsub_any sm Am nm cm tm Bm mm dm _ ss As ns cs ts Bs ms ds _ w29 ((Qm.out.ext (ET Ew28.out Ew29.out)).arg (HZ1.out.mul (sz_small (z := wl) (by omega) (by omega))) (by omega)) (Qs.out.arg ((sz_costV ((sz_small (z := wl) (by omega) (by omega)).mono (by omega))).add (sz_small (z := u.idle) (by omega) (by omega))) (by omega))).mono ?_
  rintro e w30 ⟨sz, Az, nz, cz, tz, Bz, mz, dz, rfl, hQ, hE⟩
  have Ew30 := LH hE
  clear hE
  have Qz := LH hQ
  clear hQ
  have HXe := LH (inX_of_ext [] (ET Ew26.out (ET Ew27.out (ET Ew28.out (ET Ew29.out Ew30.out)))))
  clear f10 f11 f12 f13 fck0 fck1 fck2 fck3 fu6
  obtain ⟨⟨o0, o1, o2, o3⟩, ⟨q0, q1, q2, q3⟩, ol⟩ := (Kr.out.ext (ET Ew2.out (ET Ew3.out (ET Ew18.out (ET NJ3.out (ET Ew25.out (ET Ew26.out (ET Ew27.out (ET Ew28.out (ET Ew29.out Ew30.out))))))))))
  go_wp2_with fail
  refine And.intro HXe.out ?_
  refine lexAt_last (by rfl) (by kernel_rfl) (by kernel_rfl) ?_
  go_wp2_with fail
  refine And.intro trivial (lexAt_nil ?_)
  clear o0 o1 o2 o3 q0 q1 q2 q3 ol HXe
  have Kr_4 := LH ((Kr.out.ext (ET Ew2.out (ET Ew3.out (ET Ew18.out (ET NJ3.out (ET Ew25.out (ET Ew26.out (ET Ew27.out (ET Ew28.out (ET Ew29.out Ew30.out)))))))))).put4 (.bool sz) (.slice Az nz cz) (.bool tz) (.slice Bz mz dz))
  have NJ4 := LH (ext_put4 (ET Ew1.out (ET Ew2.out (ET Ew3.out (ET Ew18.out (ET NJ3.out (ET Ew25.out (ET Ew26.out (ET Ew27.out (ET Ew28.out (ET Ew29.out Ew30.out)))))))))) (g := w.heap.size + 1 + 1) (by omega) 0 (.bool sz) (.slice Az nz cz) (.bool tz) (.slice Bz mz dz))
  have NZ4 : Hid (w30.heap.size ≤ (put4 w30 (w.heap.size + 1 + 1) 0 (.bool sz) (.slice Az nz cz) (.bool tz) (.slice Bz mz dz)).heap.size) := by unfold Hid; rw [put4_size]; exact Nat.le_refl _
  have Ku_4 := LH ((Ku.out.ext (ET Ew2.out (ET Ew3.out (ET Ew18.out (ET NJ3.out (ET Ew25.out (ET Ew26.out (ET Ew27.out (ET Ew28.out (ET Ew29.out Ew30.out)))))))))).put4 (g' := w.heap.size + 1 + 1) (by omega) 0 (.bool sz) (.slice Az nz cz) (.bool tz) (.slice Bz mz dz))
  have K1_4 := LH ((K1.out.ext (ET Ew2.out (ET Ew3.out (ET Ew18.out (ET NJ3.out (ET Ew25.out (ET Ew26.out (ET Ew27.out (ET Ew28.out (ET Ew29.out Ew30.out)))))))))).far4 (g := w.heap.size + 1 + 1) (off := 0) (by omega) (.bool sz) (.slice Az nz cz) (.bool tz) (.slice Bz mz dz))
  have Qz_4 := LH (Qz.out.put4A (g := w.heap.size + 1 + 1) (Qz.out.span (.inl (Nat.lt_of_lt_of_le Kr.out.2.2 (Nat.le_trans Ew2.out.size (Nat.le_trans Ew3.out.size (Nat.le_trans Ew18.out.size (Nat.le_trans Ew19.out.size (Nat.le_trans Ew20.out.size (Nat.le_trans Ew21.out.size (Nat.le_trans Ew22.out.size (Nat.le_trans Ew23.out.size (Nat.le_trans NZ3.out (Nat.le_trans Ew25.out.size (Nat.le_trans Ew26.out.size (Nat.le_trans Ew27.out.size (Nat.le_trans Ew28.out.size Ew29.out.size)))))))))))))))) 0 (.bool sz) (.slice Az nz cz) (.bool tz) (.slice Bz mz dz))
  unfold put4 at Kr_4 NJ4 NZ4 Ku_4 K1_4 Qz_4
  simp only [Nat.zero_add] at Kr_4 NJ4 NZ4 Ku_4 K1_4 Qz_4
  generalize ((((w30.setCell ⟨w.heap.size + 1 + 1, 0, none⟩ (.bool sz)).setCell ⟨w.heap.size + 1 + 1, 1, none⟩ (.slice Az nz cz)).setCell ⟨w.heap.size + 1 + 1, 2, none⟩ (.bool tz)).setCell ⟨w.heap.size + 1 + 1, 3, none⟩ (.slice Bz mz dz)) = w31 at *
  obtain ⟨⟨xr0, xr1, xr2, xr3⟩, ⟨yr0, yr1, yr2, yr3⟩, zr⟩ := Kr_4.out
  go_wp2_with fail
  go_region
  go_wp2_with fail
  have hdr : Ext w31 w31.drew := Ext.rfl'.drew
  have hqz : QCan w31.drew w29.heap.size sz Az nz cz tz Bz mz dz (u.hpE p) := by
   rw [show u.hpE p = ((p * ((wl : Int) : Rat)) - ((costV u.steps ((wl : Int) : Rat)) + ((u.idle : Int) : Rat))) by unfold U.hpE; rw [if_pos HOK.out]; unfold U.hp; rw [HHQ.out]]
   exact Qz_4.out.ext hdr
  refine bodyPost_ret (v := .tuple #[.int .i64 (wl), .agg #[.bool sz, .slice Az nz cz, .bool tz, .slice Bz mz dz], .int .i64 0]) (by simp [results, Tryz.results8, go_sem, xr0, xr1, xr2, xr3]) rfl ?_
  exact ⟨_, _, _, _, _, _, _, _, ret_hour (by unfold U.hqE; rw [if_pos HOK.out, HHQ.out]) HCK.out.symm, retQ_fill (by omega) (Nat.lt_of_lt_of_le Kr.out.2.2 (Nat.le_trans Ew2.out.size (Nat.le_trans Ew3.out.size (Nat.le_trans Ew18.out.size (Nat.le_trans Ew19.out.size (Nat.le_trans Ew20.out.size (Nat.le_trans Ew21.out.size (Nat.le_trans Ew22.out.size (Nat.le_trans Ew23.out.size (Nat.le_trans NZ3.out (Nat.le_trans Ew25.out.size (Nat.le_trans Ew26.out.size (Nat.le_trans Ew27.out.size (Nat.le_trans Ew28.out.size Ew29.out.size)))))))))))))) hqz (ET NJ4.out hdr) _ _ _ _⟩
end Go.Proofs.YtjinpfnefeiooaaGreat
