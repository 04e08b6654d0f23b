/- A part of the proof. -/
import Derived.Test.YtjinpfnefeiooaaGreatRefFS
namespace Go.Proofs.YtjinpfnefeiooaaGreat
open Go.RowKit

theorem sz_prof6 {u : U} (h : u.ok = true) {ps : List Rat} {row : List Bool} (hl : row.length ≤ 8) (hz : ∀ i, i < ps.length → Sz 6 (ps.getD i 0)) : ∀ k, k ≤ ps.length → Sz (8036 * k + 2) (u.profTo ps row k)
 | 0, _ => by
  have g := U.good h
  have hs := starts_range (u := u) row
  have hp := start_prod g.st0 g.st9 hs.1 (by omega)
  exact sz_int (by omega) (by
   have : (4294967296 : Nat) ^ (8036 * 0 + 2) = 18446744073709551616 := by decide
   rw [this]
   omega)
 | k + 1, hk => by
  have ih := sz_prof6 h hl hz k (by omega)
  unfold U.profTo
  split
  ·exact (ih.add (sz_hp h (hz k (by omega)))).mono (by omega)
  ·exact ih.mono (by omega)
theorem neg_mul_swap (a b : Int) : -a * b = -b * a := by rw [Int.neg_mul, Int.neg_mul, Int.mul_comm]
set_option maxRecDepth 100000 in
set_option maxHeartbeats 16000000 in
theorem rprofit_any (u : U) (A : Option Addr) (n c : Nat) (P : Option Addr) (m cp : Nat) (ps : List Rat) (R : Option Addr) (dR : Nat) (row : List Bool) (w : World) (hs : StepsAt w A n u.steps) (hn : n ≤ maxLen) (hp : QsAt w P m ps) (hr : BoolsAt w R m row) (hm8 : m ≤ 8) (hok : u.ok = true) (hz6 : ∀ i, i < ps.length → Sz 6 (ps.getD i 0)) :
  Calls Tryz.prog 39 #[u.val A n c, .slice P m cp, .slice R m dR] w (RetQ w (u.profTo ps row m)) := by
 have HS := LH hs
 have HP := LH hp
 have HR := LH hr
 have HPL := LH hp.1
 have HRL := LH hr.1
 have HCK := LH ((ok_iff u).1 hok)
 have hst0 := (U.good hok).st0
 have hst9 := (U.good hok).st9
 have HOK := LH hok
 have HZ6 := LH hz6
 clear hs hp hr hok hz6
 go_enter Tryz.func39, Tryz.ntmps39
 go_wp2_with fail
 have k0 := UBox.new (w) (w.heap.size) (by simp) u A n c 24
 have k1 := Cell4.new ((w).alloc (.cells #[.int .i64 u.bus, .int .i64 u.mn, .slice A n c, .int .i64 u.up, .int .i64 u.down, .int .i64 u.start, .int .i64 u.idle, .int .i64 u.spin, .int .i64 u.on] 24)) (w.heap.size + 1) (by simp) (.bool false) (.slice none 0 0) (.bool false) (.slice none 0 0) 29
 have hE : Ext w (((w).alloc (.cells #[.int .i64 u.bus, .int .i64 u.mn, .slice A n c, .int .i64 u.up, .int .i64 u.down, .int .i64 u.start, .int .i64 u.idle, .int .i64 u.spin, .int .i64 u.on] 24)).alloc (.cells #[.bool false, .slice none 0 0, .bool false, .slice none 0 0] 29)) := (Ext.al (Ext.al Ext.rfl' _) _)
 have k0 := k0.ext (show Ext ((w).alloc (.cells #[.int .i64 u.bus, .int .i64 u.mn, .slice A n c, .int .i64 u.up, .int .i64 u.down, .int .i64 u.start, .int .i64 u.idle, .int .i64 u.spin, .int .i64 u.on] 24)) (((w).alloc (.cells #[.int .i64 u.bus, .int .i64 u.mn, .slice A n c, .int .i64 u.up, .int .i64 u.down, .int .i64 u.start, .int .i64 u.idle, .int .i64 u.spin, .int .i64 u.on] 24)).alloc (.cells #[.bool false, .slice none 0 0, .bool false, .slice none 0 0] 29)) from (Ext.al Ext.rfl' _))
 have hsz : (((w).alloc (.cells #[.int .i64 u.bus, .int .i64 u.mn, .slice A n c, .int .i64 u.up, .int .i64 u.down, .int .i64 u.start, .int .i64 u.idle, .int .i64 u.spin, .int .i64 u.on] 24)).alloc (.cells #[.bool false, .slice none 0 0, .bool false, .slice none 0 0] 29)).heap.size = w.heap.size + 1 + 1 := by simp
 generalize ((w).alloc (.cells #[.int .i64 u.bus, .int .i64 u.mn, .slice A n c, .int .i64 u.up, .int .i64 u.down, .int .i64 u.start, .int .i64 u.idle, .int .i64 u.spin, .int .i64 u.on] 24)).alloc (.cells #[.bool false, .slice none 0 0, .bool false, .slice none 0 0] 29) = w1 at *
 have SZw1 := LH hsz
 clear hsz
 have Ew1 := LH hE
 clear hE
 have Ku := LH k0
 clear k0
 have Kr := LH k1
 clear k1
 obtain ⟨st, hst⟩ : ∃ v, u.starts row = v := ⟨_, rfl⟩
 have hsr := starts_range (u := u) row
 rw [hst, HRL.out] at hsr
 obtain ⟨hsr0, hsr1⟩ := hsr
 obtain ⟨pr, hpr⟩ : ∃ v, -st * u.start = v := ⟨_, rfl⟩
 obtain ⟨hpr0, hpr1⟩ : -8000000000 ≤ pr ∧ pr ≤ 0 := by rw [← hpr, neg_mul_swap]; exact start_prod hst0 hst9 hsr0 (by omega)
 have HP0 : Hid (u.profTo ps row 0 = ((pr : Int) : Rat)) := by unfold Hid U.profTo; rw [hst, ← neg_mul_swap, hpr]
 have HST := LH hst
 clear hst
 refine wp_region_havS [8] [0, 1, 2, 3, 4, 5, 6, 7] [9] (fun _ => .cells #[.bool false, .slice none 0 0, .bool false, .slice none 0 0] 29) (by kernel_rfl) (by kernel_rfl) ?_ ?_
 ·intro f hf
  simp only [List.mem_cons, List.not_mem_nil, or_false] at hf
  rcases hf with rfl
  all_goals exact makes_q (by rfl) rfl
 have hE : Ext w1 w1.drew := Ext.rfl'.drew
 generalize w1.drew = w2 at *
 have Ew2 := LH hE
 clear hE
 have fu0 := fun z : ExtX w2 [] => z.cell (p := ⟨w.heap.size, 0, none⟩) (Ku.out.ext Ew2.out).1 (by simp)
 have fu1 := fun z : ExtX w2 [] => z.cell (p := ⟨w.heap.size, 1, none⟩) (Ku.out.ext Ew2.out).2.1 (by simp)
 have fu2 := fun z : ExtX w2 [] => z.cell (p := ⟨w.heap.size, 2, none⟩) (Ku.out.ext Ew2.out).2.2.1 (by simp)
 have fu3 := fun z : ExtX w2 [] => z.cell (p := ⟨w.heap.size, 3, none⟩) (Ku.out.ext Ew2.out).2.2.2.1 (by simp)
 have fu4 := fun z : ExtX w2 [] => z.cell (p := ⟨w.heap.size, 4, none⟩) (Ku.out.ext Ew2.out).2.2.2.2.1 (by simp)
 have fu5 := fun z : ExtX w2 [] => z.cell (p := ⟨w.heap.size, 5, none⟩) (Ku.out.ext Ew2.out).2.2.2.2.2.1 (by simp)
 have fu6 := fun z : ExtX w2 [] => z.cell (p := ⟨w.heap.size, 6, none⟩) (Ku.out.ext Ew2.out).2.2.2.2.2.2.1 (by simp)
 have fu7 := fun z : ExtX w2 [] => z.cell (p := ⟨w.heap.size, 7, none⟩) (Ku.out.ext Ew2.out).2.2.2.2.2.2.2.1 (by simp)
 have fu8 := fun z : ExtX w2 [] => z.cell (p := ⟨w.heap.size, 8, none⟩) (Ku.out.ext Ew2.out).2.2.2.2.2.2.2.2 (by simp)
 intro w3 hE
 have Ew3 := LH hE
 clear hE
 repeat (refine havAt_still (by rfl) (by rfl) ?_; go_big_quiet_step (fail); refine wpQuiet_nil ?_)
 refine havAt_move (by rfl) (by rfl) (by kernel_rfl) ?_
 go_wp2_with fail
 refine (rstarts_any u A n c R m dR row w3 (HS.out.below (ET Ew1.out (ET Ew2.out Ew3.out))) hn (HR.out.below (ET Ew1.out (ET Ew2.out Ew3.out))) (by omega) HOK.out).mono ?_
 rintro e w4 ⟨rfl, hE⟩
 have Ew4 := LH hE
 clear hE
 rw [HST.out]
 go_wp2_with fail
 refine And.intro Ew4.out (fun w5 hE => ?_)
 have Ew5 := LH hE
 clear hE
 repeat (refine havAt_still (by rfl) (by rfl) ?_; go_big_quiet_step (fail); refine wpQuiet_nil ?_)
 refine havAt_move (by rfl) (by rfl) (by kernel_rfl) ?_
 go_wp2_with fail
 refine (rint_any pr w5 ⟨by omega, by omega⟩).mono ?_
 rintro e w6 ⟨si, Ai, ni, ci, ti, Bi, mi, di, rfl, hQ, hE⟩
 have Ew6 := LH hE
 clear hE
 have Qi := LH hQ
 clear hQ
 go_wp2_with fail
 refine And.intro Ew6.out (fun w7 hE => ?_)
 have Ew7 := LH hE
 clear hE
 repeat (refine havAt_still (by rfl) (by rfl) ?_; go_big_quiet_step (fail); refine wpQuiet_nil ?_)
 refine havAt_end ?_
 intro gs hgs hne
 have hpp := hgs 8 (by simp)
 change IdxAt _ _ _ _ _ _ (Act.put _ (some 7) (.pointer (some ⟨gs 8, 0, none⟩))) _
 generalize gs 8 = gp at *
 clear hgs hne
 simp only [Act.put, List.setIfInBounds_toArray, List.set_cons_succ, List.set_cons_zero]
 have Pp := LH hpp
 have Kp := LH (Cell4.of_blk hpp.2.1)
 clear hpp
 repeat (refine idxAt_still (by rfl) (by rfl) ?_; go_big_quiet_step (fail); refine wpQuiet_nil ?_)
 obtain ⟨⟨o0, o1, o2, o3⟩, ⟨q0, q1, q2, q3⟩, ol⟩ := Kp.out
 refine idxAt_move (by rfl) (by rfl) (by kernel_rfl) ?_
 go_wp2_with fail
 refine And.intro (inX_put (p := ⟨gp, 3, none⟩) (inX_put (p := ⟨gp, 2, none⟩) (inX_put (p := ⟨gp, 1, none⟩) (inX_put (p := ⟨gp, 0, none⟩) (inX_of_ext _ (ET Ew3.out (ET Ew4.out (ET Ew5.out (ET Ew6.out Ew7.out))))) (.inr Pp.out.1) _) (.inr Pp.out.1) _) (.inr Pp.out.1) _) (.inr Pp.out.1) _) ?_
 clear o0 o1 o2 o3 q0 q1 q2 q3 ol
 have Kp_1 := LH (Kp.out.put4 (.bool si) (.slice Ai ni ci) (.bool ti) (.slice Bi mi di))
 have NJ1 := LH (ext_put4 (ET Ew3.out (ET Ew4.out (ET Ew5.out (ET Ew6.out Ew7.out)))) (g := gp) Pp.out.1 0 (.bool si) (.slice Ai ni ci) (.bool ti) (.slice Bi mi di))
 have NZ1 : Hid (w7.heap.size ≤ (put4 w7 (gp) 0 (.bool si) (.slice Ai ni ci) (.bool ti) (.slice Bi mi di)).heap.size) := by unfold Hid; rw [put4_size]; exact Nat.le_refl _
 have Qi_1 := LH ((Qi.out.ext Ew7.out).put4A (g := gp) (Qi.out.span (Pp.out.2.2 (w5.heap.size, w6.heap.size) (by simp))) 0 (.bool si) (.slice Ai ni ci) (.bool ti) (.slice Bi mi di))
 unfold put4 at Kp_1 NJ1 NZ1 Qi_1
 simp only [Nat.zero_add] at Kp_1 NJ1 NZ1 Qi_1
 generalize ((((w7.setCell ⟨gp, 0, none⟩ (.bool si)).setCell ⟨gp, 1, none⟩ (.slice Ai ni ci)).setCell ⟨gp, 2, none⟩ (.bool ti)).setCell ⟨gp, 3, none⟩ (.slice Bi mi di)) = w8 at *
 repeat (refine idxAt_still (by rfl) (by rfl) ?_; go_big_quiet_step (fail); refine wpQuiet_nil ?_)
 refine idxAt_nil ?_
 clear fu0 fu1 fu2 fu3 fu4 fu5 fu6 fu7 fu8
 clear hpr
 go_wp2_with fail
 have HAWi : Hid (∀ x ∈ [gp], Away x (x + 1) Ai ni ∧ Away x (x + 1) Bi mi) := fun x hx => by
   simp only [List.mem_cons, List.not_mem_nil, or_false] at hx
   subst hx
   exact (Qi.out.span (Pp.out.2.2 (w5.heap.size, w6.heap.size) (by simp)))
 have HZ : Hid (∀ k, k ≤ m → Sz (8036 * k + 2) (u.profTo ps row k)) := fun k hk => sz_prof6 HOK.out (by rw [HRL.out]; exact hm8) (fun i hi => HZ6.out i hi) k (by rw [HPL.out]; exact hk)
 have hQ0 := Qi_1.out
 rw [← HP0.out] at hQ0
 have Q0 := LH hQ0
 clear hQ0
 have HGP : Hid (w2.heap.size ≤ gp) := Pp.out.1
 go_loopw [8] (fun i wr => ∃ k : Nat, k ≤ m ∧ i = .int .i64 k ∧ Hid (Ext w2 wr ∧ VarQ wr w2.heap.size [gp] gp (u.profTo ps row k))) (fun i _ => m - (intOf i).toNat)
 case atStart => exact ⟨0, by omega, rfl, NJ1.out, ⟨si, Ai, ni, ci, ti, Bi, mi, di, Kp_1.out, Q0.out.base (Nat.le_trans Ew3.out.size (Nat.le_trans Ew4.out.size Ew5.out.size)), HAWi.out⟩⟩
 case round =>
  obtain ⟨k, hk, rfl, HI⟩ := hrel
  obtain ⟨hEr, ⟨sv, Av, nv, cv, tv, Bv, mv, dv, hKu, hQu, hAu⟩⟩ := HI.out
  have HEr := LH hEr
  have HKu := LH hKu
  have HQu := LH hQu
  have HAu := LH hAu
  clear hEr hKu hQu hAu HI HAWi Q0
  have HZk : Hid (Sz 64300 (u.profTo ps row k)) := (HZ.out k hk).mono (by omega)
  by_cases hlt : k < m
  rotate_left
  ·have hkn : k = m := by omega
   subst hkn
   have hbv : decide ((k : Int) < (k : Int)) = false := by simp
   have hbv2 : decide (k < k) = false := by simp
   obtain ⟨⟨xp0, xp1, xp2, xp3⟩, -, zp⟩ := HKu.out
   obtain ⟨⟨e0, e1, e2, e3⟩, ⟨f0, f1, f2, f3⟩, el⟩ := (Kr.out.ext (ET Ew2.out HEr.out))
   go_wp2_with fail
   refine bodyPost_ret (v := .agg #[.bool sv, .slice Av nv cv, .bool tv, .slice Bv mv dv]) (by simp [results, Tryz.results39, go_sem, e0, e1, e2, e3]) rfl ?_
   exact ⟨_, _, _, _, _, _, _, _, rfl, retQ_fill (by omega) (Nat.lt_of_lt_of_le Kr.out.2.2 Ew2.out.size) HQu.out (ET Ew1.out (ET Ew2.out HEr.out)) _ _ _ _⟩
  have hbv : decide ((k : Int) < (m : Int)) = true := by simp; omega
  have hbv2 : decide (k < m) = true := by simp; omega
  have hz0 : (0 : Int) ≤ (k : Int) := by omega
  have hzn : (k : Int) < (m : Int) := by omega
  obtain ⟨bR, oR, hR, hbR, hcR⟩ := HR.out.2 (by omega)
  subst hR
  obtain ⟨bP, oP, hP, hbP, hcP⟩ := HP.out.2 (by omega)
  subst hP
  obtain ⟨sp, Ap, np, cp, tp, Bp, mp, dp, p0, p1, p2, p3, hpi, lp1, lp2⟩ := hcP k hlt
  have HP4 := LH (And.intro p0 (And.intro p1 (And.intro p2 p3)))
  have Hp := LH hpi
  have xrow := Ext.cellOf (ET Ew1.out (ET Ew2.out HEr.out)) (hcR k hlt)
  have HPT : Hid (u.profTo ps row (k + 1) = if row.getD k false = true then u.profTo ps row k + u.hp (ps.getD k 0) else u.profTo ps row k) := rfl
  have HZp := LH (HZ6.out k (by rw [HPL.out]; exact hlt))
  obtain ⟨pk, hpk⟩ : ∃ v, ps.getD k 0 = v := ⟨_, rfl⟩
  obtain ⟨bb, hbb⟩ : ∃ v, row.getD k false = v := ⟨_, rfl⟩
  rw [hpk] at HPT Hp HZp
  rw [hbb] at HPT xrow
  clear hcR hcP p0 p1 p2 p3 hpi hpk hbb hbR hbP
  cases bb
  ·skip
   go_wp2_with fail
   go_roundw
   case rel => exact ⟨k + 1, by omega, by go_num, HEr.out, ⟨sv, Av, nv, cv, tv, Bv, mv, dv, HKu.out, by rw [HPT.out, if_neg (by simp)]; exact HQu.out, HAu.out⟩⟩
   case measure => simp [intOf]; omega
  go_wp2_with fail
  clear xrow
  refine wp_region_havS [10] [0, 1, 2, 3, 4, 5, 6, 7, 8, 9] [11, 12, 13] (fun _ => .cells #[.bool false, .slice none 0 0, .bool false, .slice none 0 0] 29) (by kernel_rfl) (by kernel_rfl) ?_ ?_
  ·intro f hf
   simp only [List.mem_cons, List.not_mem_nil, or_false] at hf
   rcases hf with rfl
   all_goals exact makes_q (by rfl) rfl
  have hE : Ext wr wr.drew := Ext.rfl'.drew
  generalize wr.drew = w9 at *
  have Ew9 := LH hE
  clear hE
  have fu0 := fun z : ExtX w9 [] => z.cell (p := ⟨w.heap.size, 0, none⟩) (Ku.out.ext (ET Ew2.out (ET HEr.out Ew9.out))).1 (by simp)
  have fu1 := fun z : ExtX w9 [] => z.cell (p := ⟨w.heap.size, 1, none⟩) (Ku.out.ext (ET Ew2.out (ET HEr.out Ew9.out))).2.1 (by simp)
  have fu2 := fun z : ExtX w9 [] => z.cell (p := ⟨w.heap.size, 2, none⟩) (Ku.out.ext (ET Ew2.out (ET HEr.out Ew9.out))).2.2.1 (by simp)
  have fu3 := fun z : ExtX w9 [] => z.cell (p := ⟨w.heap.size, 3, none⟩) (Ku.out.ext (ET Ew2.out (ET HEr.out Ew9.out))).2.2.2.1 (by simp)
  have fu4 := fun z : ExtX w9 [] => z.cell (p := ⟨w.heap.size, 4, none⟩) (Ku.out.ext (ET Ew2.out (ET HEr.out Ew9.out))).2.2.2.2.1 (by simp)
  have fu5 := fun z : ExtX w9 [] => z.cell (p := ⟨w.heap.size, 5, none⟩) (Ku.out.ext (ET Ew2.out (ET HEr.out Ew9.out))).2.2.2.2.2.1 (by simp)
  have fu6 := fun z : ExtX w9 [] => z.cell (p := ⟨w.heap.size, 6, none⟩) (Ku.out.ext (ET Ew2.out (ET HEr.out Ew9.out))).2.2.2.2.2.2.1 (by simp)
  have fu7 := fun z : ExtX w9 [] => z.cell (p := ⟨w.heap.size, 7, none⟩) (Ku.out.ext (ET Ew2.out (ET HEr.out Ew9.out))).2.2.2.2.2.2.2.1 (by simp)
  have fu8 := fun z : ExtX w9 [] => z.cell (p := ⟨w.heap.size, 8, none⟩) (Ku.out.ext (ET Ew2.out (ET HEr.out Ew9.out))).2.2.2.2.2.2.2.2 (by simp)
  have fp0 := fun z : ExtX w9 [] => z.cell (p := ⟨bP, oP + k * 4, none⟩) (Ext.cellOf (ET Ew1.out (ET Ew2.out (ET HEr.out Ew9.out))) HP4.out.1) (by simp)
  have fp1 := fun z : ExtX w9 [] => z.cell (p := ⟨bP, oP + k * 4 + 1, none⟩) (Ext.cellOf (ET Ew1.out (ET Ew2.out (ET HEr.out Ew9.out))) HP4.out.2.1) (by simp)
  have fp2 := fun z : ExtX w9 [] => z.cell (p := ⟨bP, oP + k * 4 + 2, none⟩) (Ext.cellOf (ET Ew1.out (ET Ew2.out (ET HEr.out Ew9.out))) HP4.out.2.2.1) (by simp)
  have fp3 := fun z : ExtX w9 [] => z.cell (p := ⟨bP, oP + k * 4 + 3, none⟩) (Ext.cellOf (ET Ew1.out (ET Ew2.out (ET HEr.out Ew9.out))) HP4.out.2.2.2) (by simp)
  intro w10 hE
  have Ew10 := LH hE
  clear hE
  repeat (refine havAt_still (by rfl) (by rfl) ?_; go_big_quiet_step (fail); refine wpQuiet_nil ?_)
  refine havAt_move (by rfl) (by rfl) (by kernel_rfl) ?_
  go_wp2_with fail
  refine (rhour_any u A n c sp Ap np cp tp Bp mp dp pk w10 (HS.out.below (ET Ew1.out (ET Ew2.out (ET HEr.out (ET Ew9.out Ew10.out))))) hn (Hp.out.ext (ET Ew1.out (ET Ew2.out (ET HEr.out (ET Ew9.out Ew10.out))))) lp1 lp2).mono ?_
  rintro e w11 ⟨sh, Ah, nh, ch, th, Bh, mh, dh, rfl, hQ, hE⟩
  have Ew11 := LH hE
  clear hE
  have Qh := LH hQ
  clear hQ
  rw [HCK.out]
  have HZh : Hid (Sz 8034 (u.hpE pk)) := by unfold Hid U.hpE; rw [if_pos HOK.out]; exact sz_hp HOK.out HZp.out
  go_wp2_with fail
  refine And.intro Ew11.out (fun w12 hE => ?_)
  have Ew12 := LH hE
  clear hE
  repeat (refine havAt_still (by rfl) (by rfl) ?_; go_big_quiet_step (fail); refine wpQuiet_nil ?_)
  refine havAt_end ?_
  intro gs hgs hne
  have hpg := hgs 10 (by simp)
  change IdxAt _ _ _ _ _ _ (Act.put _ (some 10) (.pointer (some ⟨gs 10, 0, none⟩))) _
  generalize gs 10 = gg at *
  clear hgs hne
  simp only [Act.put, List.setIfInBounds_toArray, List.set_cons_succ, List.set_cons_zero]
  have Pg := LH hpg
  have Kg := LH (Cell4.of_blk hpg.2.1)
  clear hpg
  repeat (refine idxAt_still (by rfl) (by rfl) ?_; go_big_quiet_step (fail); refine wpQuiet_nil ?_)
  obtain ⟨⟨o0, o1, o2, o3⟩, ⟨q0, q1, q2, q3⟩, ol⟩ := Kg.out
  refine idxAt_move (by rfl) (by rfl) (by kernel_rfl) ?_
  go_wp2_with fail
  refine And.intro (inX_put (p := ⟨gg, 3, none⟩) (inX_put (p := ⟨gg, 2, none⟩) (inX_put (p := ⟨gg, 1, none⟩) (inX_put (p := ⟨gg, 0, none⟩) (inX_of_ext _ (ET Ew10.out (ET Ew11.out Ew12.out))) (.inr Pg.out.1) _) (.inr Pg.out.1) _) (.inr Pg.out.1) _) (.inr Pg.out.1) _) ?_
  clear o0 o1 o2 o3 q0 q1 q2 q3 ol
  have Kg_2 := LH (Kg.out.put4 (.bool sh) (.slice Ah nh ch) (.bool th) (.slice Bh mh dh))
  have NJ2 := LH (ext_put4 (ET Ew10.out (ET Ew11.out Ew12.out)) (g := gg) Pg.out.1 0 (.bool sh) (.slice Ah nh ch) (.bool th) (.slice Bh mh dh))
  have NZ2 : Hid (w12.heap.size ≤ (put4 w12 (gg) 0 (.bool sh) (.slice Ah nh ch) (.bool th) (.slice Bh mh dh)).heap.size) := by unfold Hid; rw [put4_size]; exact Nat.le_refl _
  have Qh_2 := LH ((Qh.out.ext Ew12.out).put4A (g := gg) (Qh.out.span (Pg.out.2.2 (w10.heap.size, w11.heap.size) (by simp))) 0 (.bool sh) (.slice Ah nh ch) (.bool th) (.slice Bh mh dh))
  unfold put4 at Kg_2 NJ2 NZ2 Qh_2
  simp only [Nat.zero_add] at Kg_2 NJ2 NZ2 Qh_2
  generalize ((((w12.setCell ⟨gg, 0, none⟩ (.bool sh)).setCell ⟨gg, 1, none⟩ (.slice Ah nh ch)).setCell ⟨gg, 2, none⟩ (.bool th)).setCell ⟨gg, 3, none⟩ (.slice Bh mh dh)) = w13 at *
  repeat (refine idxAt_still (by rfl) (by rfl) ?_; go_big_quiet_step (fail); refine wpQuiet_nil ?_)
  refine idxAt_nil ?_
  clear fu0 fu1 fu2 fu3 fu4 fu5 fu6 fu7 fu8 fp0 fp1 fp2 fp3
  obtain ⟨⟨xp0, xp1, xp2, xp3⟩, -, zp⟩ := (HKu.out.ext (ET Ew9.out NJ2.out))
  obtain ⟨⟨xg0, xg1, xg2, xg3⟩, -, zg⟩ := Kg_2.out
  go_wp2_with fail
  clear xp0 xp1 xp2 xp3 zp xg0 xg1 xg2 xg3 zg
  refine (rqadd_any sv Av nv cv tv Bv mv dv _ sh Ah nh ch th Bh mh dh _ 66000 w13 ((HQu.out.ext (ET Ew9.out NJ2.out)).rarg HZk.out (by omega)) (Qh_2.out.rarg HZh.out (by omega)) (by omega)).mono ?_
  rintro e w14 ⟨sz, Az, nz, cz, tz, Bz, mz, dz, rfl, hQ, hE⟩
  have Ew14 := LH hE
  clear hE
  have Qz := LH hQ
  clear hQ
  obtain ⟨⟨xp0, xp1, xp2, xp3⟩, ⟨yp0, yp1, yp2, yp3⟩, zp⟩ := (HKu.out.ext (ET Ew9.out (ET NJ2.out Ew14.out)))
  go_wp2_with fail
  clear xp0 xp1 xp2 xp3 yp0 yp1 yp2 yp3 zp
  have Kp_3 := LH ((HKu.out.ext (ET Ew9.out (ET NJ2.out Ew14.out))).put4 (.bool sz) (.slice Az nz cz) (.bool tz) (.slice Bz mz dz))
  have NJ3 := LH (ext_put4 (ET HEr.out (ET Ew9.out (ET NJ2.out Ew14.out))) (g := gp) HGP.out 0 (.bool sz) (.slice Az nz cz) (.bool tz) (.slice Bz mz dz))
  have NZ3 : Hid (w14.heap.size ≤ (put4 w14 (gp) 0 (.bool sz) (.slice Az nz cz) (.bool tz) (.slice Bz mz dz)).heap.size) := by unfold Hid; rw [put4_size]; exact Nat.le_refl _
  have Qz_3 := LH (Qz.out.put4A (g := gp) (Qz.out.span (.inl (Nat.lt_of_lt_of_le HKu.out.2.2 (Nat.le_trans Ew9.out.size (Nat.le_trans Ew10.out.size (Nat.le_trans Ew11.out.size (Nat.le_trans Ew12.out.size NZ2.out))))))) 0 (.bool sz) (.slice Az nz cz) (.bool tz) (.slice Bz mz dz))
  unfold put4 at Kp_3 NJ3 NZ3 Qz_3
  simp only [Nat.zero_add] at Kp_3 NJ3 NZ3 Qz_3
  generalize ((((w14.setCell ⟨gp, 0, none⟩ (.bool sz)).setCell ⟨gp, 1, none⟩ (.slice Az nz cz)).setCell ⟨gp, 2, none⟩ (.bool tz)).setCell ⟨gp, 3, none⟩ (.slice Bz mz dz)) = w15 at *
  go_roundw
  have HAWz : Hid (∀ x ∈ [gp], Away x (x + 1) Az nz ∧ Away x (x + 1) Bz mz) := fun x hx => by
    simp only [List.mem_cons, List.not_mem_nil, or_false] at hx
    subst hx
    exact (Qz.out.span (.inl (Nat.lt_of_lt_of_le HKu.out.2.2 (Nat.le_trans Ew9.out.size (Nat.le_trans Ew10.out.size (Nat.le_trans Ew11.out.size (Nat.le_trans Ew12.out.size NZ2.out)))))))
  have hQz := Qz_3.out
  have HQ2 : Hid (QCan w15 w2.heap.size sz Az nz cz tz Bz mz dz (u.profTo ps row (k + 1))) := by
   unfold Hid
   rw [HPT.out, if_pos (by trivial)]
   have e : u.hpE pk = u.hp pk := by unfold U.hpE; rw [if_pos HOK.out]
   rw [← e]
   exact hQz.base (Nat.le_trans HEr.out.size (Nat.le_trans Ew9.out.size (Nat.le_trans Ew10.out.size (Nat.le_trans Ew11.out.size (Nat.le_trans Ew12.out.size NZ2.out)))))
  case rel => exact ⟨k + 1, by omega, by go_num, NJ3.out, ⟨sz, Az, nz, cz, tz, Bz, mz, dz, Kp_3.out, HQ2.out, HAWz.out⟩⟩
  case measure => simp [intOf]; omega
set_option maxRecDepth 100000 in
set_option maxHeartbeats 8000000 in
theorem rProfit_any (u : U) (A : Option Addr) (n c : Nat) (P : Option Addr) (np cp : Nat) (ps : List Rat) (R : Option Addr) (m dR : Nat) (row : List Bool) (w : World) (hs : StepsAt w A n u.steps) (hn : n ≤ maxLen) (hp : QsAt w P np ps) (hnp : np ≤ maxLen) (hr : BoolsAt w R m row) (hm : m ≤ maxLen) (hz6 : ∀ i, i < ps.length → Sz 6 (ps.getD i 0)) :
  Calls Tryz.prog 11 #[u.val A n c, .slice P np cp, .slice R m dR] w (RetProf w u ps row) := by
 have HS := LH hs
 have HP := LH hp
 have HR := LH hr
 have HPL := LH hp.1
 have HRL := LH hr.1
 have HZ6 := LH hz6
 clear hs hp hr hz6
 unfold maxLen at hnp hm
 go_enter Tryz.func11, Tryz.ntmps11
 go_wp2_with fail
 have k0 := UBox.new (w) (w.heap.size) (by simp) u A n c 24
 have k1 := Cell4.new ((w).alloc (.cells #[.int .i64 u.bus, .int .i64 u.mn, .slice A n c, .int .i64 u.up, .int .i64 u.down, .int .i64 u.start, .int .i64 u.idle, .int .i64 u.spin, .int .i64 u.on] 24)) (w.heap.size + 1) (by simp) (.bool false) (.slice none 0 0) (.bool false) (.slice none 0 0) 29
 have hE : Ext w (((w).alloc (.cells #[.int .i64 u.bus, .int .i64 u.mn, .slice A n c, .int .i64 u.up, .int .i64 u.down, .int .i64 u.start, .int .i64 u.idle, .int .i64 u.spin, .int .i64 u.on] 24)).alloc (.cells #[.bool false, .slice none 0 0, .bool false, .slice none 0 0] 29)) := (Ext.al (Ext.al Ext.rfl' _) _)
 have k0 := k0.ext (show Ext ((w).alloc (.cells #[.int .i64 u.bus, .int .i64 u.mn, .slice A n c, .int .i64 u.up, .int .i64 u.down, .int .i64 u.start, .int .i64 u.idle, .int .i64 u.spin, .int .i64 u.on] 24)) (((w).alloc (.cells #[.int .i64 u.bus, .int .i64 u.mn, .slice A n c, .int .i64 u.up, .int .i64 u.down, .int .i64 u.start, .int .i64 u.idle, .int .i64 u.spin, .int .i64 u.on] 24)).alloc (.cells #[.bool false, .slice none 0 0, .bool false, .slice none 0 0] 29)) from (Ext.al Ext.rfl' _))
 have hsz : (((w).alloc (.cells #[.int .i64 u.bus, .int .i64 u.mn, .slice A n c, .int .i64 u.up, .int .i64 u.down, .int .i64 u.start, .int .i64 u.idle, .int .i64 u.spin, .int .i64 u.on] 24)).alloc (.cells #[.bool false, .slice none 0 0, .bool false, .slice none 0 0] 29)).heap.size = w.heap.size + 1 + 1 := by simp
 generalize ((w).alloc (.cells #[.int .i64 u.bus, .int .i64 u.mn, .slice A n c, .int .i64 u.up, .int .i64 u.down, .int .i64 u.start, .int .i64 u.idle, .int .i64 u.spin, .int .i64 u.on] 24)).alloc (.cells #[.bool false, .slice none 0 0, .bool false, .slice none 0 0] 29) = w1 at *
 have SZw1 := LH hsz
 clear hsz
 have Ew1 := LH hE
 clear hE
 have Ku := LH k0
 clear k0
 have Kr := LH k1
 clear k1
 refine (rwrong_any u A n c P np cp w1 (HS.out.below Ew1.out) hn (by unfold maxLen; exact hnp)).mono ?_
 rintro e w2 ⟨rfl, hE⟩
 have Ew2 := LH hE
 clear hE
 have HV : Hid (u.profE ps row = if u.pchk ps.length ≠ 0 then u.pchk ps.length else if row.length ≠ ps.length ∨ u.feas row = false then 3 else 0) := rfl
 rw [HPL.out] at HV
 rw [HRL.out] at HV
 by_cases h0 : u.pchk np = 0
 rotate_left
 ·obtain ⟨ck, hck⟩ : ∃ v, u.pchk np = v := ⟨_, rfl⟩
  rw [hck] at h0 HV ⊢
  have hb : (ck == 0) = false := by simp [h0]
  have hb2 : (ck != 0) = true := by simp [h0]
  have HNZ := LH h0
  clear h0 hck
  have HPE : Hid (u.profE ps row = ck) := by unfold Hid; rw [HV.out, if_pos HNZ.out]
  obtain ⟨⟨e0, e1, e2, e3⟩, ⟨f0, f1, f2, f3⟩, el⟩ := (Kr.out.ext Ew2.out)
  go_wp2_with fail
  refine bodyPost_ret (v := .tuple #[.agg #[.bool false, .slice none 0 0, .bool false, .slice none 0 0], .int .i64 (ck)]) (by simp [results, Tryz.results11, go_sem, e0, e1, e2, e3]) rfl ?_
  have hq : QCan w2 (w.heap.size + 1 + 1) false none 0 0 false none 0 0 (u.profV ps row) := by unfold U.profV; rw [if_neg (by rw [HPE.out]; exact HNZ.out)]; exact qcan_zero _ _
  exact ⟨_, _, _, _, _, _, _, _, ret_qe HPE.out.symm, retQ_fill (by omega) (by omega) hq (ET Ew1.out Ew2.out) _ _ _ _⟩
 obtain ⟨hok, hnp8⟩ := pchk_zero.1 h0
 rw [h0] at HV ⊢
 have HOK := LH hok
 clear h0 hok
 by_cases hmn : m = np
 rotate_left
 ·have hb : ((m : Int) != (np : Int)) = true := by simp; omega
  have hb2 : (m != np) = true := by simp [hmn]
  have HNE := LH hmn
  clear hmn
  have HNZ := LH (show (3 : Int) ≠ 0 by decide)
  have HPE : Hid (u.profE ps row = 3) := by unfold Hid; rw [HV.out, if_neg (by simp), if_pos (.inl HNE.out)]
  obtain ⟨⟨e0, e1, e2, e3⟩, ⟨f0, f1, f2, f3⟩, el⟩ := (Kr.out.ext Ew2.out)
  go_wp2_with fail
  refine bodyPost_ret (v := .tuple #[.agg #[.bool false, .slice none 0 0, .bool false, .slice none 0 0], .int .i64 (3)]) (by simp [results, Tryz.results11, go_sem, e0, e1, e2, e3]) rfl ?_
  have hq : QCan w2 (w.heap.size + 1 + 1) false none 0 0 false none 0 0 (u.profV ps row) := by unfold U.profV; rw [if_neg (by rw [HPE.out]; exact HNZ.out)]; exact qcan_zero _ _
  exact ⟨_, _, _, _, _, _, _, _, ret_qe HPE.out.symm, retQ_fill (by omega) (by omega) hq (ET Ew1.out Ew2.out) _ _ _ _⟩
 subst hmn
 have hb : ((m : Int) != (m : Int)) = false := by simp
 have hb2 : (m != m) = false := by simp
 have zu := World.block_lt_of_cell? _ _ (Ku.out.ext Ew2.out).1
 have xu0 := (Ku.out.ext Ew2.out).1
 have xu1 := (Ku.out.ext Ew2.out).2.1
 have xu2 := (Ku.out.ext Ew2.out).2.2.1
 have xu3 := (Ku.out.ext Ew2.out).2.2.2.1
 have xu4 := (Ku.out.ext Ew2.out).2.2.2.2.1
 have xu5 := (Ku.out.ext Ew2.out).2.2.2.2.2.1
 have xu6 := (Ku.out.ext Ew2.out).2.2.2.2.2.2.1
 have xu7 := (Ku.out.ext Ew2.out).2.2.2.2.2.2.2.1
 have xu8 := (Ku.out.ext Ew2.out).2.2.2.2.2.2.2.2
 go_wp2_with fail
 clear zu xu0 xu1 xu2 xu3 xu4 xu5 xu6 xu7 xu8
 refine (rFeasible_any u A n c R m dR row w2 (HS.out.below (ET Ew1.out Ew2.out)) hn (HR.out.below (ET Ew1.out Ew2.out)) (by omega) HOK.out).mono ?_
 rintro e w3 ⟨rfl, hE⟩
 have Ew3 := LH hE
 clear hE
 by_cases hf : u.feas row = true
 rotate_left
 ·have hf2 : u.feas row = false := by simpa using hf
  rw [hf2]
  have HF := LH hf2
  clear hf hf2
  have HNZ := LH (show (3 : Int) ≠ 0 by decide)
  have HPE : Hid (u.profE ps row = 3) := by unfold Hid; rw [HV.out, if_neg (by simp), if_pos (.inr HF.out)]
  obtain ⟨⟨e0, e1, e2, e3⟩, ⟨f0, f1, f2, f3⟩, el⟩ := (Kr.out.ext (ET Ew2.out Ew3.out))
  go_wp2_with fail
  refine bodyPost_ret (v := .tuple #[.agg #[.bool false, .slice none 0 0, .bool false, .slice none 0 0], .int .i64 (3)]) (by simp [results, Tryz.results11, go_sem, e0, e1, e2, e3]) rfl ?_
  have hq : QCan w3 (w.heap.size + 1 + 1) false none 0 0 false none 0 0 (u.profV ps row) := by unfold U.profV; rw [if_neg (by rw [HPE.out]; exact HNZ.out)]; exact qcan_zero _ _
  exact ⟨_, _, _, _, _, _, _, _, ret_qe HPE.out.symm, retQ_fill (by omega) (by omega) hq (ET Ew1.out (ET Ew2.out Ew3.out)) _ _ _ _⟩
 rw [hf]
 have HF := LH hf
 clear hf
 have HE0 : Hid (u.profE ps row = 0) := by unfold Hid; rw [HV.out, if_neg (by simp), if_neg (by rw [HF.out]; simp)]
 clear HV hb hb2
 have zu := World.block_lt_of_cell? _ _ (Ku.out.ext (ET Ew2.out Ew3.out)).1
 have xu0 := (Ku.out.ext (ET Ew2.out Ew3.out)).1
 have xu1 := (Ku.out.ext (ET Ew2.out Ew3.out)).2.1
 have xu2 := (Ku.out.ext (ET Ew2.out Ew3.out)).2.2.1
 have xu3 := (Ku.out.ext (ET Ew2.out Ew3.out)).2.2.2.1
 have xu4 := (Ku.out.ext (ET Ew2.out Ew3.out)).2.2.2.2.1
 have xu5 := (Ku.out.ext (ET Ew2.out Ew3.out)).2.2.2.2.2.1
 have xu6 := (Ku.out.ext (ET Ew2.out Ew3.out)).2.2.2.2.2.2.1
 have xu7 := (Ku.out.ext (ET Ew2.out Ew3.out)).2.2.2.2.2.2.2.1
 have xu8 := (Ku.out.ext (ET Ew2.out Ew3.out)).2.2.2.2.2.2.2.2
 go_wp2_with fail
 clear zu xu0 xu1 xu2 xu3 xu4 xu5 xu6 xu7 xu8
 refine (rprofit_any u A n c P m cp ps R dR row w3 (HS.out.below (ET Ew1.out (ET Ew2.out Ew3.out))) hn (HP.out.ext (ET Ew1.out (ET Ew2.out Ew3.out))) (HR.out.below (ET Ew1.out (ET Ew2.out Ew3.out))) hnp8 HOK.out HZ6.out).mono ?_
 rintro e w4 ⟨sv, Av, nv, cv, tv, Bv, mv, dv, rfl, hQ, hE⟩
 have Ew4 := LH hE
 clear hE
 have Qv := LH hQ
 clear hQ
 obtain ⟨⟨e0, e1, e2, e3⟩, ⟨f0, f1, f2, f3⟩, el⟩ := (Kr.out.ext (ET Ew2.out (ET Ew3.out Ew4.out)))
 go_wp2_with fail
 refine bodyPost_ret (v := .tuple #[.agg #[.bool sv, .slice Av nv cv, .bool tv, .slice Bv mv dv], .int .i64 0]) (by simp [results, Tryz.results11, go_sem, e0, e1, e2, e3]) rfl ?_
 have hq : QCan w4 w3.heap.size sv Av nv cv tv Bv mv dv (u.profV ps row) := by unfold U.profV; rw [if_pos HE0.out, HPL.out]; exact Qv.out
 exact ⟨_, _, _, _, _, _, _, _, ret_qe HE0.out.symm, retQ_fill (by omega) (Nat.lt_of_lt_of_le Kr.out.2.2 (Nat.le_trans Ew2.out.size Ew3.out.size)) hq (ET Ew1.out (ET Ew2.out (ET Ew3.out Ew4.out))) _ _ _ _⟩
end Go.Proofs.YtjinpfnefeiooaaGreat
