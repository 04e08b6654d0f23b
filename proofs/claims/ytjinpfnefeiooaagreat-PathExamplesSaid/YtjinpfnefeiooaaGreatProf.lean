/- A part of the proof. -/
import Derived.Test.YtjinpfnefeiooaaGreatHour
import Derived.Test.YtjinpfnefeiooaaGreatVarT
namespace Go.Proofs.YtjinpfnefeiooaaGreat
open Go.RowKit

def QsAt (w : World) (P : Option Addr) (n : Nat) (ps : List Rat) : Prop :=
 ps.length = n ∧ (0 < n → ∃ b off, P = some ⟨b, off, none⟩ ∧ b < w.heap.size ∧ ∀ i, i < n → ∃ (s : Bool) (A : Option Addr) (m c : Nat) (t : Bool) (B : Option Addr) (k d : Nat),
  w.cell? ⟨b, off + i * 4, none⟩ = some (.bool s) ∧ w.cell? ⟨b, off + i * 4 + 1, none⟩ = some (.slice A m c) ∧ w.cell? ⟨b, off + i * 4 + 2, none⟩ = some (.bool t) ∧ w.cell? ⟨b, off + i * 4 + 3, none⟩ = some (.slice B k d) ∧
  QIs w s A m c t B k d (ps.getD i 0) ∧ m ≤ 1000 ∧ k ≤ 1000)
theorem QsAt.ext {w w' : World} {P : Option Addr} {n : Nat} {ps : List Rat} (h : QsAt w P n ps) (hb : Ext w w') : QsAt w' P n ps := by
 refine ⟨h.1, fun hn => ?_⟩
 obtain ⟨b, off, ha, hlt, hc⟩ := h.2 hn
 refine ⟨b, off, ha, Nat.lt_of_lt_of_le hlt hb.size, fun i hi => ?_⟩
 obtain ⟨s, A, m, c, t, B, k, d, h0, h1, h2, h3, h4, h5⟩ := hc i hi
 exact ⟨s, A, m, c, t, B, k, d, Ext.cellOf hb h0, Ext.cellOf hb h1, Ext.cellOf hb h2, Ext.cellOf hb h3, h4.ext hb, h5⟩
theorem QsAt.sz {w : World} {P : Option Addr} {n : Nat} {ps : List Rat} (h : QsAt w P n ps) {i : Nat} (hi : i < ps.length) : Sz 1000 (ps.getD i 0) := by
 obtain ⟨b, off, ha, hlt, hc⟩ := h.2 (by rw [← h.1]; omega)
 obtain ⟨s, A, m, c, t, B, k, d, h0, h1, h2, h3, h4, h5, h6⟩ := hc i (by rw [← h.1]; exact hi)
 exact h4.sz h5 h6 (by omega)
def U.profE (u : U) (ps : List Rat) (row : List Bool) : Int := if u.pchk ps.length ≠ 0 then u.pchk ps.length else if row.length ≠ ps.length ∨ u.feas row = false then 3 else 0
def U.profV (u : U) (ps : List Rat) (row : List Bool) : Rat := if u.profE ps row = 0 then u.profTo ps row ps.length else 0
def RetProf (w : World) (u : U) (ps : List Rat) (row : List Bool) (e : Ending) (w' : World) : Prop := ∃ s A n c t B m d, e = .returned (.tuple #[.agg #[.bool s, .slice A n c, .bool t, .slice B m d], .int .i64 (u.profE ps row)]) ∧ QCan w' w.heap.size s A n c t B m d (u.profV ps row) ∧ Ext w w'
theorem pchk_zero {u : U} {n : Nat} : u.pchk n = 0 ↔ u.ok = true ∧ n ≤ 8 := by
 rw [ok_iff]
 unfold U.pchk
 by_cases h : u.check 6 = 0
 ·rw [if_neg (by simp [h])]
  by_cases h8 : 8 < n
  ·rw [if_pos h8]; simp; omega
  ·rw [if_neg h8]; simp; exact ⟨h, by omega⟩
 ·rw [if_pos h]; simp [h]
theorem start_prod {a b : Int} (ha0 : 0 ≤ a) (ha1 : a ≤ 1000000000) (hb0 : 0 ≤ b) (hb1 : b ≤ 8) : -8000000000 ≤ -a * b ∧ -a * b ≤ 0 := by
 have h1 : a * b ≤ 1000000000 * 8 := Int.mul_le_mul ha1 hb1 hb0 (by omega)
 have h2 : 0 ≤ a * b := Int.mul_nonneg ha0 hb0
 rw [Int.neg_mul]
 omega
theorem starts_range {u : U} (row : List Bool) : 0 ≤ u.starts row ∧ u.starts row ≤ row.length := by
 unfold U.starts
 split
 ·exact starts_len _ _
 ·omega
theorem sz_prof {u : U} (h : u.ok = true) {ps : List Rat} {row : List Bool} (hl : row.length ≤ 8) (hz : ∀ i, i < ps.length → Sz 1000 (ps.getD i 0)) : ∀ k, k ≤ ps.length → Sz (9029 * k + 2) (u.profTo ps row k)
 | 0, _ => by
  have g := U.good h
  have hs := starts_range (u := u) row
  have hp := start_prod g.st0 g.st9 hs.1 (by omega)
  exact sz_int (by omega) (by
   have : (4294967296 : Nat) ^ (9029 * 0 + 2) = 18446744073709551616 := by decide
   rw [this]
   omega)
 | k + 1, hk => by
  have ih := sz_prof h hl hz k (by omega)
  unfold U.profTo
  split
  ·exact (ih.add (sz_hp h (hz k (by omega)))).mono (by omega)
  ·exact ih.mono (by omega)
set_option maxRecDepth 100000 in
set_option maxHeartbeats 8000000 in
theorem profit_any (u : U) (A : Option Addr) (n c : Nat) (P : Option Addr) (np cp : Nat) (ps : List Rat) (R : Option Addr) (m dR : Nat) (row : List Bool) (w : World) (hs : StepsAt w A n u.steps) (hn : n ≤ maxLen) (hp : QsAt w P np ps) (hnp : np ≤ maxLen) (hr : BoolsAt w R m row) (hm : m ≤ maxLen) :
  Calls Tryz.prog 10 #[u.val A n c, .slice P np cp, .slice R m dR] w (RetProf w u ps row) := by
 have HS := LH hs
 have HP := LH hp
 have HR := LH hr
 have HPL := LH hp.1
 have HRL := LH hr.1
 clear hs hp hr
 unfold maxLen at hnp hm
 go_enter Tryz.func10, Tryz.ntmps10
 go_wp2_with fail
 have k0 := UBox.new (w) (w.heap.size) (by simp) u A n c 24
 have k1 := Cell4.new ((w).alloc (.cells #[.int .i64 u.bus, .int .i64 u.mn, .slice A n c, .int .i64 u.up, .int .i64 u.down, .int .i64 u.start, .int .i64 u.idle, .int .i64 u.spin, .int .i64 u.on] 24)) (w.heap.size + 1) (by simp) (.bool false) (.slice none 0 0) (.bool false) (.slice none 0 0) 29
 have hE : Ext w (((w).alloc (.cells #[.int .i64 u.bus, .int .i64 u.mn, .slice A n c, .int .i64 u.up, .int .i64 u.down, .int .i64 u.start, .int .i64 u.idle, .int .i64 u.spin, .int .i64 u.on] 24)).alloc (.cells #[.bool false, .slice none 0 0, .bool false, .slice none 0 0] 29)) := (Ext.al (Ext.al Ext.rfl' _) _)
 have k0 := k0.ext (show Ext ((w).alloc (.cells #[.int .i64 u.bus, .int .i64 u.mn, .slice A n c, .int .i64 u.up, .int .i64 u.down, .int .i64 u.start, .int .i64 u.idle, .int .i64 u.spin, .int .i64 u.on] 24)) (((w).alloc (.cells #[.int .i64 u.bus, .int .i64 u.mn, .slice A n c, .int .i64 u.up, .int .i64 u.down, .int .i64 u.start, .int .i64 u.idle, .int .i64 u.spin, .int .i64 u.on] 24)).alloc (.cells #[.bool false, .slice none 0 0, .bool false, .slice none 0 0] 29)) from (Ext.al Ext.rfl' _))
 have hsz : (((w).alloc (.cells #[.int .i64 u.bus, .int .i64 u.mn, .slice A n c, .int .i64 u.up, .int .i64 u.down, .int .i64 u.start, .int .i64 u.idle, .int .i64 u.spin, .int .i64 u.on] 24)).alloc (.cells #[.bool false, .slice none 0 0, .bool false, .slice none 0 0] 29)).heap.size = w.heap.size + 1 + 1 := by simp
 generalize ((w).alloc (.cells #[.int .i64 u.bus, .int .i64 u.mn, .slice A n c, .int .i64 u.up, .int .i64 u.down, .int .i64 u.start, .int .i64 u.idle, .int .i64 u.spin, .int .i64 u.on] 24)).alloc (.cells #[.bool false, .slice none 0 0, .bool false, .slice none 0 0] 29) = w1 at *
 have SZw1 := LH hsz
 clear hsz
 have Ew1 := LH hE
 clear hE
 have Ku := LH k0
 clear k0
 have Kr := LH k1
 clear k1
 have HV : Hid (u.profE ps row = if u.pchk np ≠ 0 then u.pchk np else if m ≠ np ∨ u.feas row = false then 3 else 0) := by unfold Hid U.profE; rw [HPL.out, HRL.out]
 refine (pcheck_any u A n c P np cp w1 (HS.out.below Ew1.out) hn (by unfold maxLen; omega)).mono ?_
 rintro e w2 ⟨rfl, hE⟩
 have Ew2 := LH hE
 clear hE
 by_cases h0 : u.pchk np = 0
 rotate_left
 ·obtain ⟨ck, hck⟩ : ∃ v, u.pchk np = v := ⟨_, rfl⟩
  rw [hck]
  have hb : (ck != 0) = true := by rw [← hck]; simp [h0]
  rw [hck] at h0 HV
  have HNZ := LH h0
  clear h0 hck
  obtain ⟨⟨xr0, xr1, xr2, xr3⟩, ⟨yr0, yr1, yr2, yr3⟩, zr⟩ := (Kr.out.ext Ew2.out)
  go_wp2_with fail
  refine bodyPost_ret (v := .tuple #[.agg #[.bool false, .slice none 0 0, .bool false, .slice none 0 0], .int .i64 ck]) (by simp [results, Tryz.results10, go_sem, xr0, xr1, xr2, xr3]) rfl ?_
  have HE1 : u.profE ps row = ck := by rw [HV.out, if_pos HNZ.out]
  have hq : QCan w2 (w.heap.size + 1 + 1) false none 0 0 false none 0 0 (u.profV ps row) := by unfold U.profV; rw [if_neg (by rw [HE1]; first | exact HNZ.out | decide)]; exact qcan_zero _ _
  exact ⟨_, _, _, _, _, _, _, _, ret_qe HE1.symm, retQ_fill (by omega) (by omega) hq (ET Ew1.out Ew2.out) _ _ _ _⟩
 have HOK8 := LH (pchk_zero.1 h0)
 rw [h0] at HV
 rw [h0]
 have hnp8 := HOK8.out.2
 clear h0
 by_cases hmn : m = np
 rotate_left
 ·have hb : ((m : Int) != (np : Int)) = true := by simp; omega
  have hb2 : (m != np) = true := by simp; omega
  have HNZ := LH (show (3 : Int) ≠ 0 by decide)
  obtain ⟨⟨xr0, xr1, xr2, xr3⟩, ⟨yr0, yr1, yr2, yr3⟩, zr⟩ := (Kr.out.ext Ew2.out)
  go_wp2_with fail
  refine bodyPost_ret (v := .tuple #[.agg #[.bool false, .slice none 0 0, .bool false, .slice none 0 0], .int .i64 3]) (by simp [results, Tryz.results10, go_sem, xr0, xr1, xr2, xr3]) rfl ?_
  have HE1 : u.profE ps row = 3 := by rw [HV.out, if_neg (by simp), if_pos (.inl hmn)]
  have hq : QCan w2 (w.heap.size + 1 + 1) false none 0 0 false none 0 0 (u.profV ps row) := by unfold U.profV; rw [if_neg (by rw [HE1]; first | exact HNZ.out | decide)]; exact qcan_zero _ _
  exact ⟨_, _, _, _, _, _, _, _, ret_qe HE1.symm, retQ_fill (by omega) (by omega) hq (ET Ew1.out Ew2.out) _ _ _ _⟩
 subst hmn
 have hb : ((m : Int) != (m : Int)) = false := by simp
 have hb2 : (m != m) = false := by simp
 have zu := World.block_lt_of_cell? _ _ (Ku.out.ext Ew2.out).1
 have xu0 := (Ku.out.ext Ew2.out).1
 have xu1 := (Ku.out.ext Ew2.out).2.1
 have xu2 := (Ku.out.ext Ew2.out).2.2.1
 have xu3 := (Ku.out.ext Ew2.out).2.2.2.1
 have xu4 := (Ku.out.ext Ew2.out).2.2.2.2.1
 have xu5 := (Ku.out.ext Ew2.out).2.2.2.2.2.1
 have xu6 := (Ku.out.ext Ew2.out).2.2.2.2.2.2.1
 have xu7 := (Ku.out.ext Ew2.out).2.2.2.2.2.2.2.1
 have xu8 := (Ku.out.ext Ew2.out).2.2.2.2.2.2.2.2
 go_wp2_with fail
 clear zu xu0 xu1 xu2 xu3 xu4 xu5 xu6 xu7 xu8
 refine (feasible_any u A n c R m dR row w2 (HS.out.below (ET Ew1.out Ew2.out)) hn (HR.out.below (ET Ew1.out Ew2.out)) (by unfold maxLen; omega)).mono ?_
 rintro e w3 ⟨rfl, hE⟩
 have Ew3 := LH hE
 clear hE
 by_cases hf : u.feas row = true
 rotate_left
 ·have hf2 : u.feas row = false := by simpa using hf
  rw [hf2]
  have HF := LH hf2
  clear hf hf2
  have HNZ := LH (show (3 : Int) ≠ 0 by decide)
  obtain ⟨⟨xr0, xr1, xr2, xr3⟩, ⟨yr0, yr1, yr2, yr3⟩, zr⟩ := (Kr.out.ext (ET Ew2.out Ew3.out))
  go_wp2_with fail
  refine bodyPost_ret (v := .tuple #[.agg #[.bool false, .slice none 0 0, .bool false, .slice none 0 0], .int .i64 3]) (by simp [results, Tryz.results10, go_sem, xr0, xr1, xr2, xr3]) rfl ?_
  have HE1 : u.profE ps row = 3 := by rw [HV.out, if_neg (by simp), if_pos (.inr HF.out)]
  have hq : QCan w3 (w.heap.size + 1 + 1) false none 0 0 false none 0 0 (u.profV ps row) := by unfold U.profV; rw [if_neg (by rw [HE1]; first | exact HNZ.out | decide)]; exact qcan_zero _ _
  exact ⟨_, _, _, _, _, _, _, _, ret_qe HE1.symm, retQ_fill (by omega) (by omega) hq (ET Ew1.out (ET Ew2.out Ew3.out)) _ _ _ _⟩
 rw [hf]
 have HF := LH hf
 clear hf
 have HE0 : Hid (u.profE ps row = 0) := by unfold Hid; rw [HV.out, if_neg (by simp), if_neg (by rw [HF.out]; simp)]
 have HCK := LH ((ok_iff u).1 HOK8.out.1)
 have hst0 := (U.good HOK8.out.1).st0
 have hst9 := (U.good HOK8.out.1).st9
 clear HV hb hb2
 go_wp2_with fail
 obtain ⟨st, hst⟩ : ∃ v, u.starts row = v := ⟨_, rfl⟩
 have hsr := starts_range (u := u) row
 rw [hst, HRL.out] at hsr
 obtain ⟨hsr0, hsr1⟩ := hsr
 obtain ⟨pr, hpr⟩ : ∃ v, -u.start * st = v := ⟨_, rfl⟩
 obtain ⟨hpr0, hpr1⟩ : -8000000000 ≤ pr ∧ pr ≤ 0 := by rw [← hpr]; exact start_prod hst0 hst9 hsr0 (by omega)
 have HP0 : Hid (u.profTo ps row 0 = ((pr : Int) : Rat)) := by unfold Hid U.profTo; rw [hst, hpr]
 have HST := LH hst
 clear hst
 refine wp_region_havS [8] [0, 1, 2, 3, 4, 5, 6, 7] [9] (fun _ => .cells #[.bool false, .slice none 0 0, .bool false, .slice none 0 0] 29) (by kernel_rfl) (by kernel_rfl) ?_ ?_
 ·intro f hf
  simp only [List.mem_cons, List.not_mem_nil, or_false] at hf
  rcases hf with rfl
  all_goals exact makes_q (by rfl) rfl
 have hE : Ext w3 w3.drew := Ext.rfl'.drew
 generalize w3.drew = w4 at *
 have Ew4 := LH hE
 clear hE
 have fu0 := fun z : ExtX w4 [] => z.cell (p := ⟨w.heap.size, 0, none⟩) (Ku.out.ext (ET Ew2.out (ET Ew3.out Ew4.out))).1 (by simp)
 have fu1 := fun z : ExtX w4 [] => z.cell (p := ⟨w.heap.size, 1, none⟩) (Ku.out.ext (ET Ew2.out (ET Ew3.out Ew4.out))).2.1 (by simp)
 have fu2 := fun z : ExtX w4 [] => z.cell (p := ⟨w.heap.size, 2, none⟩) (Ku.out.ext (ET Ew2.out (ET Ew3.out Ew4.out))).2.2.1 (by simp)
 have fu3 := fun z : ExtX w4 [] => z.cell (p := ⟨w.heap.size, 3, none⟩) (Ku.out.ext (ET Ew2.out (ET Ew3.out Ew4.out))).2.2.2.1 (by simp)
 have fu4 := fun z : ExtX w4 [] => z.cell (p := ⟨w.heap.size, 4, none⟩) (Ku.out.ext (ET Ew2.out (ET Ew3.out Ew4.out))).2.2.2.2.1 (by simp)
 have fu5 := fun z : ExtX w4 [] => z.cell (p := ⟨w.heap.size, 5, none⟩) (Ku.out.ext (ET Ew2.out (ET Ew3.out Ew4.out))).2.2.2.2.2.1 (by simp)
 have fu6 := fun z : ExtX w4 [] => z.cell (p := ⟨w.heap.size, 6, none⟩) (Ku.out.ext (ET Ew2.out (ET Ew3.out Ew4.out))).2.2.2.2.2.2.1 (by simp)
 have fu7 := fun z : ExtX w4 [] => z.cell (p := ⟨w.heap.size, 7, none⟩) (Ku.out.ext (ET Ew2.out (ET Ew3.out Ew4.out))).2.2.2.2.2.2.2.1 (by simp)
 have fu8 := fun z : ExtX w4 [] => z.cell (p := ⟨w.heap.size, 8, none⟩) (Ku.out.ext (ET Ew2.out (ET Ew3.out Ew4.out))).2.2.2.2.2.2.2.2 (by simp)
 intro w5 hE
 have Ew5 := LH hE
 clear hE
 repeat (refine havAt_still (by rfl) (by rfl) ?_; go_big_quiet_step (fail); refine wpQuiet_nil ?_)
 refine havAt_move (by rfl) (by rfl) (by kernel_rfl) ?_
 go_wp2_with fail
 refine (starts_any u A n c R m dR row w5 (HS.out.below (ET Ew1.out (ET Ew2.out (ET Ew3.out (ET Ew4.out Ew5.out))))) hn (HR.out.below (ET Ew1.out (ET Ew2.out (ET Ew3.out (ET Ew4.out Ew5.out))))) (by unfold maxLen; omega)).mono ?_
 rintro e w6 ⟨rfl, hE⟩
 have Ew6 := LH hE
 clear hE
 rw [HST.out]
 go_wp2_with fail
 refine And.intro Ew6.out (fun w7 hE => ?_)
 have Ew7 := LH hE
 clear hE
 repeat (refine havAt_still (by rfl) (by rfl) ?_; go_big_quiet_step (fail); refine wpQuiet_nil ?_)
 refine havAt_move (by rfl) (by rfl) (by kernel_rfl) ?_
 go_wp2_with fail
 refine (qfrom_any pr w7 ⟨by omega, by omega⟩).mono ?_
 rintro e w8 ⟨si, Ai, ni, ci, ti, Bi, mi, di, rfl, hQ, hE⟩
 have Ew8 := LH hE
 clear hE
 have Qi := LH hQ
 clear hQ
 go_wp2_with fail
 refine And.intro Ew8.out (fun w9 hE => ?_)
 have Ew9 := LH hE
 clear hE
 repeat (refine havAt_still (by rfl) (by rfl) ?_; go_big_quiet_step (fail); refine wpQuiet_nil ?_)
 refine havAt_end ?_
 intro gs hgs hne
 have hpp := hgs 8 (by simp)
 change IdxAt _ _ _ _ _ _ (Act.put _ (some 9) (.pointer (some ⟨gs 8, 0, none⟩))) _
 generalize gs 8 = gp at *
 clear hgs hne
 simp only [Act.put, List.setIfInBounds_toArray, List.set_cons_succ, List.set_cons_zero]
 have Pp := LH hpp
 have Kp := LH (Cell4.of_blk hpp.2.1)
 clear hpp
 repeat (refine idxAt_still (by rfl) (by rfl) ?_; go_big_quiet_step (fail); refine wpQuiet_nil ?_)
 obtain ⟨⟨o0, o1, o2, o3⟩, ⟨q0, q1, q2, q3⟩, ol⟩ := Kp.out
 refine idxAt_move (by rfl) (by rfl) (by kernel_rfl) ?_
 go_wp2_with fail
 refine And.intro (inX_put (p := ⟨gp, 3, none⟩) (inX_put (p := ⟨gp, 2, none⟩) (inX_put (p := ⟨gp, 1, none⟩) (inX_put (p := ⟨gp, 0, none⟩) (inX_of_ext _ (ET Ew5.out (ET Ew6.out (ET Ew7.out (ET Ew8.out Ew9.out))))) (.inr Pp.out.1) _) (.inr Pp.out.1) _) (.inr Pp.out.1) _) (.inr Pp.out.1) _) ?_
 clear o0 o1 o2 o3 q0 q1 q2 q3 ol
 have Kp_1 := LH (Kp.out.put4 (.bool si) (.slice Ai ni ci) (.bool ti) (.slice Bi mi di))
 have NJ1 := LH (ext_put4 (ET Ew5.out (ET Ew6.out (ET Ew7.out (ET Ew8.out Ew9.out)))) (g := gp) Pp.out.1 0 (.bool si) (.slice Ai ni ci) (.bool ti) (.slice Bi mi di))
 have NZ1 : Hid (w9.heap.size ≤ (put4 w9 (gp) 0 (.bool si) (.slice Ai ni ci) (.bool ti) (.slice Bi mi di)).heap.size) := by unfold Hid; rw [put4_size]; exact Nat.le_refl _
 have Qi_1 := LH ((Qi.out.ext Ew9.out).put4A (g := gp) (Qi.out.span (Pp.out.2.2 (w7.heap.size, w8.heap.size) (by simp))) 0 (.bool si) (.slice Ai ni ci) (.bool ti) (.slice Bi mi di))
 unfold put4 at Kp_1 NJ1 NZ1 Qi_1
 simp only [Nat.zero_add] at Kp_1 NJ1 NZ1 Qi_1
 generalize ((((w9.setCell ⟨gp, 0, none⟩ (.bool si)).setCell ⟨gp, 1, none⟩ (.slice Ai ni ci)).setCell ⟨gp, 2, none⟩ (.bool ti)).setCell ⟨gp, 3, none⟩ (.slice Bi mi di)) = w10 at *
 repeat (refine idxAt_still (by rfl) (by rfl) ?_; go_big_quiet_step (fail); refine wpQuiet_nil ?_)
 refine idxAt_nil ?_
 clear fu0 fu1 fu2 fu3 fu4 fu5 fu6 fu7 fu8
 clear hpr
 go_wp2_with fail
 have HAWi : Hid (∀ x ∈ [gp], Away x (x + 1) Ai ni ∧ Away x (x + 1) Bi mi) := fun x hx => by
   simp only [List.mem_cons, List.not_mem_nil, or_false] at hx
   subst hx
   exact (Qi.out.span (Pp.out.2.2 (w7.heap.size, w8.heap.size) (by simp)))
 have HZ : Hid (∀ k, k ≤ m → Sz (9029 * k + 2) (u.profTo ps row k)) := fun k hk => sz_prof HOK8.out.1 (by rw [HRL.out]; exact hnp8) (fun i hi => HP.out.sz hi) k (by rw [HPL.out]; exact hk)
 have hQ0 := Qi_1.out
 rw [← HP0.out] at hQ0
 have Q0 := LH hQ0
 clear hQ0
 have HGP : Hid (w4.heap.size ≤ gp) := Pp.out.1
 go_loopw [43] (fun i wr => ∃ k : Nat, k ≤ m ∧ i = .int .i64 k ∧ Hid (Ext w4 wr ∧ VarQ wr w4.heap.size [gp] gp (u.profTo ps row k))) (fun i _ => m - (intOf i).toNat)
 case atStart => exact ⟨0, by omega, rfl, NJ1.out, ⟨si, Ai, ni, ci, ti, Bi, mi, di, Kp_1.out, Q0.out.base (Nat.le_trans Ew5.out.size (Nat.le_trans Ew6.out.size Ew7.out.size)), HAWi.out⟩⟩
 case round =>
  obtain ⟨k, hk, rfl, HI⟩ := hrel
  obtain ⟨hEr, ⟨sv, Av, nv, cv, tv, Bv, mv, dv, hKu, hQu, hAu⟩⟩ := HI.out
  have HEr := LH hEr
  have HKu := LH hKu
  have HQu := LH hQu
  have HAu := LH hAu
  clear hEr hKu hQu hAu HI HAWi Q0
  have HZk : Hid (Sz 80000 (u.profTo ps row k)) := (HZ.out k hk).mono (by omega)
  by_cases hlt : k < m
  rotate_left
  ·have hkn : k = m := by omega
   subst hkn
   have hbv : decide ((k : Int) < (k : Int)) = false := by simp
   have hbv2 : decide (k < k) = false := by simp
   obtain ⟨⟨xp0, xp1, xp2, xp3⟩, -, zp⟩ := HKu.out
   obtain ⟨⟨xr0, xr1, xr2, xr3⟩, ⟨yr0, yr1, yr2, yr3⟩, zr⟩ := (Kr.out.ext (ET Ew2.out (ET Ew3.out (ET Ew4.out HEr.out))))
   go_wp2_with fail
   refine bodyPost_ret (v := .tuple #[.agg #[.bool sv, .slice Av nv cv, .bool tv, .slice Bv mv dv], .int .i64 0]) (by simp [results, Tryz.results10, go_sem, xr0, xr1, xr2, xr3]) rfl ?_
   have hq : QCan wr w4.heap.size sv Av nv cv tv Bv mv dv (u.profV ps row) := by
    unfold U.profV
    rw [if_pos HE0.out, HPL.out]
    exact HQu.out
   exact ⟨_, _, _, _, _, _, _, _, ret_qe HE0.out.symm, retQ_fill (by omega) (Nat.lt_of_lt_of_le Kr.out.2.2 (Nat.le_trans Ew2.out.size (Nat.le_trans Ew3.out.size Ew4.out.size))) hq (ET Ew1.out (ET Ew2.out (ET Ew3.out (ET Ew4.out HEr.out)))) _ _ _ _⟩
  have hbv : decide ((k : Int) < (m : Int)) = true := by simp; omega
  have hbv2 : decide (k < m) = true := by simp; omega
  have hz0 : (0 : Int) ≤ (k : Int) := by omega
  have hzn : (k : Int) < (m : Int) := by omega
  obtain ⟨bR, oR, hR, hbR, hcR⟩ := HR.out.2 (by omega)
  subst hR
  obtain ⟨bP, oP, hP, hbP, hcP⟩ := HP.out.2 (by omega)
  subst hP
  obtain ⟨sp, Ap, np, cp, tp, Bp, mp, dp, p0, p1, p2, p3, hpi, lp1, lp2⟩ := hcP k hlt
  have HP4 := LH (And.intro p0 (And.intro p1 (And.intro p2 p3)))
  have Hp := LH hpi
  have xrow := Ext.cellOf (ET Ew1.out (ET Ew2.out (ET Ew3.out (ET Ew4.out HEr.out)))) (hcR k hlt)
  have HPT : Hid (u.profTo ps row (k + 1) = if row.getD k false = true then u.profTo ps row k + u.hp (ps.getD k 0) else u.profTo ps row k) := rfl
  obtain ⟨pk, hpk⟩ : ∃ v, ps.getD k 0 = v := ⟨_, rfl⟩
  obtain ⟨bb, hbb⟩ : ∃ v, row.getD k false = v := ⟨_, rfl⟩
  rw [hpk] at HPT Hp
  rw [hbb] at HPT xrow
  clear hcR hcP p0 p1 p2 p3 hpi hpk hbb hbR hbP
  cases bb
  ·skip
   go_wp2_with fail
   go_roundw
   case rel => exact ⟨k + 1, by omega, by go_num, HEr.out, ⟨sv, Av, nv, cv, tv, Bv, mv, dv, HKu.out, by rw [HPT.out, if_neg (by simp)]; exact HQu.out, HAu.out⟩⟩
   case measure => simp [intOf]; omega
  go_wp2_with fail
  clear xrow
  refine wp_region_havS [10] [0, 1, 2, 3, 4, 5, 6, 7, 8, 9] [11, 12, 13] (fun _ => .cells #[.bool false, .slice none 0 0, .bool false, .slice none 0 0] 29) (by kernel_rfl) (by kernel_rfl) ?_ ?_
  ·intro f hf
   simp only [List.mem_cons, List.not_mem_nil, or_false] at hf
   rcases hf with rfl
   all_goals exact makes_q (by rfl) rfl
  have hE : Ext wr wr.drew := Ext.rfl'.drew
  generalize wr.drew = w11 at *
  have Ew11 := LH hE
  clear hE
  have fu0 := fun z : ExtX w11 [] => z.cell (p := ⟨w.heap.size, 0, none⟩) (Ku.out.ext (ET Ew2.out (ET Ew3.out (ET Ew4.out (ET HEr.out Ew11.out))))).1 (by simp)
  have fu1 := fun z : ExtX w11 [] => z.cell (p := ⟨w.heap.size, 1, none⟩) (Ku.out.ext (ET Ew2.out (ET Ew3.out (ET Ew4.out (ET HEr.out Ew11.out))))).2.1 (by simp)
  have fu2 := fun z : ExtX w11 [] => z.cell (p := ⟨w.heap.size, 2, none⟩) (Ku.out.ext (ET Ew2.out (ET Ew3.out (ET Ew4.out (ET HEr.out Ew11.out))))).2.2.1 (by simp)
  have fu3 := fun z : ExtX w11 [] => z.cell (p := ⟨w.heap.size, 3, none⟩) (Ku.out.ext (ET Ew2.out (ET Ew3.out (ET Ew4.out (ET HEr.out Ew11.out))))).2.2.2.1 (by simp)
  have fu4 := fun z : ExtX w11 [] => z.cell (p := ⟨w.heap.size, 4, none⟩) (Ku.out.ext (ET Ew2.out (ET Ew3.out (ET Ew4.out (ET HEr.out Ew11.out))))).2.2.2.2.1 (by simp)
  have fu5 := fun z : ExtX w11 [] => z.cell (p := ⟨w.heap.size, 5, none⟩) (Ku.out.ext (ET Ew2.out (ET Ew3.out (ET Ew4.out (ET HEr.out Ew11.out))))).2.2.2.2.2.1 (by simp)
  have fu6 := fun z : ExtX w11 [] => z.cell (p := ⟨w.heap.size, 6, none⟩) (Ku.out.ext (ET Ew2.out (ET Ew3.out (ET Ew4.out (ET HEr.out Ew11.out))))).2.2.2.2.2.2.1 (by simp)
  have fu7 := fun z : ExtX w11 [] => z.cell (p := ⟨w.heap.size, 7, none⟩) (Ku.out.ext (ET Ew2.out (ET Ew3.out (ET Ew4.out (ET HEr.out Ew11.out))))).2.2.2.2.2.2.2.1 (by simp)
  have fu8 := fun z : ExtX w11 [] => z.cell (p := ⟨w.heap.size, 8, none⟩) (Ku.out.ext (ET Ew2.out (ET Ew3.out (ET Ew4.out (ET HEr.out Ew11.out))))).2.2.2.2.2.2.2.2 (by simp)
  have fp0 := fun z : ExtX w11 [] => z.cell (p := ⟨bP, oP + k * 4, none⟩) (Ext.cellOf (ET Ew1.out (ET Ew2.out (ET Ew3.out (ET Ew4.out (ET HEr.out Ew11.out))))) HP4.out.1) (by simp)
  have fp1 := fun z : ExtX w11 [] => z.cell (p := ⟨bP, oP + k * 4 + 1, none⟩) (Ext.cellOf (ET Ew1.out (ET Ew2.out (ET Ew3.out (ET Ew4.out (ET HEr.out Ew11.out))))) HP4.out.2.1) (by simp)
  have fp2 := fun z : ExtX w11 [] => z.cell (p := ⟨bP, oP + k * 4 + 2, none⟩) (Ext.cellOf (ET Ew1.out (ET Ew2.out (ET Ew3.out (ET Ew4.out (ET HEr.out Ew11.out))))) HP4.out.2.2.1) (by simp)
  have fp3 := fun z : ExtX w11 [] => z.cell (p := ⟨bP, oP + k * 4 + 3, none⟩) (Ext.cellOf (ET Ew1.out (ET Ew2.out (ET Ew3.out (ET Ew4.out (ET HEr.out Ew11.out))))) HP4.out.2.2.2) (by simp)
  intro w12 hE
  have Ew12 := LH hE
  clear hE
  repeat (refine havAt_still (by rfl) (by rfl) ?_; go_big_quiet_step (fail); refine wpQuiet_nil ?_)
  refine havAt_move (by rfl) (by rfl) (by kernel_rfl) ?_
  go_wp2_with fail
  refine (hour_any u A n c sp Ap np cp tp Bp mp dp pk w12 (HS.out.below (ET Ew1.out (ET Ew2.out (ET Ew3.out (ET Ew4.out (ET HEr.out (ET Ew11.out Ew12.out))))))) hn (Hp.out.ext (ET Ew1.out (ET Ew2.out (ET Ew3.out (ET Ew4.out (ET HEr.out (ET Ew11.out Ew12.out))))))) lp1 lp2).mono ?_
  rintro e w13 ⟨sh, Ah, nh, ch, th, Bh, mh, dh, rfl, hQ, hE⟩
  have Ew13 := LH hE
  clear hE
  have Qh := LH hQ
  clear hQ
  rw [HCK.out]
  have HZh : Hid (Sz 9028 (u.hpE pk)) := by unfold Hid U.hpE; rw [if_pos HOK8.out.1]; exact sz_hp HOK8.out.1 (Hp.out.sz lp1 lp2 (by omega))
  go_wp2_with fail
  refine And.intro Ew13.out (fun w14 hE => ?_)
  have Ew14 := LH hE
  clear hE
  repeat (refine havAt_still (by rfl) (by rfl) ?_; go_big_quiet_step (fail); refine wpQuiet_nil ?_)
  refine havAt_end ?_
  intro gs hgs hne
  have hpg := hgs 10 (by simp)
  change IdxAt _ _ _ _ _ _ (Act.put _ (some 12) (.pointer (some ⟨gs 10, 0, none⟩))) _
  generalize gs 10 = gg at *
  clear hgs hne
  simp only [Act.put, List.setIfInBounds_toArray, List.set_cons_succ, List.set_cons_zero]
  have Pg := LH hpg
  have Kg := LH (Cell4.of_blk hpg.2.1)
  clear hpg
  repeat (refine idxAt_still (by rfl) (by rfl) ?_; go_big_quiet_step (fail); refine wpQuiet_nil ?_)
  obtain ⟨⟨o0, o1, o2, o3⟩, ⟨q0, q1, q2, q3⟩, ol⟩ := Kg.out
  refine idxAt_move (by rfl) (by rfl) (by kernel_rfl) ?_
  go_wp2_with fail
  refine And.intro (inX_put (p := ⟨gg, 3, none⟩) (inX_put (p := ⟨gg, 2, none⟩) (inX_put (p := ⟨gg, 1, none⟩) (inX_put (p := ⟨gg, 0, none⟩) (inX_of_ext _ (ET Ew12.out (ET Ew13.out Ew14.out))) (.inr Pg.out.1) _) (.inr Pg.out.1) _) (.inr Pg.out.1) _) (.inr Pg.out.1) _) ?_
  clear o0 o1 o2 o3 q0 q1 q2 q3 ol
  have Kg_2 := LH (Kg.out.put4 (.bool sh) (.slice Ah nh ch) (.bool th) (.slice Bh mh dh))
  have NJ2 := LH (ext_put4 (ET Ew12.out (ET Ew13.out Ew14.out)) (g := gg) Pg.out.1 0 (.bool sh) (.slice Ah nh ch) (.bool th) (.slice Bh mh dh))
  have NZ2 : Hid (w14.heap.size ≤ (put4 w14 (gg) 0 (.bool sh) (.slice Ah nh ch) (.bool th) (.slice Bh mh dh)).heap.size) := by unfold Hid; rw [put4_size]; exact Nat.le_refl _
  have Qh_2 := LH ((Qh.out.ext Ew14.out).put4A (g := gg) (Qh.out.span (Pg.out.2.2 (w12.heap.size, w13.heap.size) (by simp))) 0 (.bool sh) (.slice Ah nh ch) (.bool th) (.slice Bh mh dh))
  unfold put4 at Kg_2 NJ2 NZ2 Qh_2
  simp only [Nat.zero_add] at Kg_2 NJ2 NZ2 Qh_2
  generalize ((((w14.setCell ⟨gg, 0, none⟩ (.bool sh)).setCell ⟨gg, 1, none⟩ (.slice Ah nh ch)).setCell ⟨gg, 2, none⟩ (.bool th)).setCell ⟨gg, 3, none⟩ (.slice Bh mh dh)) = w15 at *
  repeat (refine idxAt_still (by rfl) (by rfl) ?_; go_big_quiet_step (fail); refine wpQuiet_nil ?_)
  refine idxAt_nil ?_
  clear fu0 fu1 fu2 fu3 fu4 fu5 fu6 fu7 fu8 fp0 fp1 fp2 fp3
  obtain ⟨⟨xp0, xp1, xp2, xp3⟩, -, zp⟩ := (HKu.out.ext (ET Ew11.out NJ2.out))
  obtain ⟨⟨xg0, xg1, xg2, xg3⟩, -, zg⟩ := Kg_2.out
  go_wp2_with fail
  clear xp0 xp1 xp2 xp3 zp xg0 xg1 xg2 xg3 zg
  refine (qadd_any sv Av nv cv tv Bv mv dv _ sh Ah nh ch th Bh mh dh _ w15 ((HQu.out.ext (ET Ew11.out NJ2.out)).arg HZk.out (by omega)) (Qh_2.out.arg HZh.out (by omega))).mono ?_
  rintro e w16 ⟨sz, Az, nz, cz, tz, Bz, mz, dz, rfl, hQ, hE⟩
  have Ew16 := LH hE
  clear hE
  have Qz := LH hQ
  clear hQ
  obtain ⟨⟨xp0, xp1, xp2, xp3⟩, ⟨yp0, yp1, yp2, yp3⟩, zp⟩ := (HKu.out.ext (ET Ew11.out (ET NJ2.out Ew16.out)))
  go_wp2_with fail
  clear xp0 xp1 xp2 xp3 yp0 yp1 yp2 yp3 zp
  have Kp_3 := LH ((HKu.out.ext (ET Ew11.out (ET NJ2.out Ew16.out))).put4 (.bool sz) (.slice Az nz cz) (.bool tz) (.slice Bz mz dz))
  have NJ3 := LH (ext_put4 (ET HEr.out (ET Ew11.out (ET NJ2.out Ew16.out))) (g := gp) HGP.out 0 (.bool sz) (.slice Az nz cz) (.bool tz) (.slice Bz mz dz))
  have NZ3 : Hid (w16.heap.size ≤ (put4 w16 (gp) 0 (.bool sz) (.slice Az nz cz) (.bool tz) (.slice Bz mz dz)).heap.size) := by unfold Hid; rw [put4_size]; exact Nat.le_refl _
  have Qz_3 := LH (Qz.out.put4A (g := gp) (Qz.out.span (.inl (Nat.lt_of_lt_of_le HKu.out.2.2 (Nat.le_trans Ew11.out.size (Nat.le_trans Ew12.out.size (Nat.le_trans Ew13.out.size (Nat.le_trans Ew14.out.size NZ2.out))))))) 0 (.bool sz) (.slice Az nz cz) (.bool tz) (.slice Bz mz dz))
  unfold put4 at Kp_3 NJ3 NZ3 Qz_3
  simp only [Nat.zero_add] at Kp_3 NJ3 NZ3 Qz_3
  generalize ((((w16.setCell ⟨gp, 0, none⟩ (.bool sz)).setCell ⟨gp, 1, none⟩ (.slice Az nz cz)).setCell ⟨gp, 2, none⟩ (.bool tz)).setCell ⟨gp, 3, none⟩ (.slice Bz mz dz)) = w17 at *
  go_roundw
  have HAWz : Hid (∀ x ∈ [gp], Away x (x + 1) Az nz ∧ Away x (x + 1) Bz mz) := fun x hx => by
    simp only [List.mem_cons, List.not_mem_nil, or_false] at hx
    subst hx
    exact (Qz.out.span (.inl (Nat.lt_of_lt_of_le HKu.out.2.2 (Nat.le_trans Ew11.out.size (Nat.le_trans Ew12.out.size (Nat.le_trans Ew13.out.size (Nat.le_trans Ew14.out.size NZ2.out)))))))
  have hQz := Qz_3.out
  have HQ2 : Hid (QCan w17 w4.heap.size sz Az nz cz tz Bz mz dz (u.profTo ps row (k + 1))) := by
   unfold Hid
   rw [HPT.out, if_pos (by trivial)]
   have e : u.hpE pk = u.hp pk := by unfold U.hpE; rw [if_pos HOK8.out.1]
   rw [← e]
   exact hQz.base (Nat.le_trans HEr.out.size (Nat.le_trans Ew11.out.size (Nat.le_trans Ew12.out.size (Nat.le_trans Ew13.out.size (Nat.le_trans Ew14.out.size NZ2.out)))))
  case rel => exact ⟨k + 1, by omega, by go_num, NJ3.out, ⟨sz, Az, nz, cz, tz, Bz, mz, dz, Kp_3.out, HQ2.out, HAWz.out⟩⟩
  case measure => simp [intOf]; omega
end Go.Proofs.YtjinpfnefeiooaaGreat
