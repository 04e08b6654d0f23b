/- A part of the proof. -/
import Derived.Test.YtjinpfnefeiooaaGreatRefPP
namespace Go.Proofs.YtjinpfnefeiooaaGreat
open Go.RowKit

theorem sz_own {u : U} {p : Rat} {q : Int} {K : Nat} (hp : Sz K p) (hq0 : 0 ≤ q) (hq1 : q ≤ 4000000) (hi0 : 0 ≤ u.idle) (hi1 : u.idle ≤ 1000000000) : Sz (K + 8028) (u.ownV p q) := by
 unfold U.ownV
 exact (((hp.mul (sz_small (z := q) (by omega) (by omega))).sub (sz_costV ((sz_small (z := q) (by omega) (by omega)).mono (by omega)))).sub (sz_small (z := u.idle) (by omega) (by omega))).mono (by omega)
set_option maxRecDepth 100000 in
set_option maxHeartbeats 16000000 in
theorem rhour_any (u : U) (A : Option Addr) (n c : Nat) (s1 : Bool) (A1 : Option Addr) (n1 c1 : Nat) (t1 : Bool) (B1 : Option Addr) (m1 d1 : Nat) (p : Rat) (w : World) (hs : StepsAt w A n u.steps) (hn : n ≤ maxLen) (h1 : QIs w s1 A1 n1 c1 t1 B1 m1 d1 p) (l1 : n1 ≤ 1000) (l2 : m1 ≤ 1000) :
  Calls Tryz.prog 9 #[u.val A n c, .agg #[.bool s1, .slice A1 n1 c1, .bool t1, .slice B1 m1 d1]] w (RetHour w u p) := by
 have HS := LH hs
 have H1 := LH h1
 have HL := LH hs.1
 have HZ1 : Hid (Sz 1000 p) := h1.sz l1 l2 (by omega)
 clear hs h1
 go_enter Tryz.func9, Tryz.ntmps9
 go_wp2_with fail
 have k0 := UBox.new (w) (w.heap.size) (by simp) u A n c 24
 have k1 := Cell4.new ((w).alloc (.cells #[.int .i64 u.bus, .int .i64 u.mn, .slice A n c, .int .i64 u.up, .int .i64 u.down, .int .i64 u.start, .int .i64 u.idle, .int .i64 u.spin, .int .i64 u.on] 24)) (w.heap.size + 1) (by simp) (.bool s1) (.slice A1 n1 c1) (.bool t1) (.slice B1 m1 d1) 29
 have k2 := Cell4.new (((w).alloc (.cells #[.int .i64 u.bus, .int .i64 u.mn, .slice A n c, .int .i64 u.up, .int .i64 u.down, .int .i64 u.start, .int .i64 u.idle, .int .i64 u.spin, .int .i64 u.on] 24)).alloc (.cells #[.bool s1, .slice A1 n1 c1, .bool t1, .slice B1 m1 d1] 29)) (w.heap.size + 1 + 1) (by simp) (.bool false) (.slice none 0 0) (.bool false) (.slice none 0 0) 29
 have hE : Ext w ((((w).alloc (.cells #[.int .i64 u.bus, .int .i64 u.mn, .slice A n c, .int .i64 u.up, .int .i64 u.down, .int .i64 u.start, .int .i64 u.idle, .int .i64 u.spin, .int .i64 u.on] 24)).alloc (.cells #[.bool s1, .slice A1 n1 c1, .bool t1, .slice B1 m1 d1] 29)).alloc (.cells #[.bool false, .slice none 0 0, .bool false, .slice none 0 0] 29)) := (Ext.al (Ext.al (Ext.al Ext.rfl' _) _) _)
 have k0 := k0.ext (show Ext ((w).alloc (.cells #[.int .i64 u.bus, .int .i64 u.mn, .slice A n c, .int .i64 u.up, .int .i64 u.down, .int .i64 u.start, .int .i64 u.idle, .int .i64 u.spin, .int .i64 u.on] 24)) ((((w).alloc (.cells #[.int .i64 u.bus, .int .i64 u.mn, .slice A n c, .int .i64 u.up, .int .i64 u.down, .int .i64 u.start, .int .i64 u.idle, .int .i64 u.spin, .int .i64 u.on] 24)).alloc (.cells #[.bool s1, .slice A1 n1 c1, .bool t1, .slice B1 m1 d1] 29)).alloc (.cells #[.bool false, .slice none 0 0, .bool false, .slice none 0 0] 29)) from (Ext.al (Ext.al Ext.rfl' _) _))
 have k1 := k1.ext (show Ext (((w).alloc (.cells #[.int .i64 u.bus, .int .i64 u.mn, .slice A n c, .int .i64 u.up, .int .i64 u.down, .int .i64 u.start, .int .i64 u.idle, .int .i64 u.spin, .int .i64 u.on] 24)).alloc (.cells #[.bool s1, .slice A1 n1 c1, .bool t1, .slice B1 m1 d1] 29)) ((((w).alloc (.cells #[.int .i64 u.bus, .int .i64 u.mn, .slice A n c, .int .i64 u.up, .int .i64 u.down, .int .i64 u.start, .int .i64 u.idle, .int .i64 u.spin, .int .i64 u.on] 24)).alloc (.cells #[.bool s1, .slice A1 n1 c1, .bool t1, .slice B1 m1 d1] 29)).alloc (.cells #[.bool false, .slice none 0 0, .bool false, .slice none 0 0] 29)) from (Ext.al Ext.rfl' _))
 have hsz : ((((w).alloc (.cells #[.int .i64 u.bus, .int .i64 u.mn, .slice A n c, .int .i64 u.up, .int .i64 u.down, .int .i64 u.start, .int .i64 u.idle, .int .i64 u.spin, .int .i64 u.on] 24)).alloc (.cells #[.bool s1, .slice A1 n1 c1, .bool t1, .slice B1 m1 d1] 29)).alloc (.cells #[.bool false, .slice none 0 0, .bool false, .slice none 0 0] 29)).heap.size = w.heap.size + 1 + 1 + 1 := by simp
 generalize (((w).alloc (.cells #[.int .i64 u.bus, .int .i64 u.mn, .slice A n c, .int .i64 u.up, .int .i64 u.down, .int .i64 u.start, .int .i64 u.idle, .int .i64 u.spin, .int .i64 u.on] 24)).alloc (.cells #[.bool s1, .slice A1 n1 c1, .bool t1, .slice B1 m1 d1] 29)).alloc (.cells #[.bool false, .slice none 0 0, .bool false, .slice none 0 0] 29) = w1 at *
 have SZw1 := LH hsz
 clear hsz
 have Ew1 := LH hE
 clear hE
 have Ku := LH k0
 clear k0
 have K1 := LH k1
 clear k1
 have Kr := LH k2
 clear k2
 refine (rCheck_any u 6 A n c w1 (HS.out.below Ew1.out) hn).mono ?_
 rintro e w2 ⟨rfl, hE⟩
 have Ew2 := LH hE
 clear hE
 by_cases h0 : u.check 6 = 0
 rotate_left
 ·have hok : u.ok = false := by
   cases h : u.ok
   ·rfl
   ·exact absurd ((ok_iff u).1 h) h0
  obtain ⟨ck, hck⟩ : ∃ v, u.check 6 = v := ⟨_, rfl⟩
  rw [hck]
  have hb : (ck != 0) = true := by rw [← hck]; simp [h0]
  have HCK := LH hck
  have HOK := LH hok
  clear h0 hck hok
  obtain ⟨⟨xr0, xr1, xr2, xr3⟩, ⟨yr0, yr1, yr2, yr3⟩, zr⟩ := (Kr.out.ext Ew2.out)
  go_wp2_with fail
  refine bodyPost_ret (v := .tuple #[.int .i64 0, .agg #[.bool false, .slice none 0 0, .bool false, .slice none 0 0], .int .i64 ck]) (by simp [results, Tryz.results9, go_sem, xr0, xr1, xr2, xr3]) rfl ?_
  have hq : QCan w2 (w.heap.size + 1 + 1 + 1) false none 0 0 false none 0 0 (u.hpE p) := by unfold U.hpE; rw [HOK.out]; exact qcan_zero _ _
  exact ⟨_, _, _, _, _, _, _, _, ret_hour (by unfold U.hqE; rw [HOK.out]; rfl) HCK.out.symm, retQ_fill (by omega) (by omega) hq (ET Ew1.out Ew2.out) _ _ _ _⟩
 have hok := (ok_iff u).2 h0
 rw [h0]
 have HCK := LH h0
 have hid0 := (U.good hok).id0
 have hid9 := (U.good hok).id9
 have hmn := U.okm hok
 have hmn2 : u.mn ≤ 3000000 := by have := total_bd u.steps; omega
 have hmn1 := hmn.1
 obtain ⟨-, hl3, hr⟩ := crv_range (crv_of_chk (U.chk0 hok))
 have hn3 : n ≤ 3 := by rw [← HL.out]; exact hl3
 have HR := LH hr
 have HOK := LH hok
 clear hmn h0 hok hl3 hr
 have zu := World.block_lt_of_cell? _ _ (Ku.out.ext Ew2.out).1
 have xu0 := (Ku.out.ext Ew2.out).1
 have xu1 := (Ku.out.ext Ew2.out).2.1
 have xu2 := (Ku.out.ext Ew2.out).2.2.1
 have xu3 := (Ku.out.ext Ew2.out).2.2.2.1
 have xu4 := (Ku.out.ext Ew2.out).2.2.2.2.1
 have xu5 := (Ku.out.ext Ew2.out).2.2.2.2.2.1
 have xu6 := (Ku.out.ext Ew2.out).2.2.2.2.2.2.1
 have xu7 := (Ku.out.ext Ew2.out).2.2.2.2.2.2.2.1
 have xu8 := (Ku.out.ext Ew2.out).2.2.2.2.2.2.2.2
 obtain ⟨⟨x10, x11, x12, x13⟩, -, z1⟩ := (K1.out.ext Ew2.out)
 go_wp2_with fail
 clear zu xu0 xu1 xu2 xu3 xu4 xu5 xu6 xu7 xu8 x10 x11 x12 x13 z1
 refine wp_region_havS [7] [0, 1, 2, 3, 4, 5, 6] [8, 9] (fun _ => .cells #[.bool false, .slice none 0 0, .bool false, .slice none 0 0] 29) (by kernel_rfl) (by kernel_rfl) ?_ ?_
 ·intro f hf
  simp only [List.mem_cons, List.not_mem_nil, or_false] at hf
  rcases hf with rfl
  all_goals exact makes_q (by rfl) rfl
 have hE : Ext w2 w2.drew := Ext.rfl'.drew
 generalize w2.drew = w3 at *
 have Ew3 := LH hE
 clear hE
 have f10 := fun z : ExtX w3 [] => z.cell (p := ⟨w.heap.size + 1, 0, none⟩) (K1.out.ext (ET Ew2.out Ew3.out)).1.1 (by simp)
 have f11 := fun z : ExtX w3 [] => z.cell (p := ⟨w.heap.size + 1, 1, none⟩) (K1.out.ext (ET Ew2.out Ew3.out)).1.2.1 (by simp)
 have f12 := fun z : ExtX w3 [] => z.cell (p := ⟨w.heap.size + 1, 2, none⟩) (K1.out.ext (ET Ew2.out Ew3.out)).1.2.2.1 (by simp)
 have f13 := fun z : ExtX w3 [] => z.cell (p := ⟨w.heap.size + 1, 3, none⟩) (K1.out.ext (ET Ew2.out Ew3.out)).1.2.2.2 (by simp)
 have fu0 := fun z : ExtX w3 [] => z.cell (p := ⟨w.heap.size, 0, none⟩) (Ku.out.ext (ET Ew2.out Ew3.out)).1 (by simp)
 have fu1 := fun z : ExtX w3 [] => z.cell (p := ⟨w.heap.size, 1, none⟩) (Ku.out.ext (ET Ew2.out Ew3.out)).2.1 (by simp)
 have fu2 := fun z : ExtX w3 [] => z.cell (p := ⟨w.heap.size, 2, none⟩) (Ku.out.ext (ET Ew2.out Ew3.out)).2.2.1 (by simp)
 have fu3 := fun z : ExtX w3 [] => z.cell (p := ⟨w.heap.size, 3, none⟩) (Ku.out.ext (ET Ew2.out Ew3.out)).2.2.2.1 (by simp)
 have fu4 := fun z : ExtX w3 [] => z.cell (p := ⟨w.heap.size, 4, none⟩) (Ku.out.ext (ET Ew2.out Ew3.out)).2.2.2.2.1 (by simp)
 have fu5 := fun z : ExtX w3 [] => z.cell (p := ⟨w.heap.size, 5, none⟩) (Ku.out.ext (ET Ew2.out Ew3.out)).2.2.2.2.2.1 (by simp)
 have fu6 := fun z : ExtX w3 [] => z.cell (p := ⟨w.heap.size, 6, none⟩) (Ku.out.ext (ET Ew2.out Ew3.out)).2.2.2.2.2.2.1 (by simp)
 have fu7 := fun z : ExtX w3 [] => z.cell (p := ⟨w.heap.size, 7, none⟩) (Ku.out.ext (ET Ew2.out Ew3.out)).2.2.2.2.2.2.2.1 (by simp)
 have fu8 := fun z : ExtX w3 [] => z.cell (p := ⟨w.heap.size, 8, none⟩) (Ku.out.ext (ET Ew2.out Ew3.out)).2.2.2.2.2.2.2.2 (by simp)
 intro w4 hE
 have Ew4 := LH hE
 clear hE
 repeat (refine havAt_still (by rfl) (by rfl) ?_; go_big_quiet_step (fail); refine wpQuiet_nil ?_)
 refine havAt_move (by rfl) (by rfl) (by kernel_rfl) ?_
 go_wp2_with fail
 refine (rown_any u A n c s1 A1 n1 c1 t1 B1 m1 d1 p u.mn w4 (HS.out.below (ET Ew1.out (ET Ew2.out (ET Ew3.out Ew4.out)))) hn (H1.out.ext (ET Ew1.out (ET Ew2.out (ET Ew3.out Ew4.out)))) l1 l2 (by omega) (by omega) hid0 hid9).mono ?_
 rintro e w5 ⟨sb, Ab, nb, cb, tb, Bb, mb, db, rfl, hQ, hE⟩
 have Ew5 := LH hE
 clear hE
 have Qb := LH hQ
 clear hQ
 go_wp2_with fail
 refine And.intro Ew5.out (fun w6 hE => ?_)
 have Ew6 := LH hE
 clear hE
 repeat (refine havAt_still (by rfl) (by rfl) ?_; go_big_quiet_step (fail); refine wpQuiet_nil ?_)
 refine havAt_end ?_
 intro gs hgs hne
 have hpb := hgs 7 (by simp)
 change IdxAt _ _ _ _ _ _ (Act.put _ (some 9) (.pointer (some ⟨gs 7, 0, none⟩))) _
 generalize gs 7 = gb at *
 clear hgs hne
 simp only [Act.put, List.setIfInBounds_toArray, List.set_cons_succ, List.set_cons_zero]
 have Pb := LH hpb
 have Kb := LH (Cell4.of_blk hpb.2.1)
 clear hpb
 repeat (refine idxAt_still (by rfl) (by rfl) ?_; go_big_quiet_step (fail); refine wpQuiet_nil ?_)
 obtain ⟨⟨o0, o1, o2, o3⟩, ⟨q0, q1, q2, q3⟩, ol⟩ := Kb.out
 refine idxAt_move (by rfl) (by rfl) (by kernel_rfl) ?_
 go_wp2_with fail
 refine And.intro (inX_put (p := ⟨gb, 3, none⟩) (inX_put (p := ⟨gb, 2, none⟩) (inX_put (p := ⟨gb, 1, none⟩) (inX_put (p := ⟨gb, 0, none⟩) (inX_of_ext _ (ET Ew4.out (ET Ew5.out Ew6.out))) (.inr Pb.out.1) _) (.inr Pb.out.1) _) (.inr Pb.out.1) _) (.inr Pb.out.1) _) ?_
 clear o0 o1 o2 o3 q0 q1 q2 q3 ol
 have Kb_1 := LH (Kb.out.put4 (.bool sb) (.slice Ab nb cb) (.bool tb) (.slice Bb mb db))
 have NJ1 := LH (ext_put4 (ET Ew4.out (ET Ew5.out Ew6.out)) (g := gb) Pb.out.1 0 (.bool sb) (.slice Ab nb cb) (.bool tb) (.slice Bb mb db))
 have NZ1 : Hid (w6.heap.size ≤ (put4 w6 (gb) 0 (.bool sb) (.slice Ab nb cb) (.bool tb) (.slice Bb mb db)).heap.size) := by unfold Hid; rw [put4_size]; exact Nat.le_refl _
 have Qb_1 := LH ((Qb.out.ext Ew6.out).put4A (g := gb) (Qb.out.span (Pb.out.2.2 (w4.heap.size, w5.heap.size) (by simp))) 0 (.bool sb) (.slice Ab nb cb) (.bool tb) (.slice Bb mb db))
 unfold put4 at Kb_1 NJ1 NZ1 Qb_1
 simp only [Nat.zero_add] at Kb_1 NJ1 NZ1 Qb_1
 generalize ((((w6.setCell ⟨gb, 0, none⟩ (.bool sb)).setCell ⟨gb, 1, none⟩ (.slice Ab nb cb)).setCell ⟨gb, 2, none⟩ (.bool tb)).setCell ⟨gb, 3, none⟩ (.slice Bb mb db)) = w7 at *
 repeat (refine idxAt_still (by rfl) (by rfl) ?_; go_big_quiet_step (fail); refine wpQuiet_nil ?_)
 refine idxAt_nil ?_
 clear f10 f11 f12 f13 fu0 fu1 fu2 fu3 fu4 fu5 fu6 fu7 fu8
 go_wp2_with fail
 have hgB : gb < w7.heap.size := Kb_1.out.2.2
 have HBA : Hid (Away gb (gb + 1) Ab nb ∧ Away gb (gb + 1) Bb mb) := (Qb.out.span (Pb.out.2.2 (w4.heap.size, w5.heap.size) (by simp)))
 have hgl : w3.heap.size ≤ gb := Pb.out.1
 have hbe : w4.heap.size ≤ w7.heap.size := (Nat.le_trans Ew5.out.size (Nat.le_trans Ew6.out.size NZ1.out))
 go_loopw [8, 10, 11] (fun vb vs i wr => ∃ (k : Nat) (b : Int) (s : Bool) (A : Option Addr) (n' c : Nat) (t : Bool) (B : Option Addr) (m d : Nat), k ≤ n ∧ i = .int .i64 k ∧ vb = .int .i64 b ∧ vs = .int .i64 (sumQ (u.steps.take k)) ∧ 0 ≤ b ∧ b ≤ 4000000 ∧ Hid (HInv u p k b) ∧ Hid (Ext w3 wr ∧ w7.heap.size ≤ wr.heap.size ∧ Cell4 wr gb (.bool s) (.slice A n' c) (.bool t) (.slice B m d) ∧ QCan wr w4.heap.size s A n' c t B m d (u.ownV p b) ∧ Away gb (gb + 1) A n' ∧ Away gb (gb + 1) B m)) (fun _ _ i _ => n - (intOf i).toNat)
 case atStart => exact ⟨0, u.mn, _, _, _, _, _, _, _, _, by omega, rfl, rfl, rfl, by omega, by omega, hinv_start hmn1 p, NJ1.out, Nat.le_refl _, Kb_1.out, Qb_1.out, HBA.out.1, HBA.out.2⟩
 case round =>
  obtain ⟨k, b, sb, Ab, nb, cb, tb, Bb, mb, db, hk, rfl, rfl, rfl, hb0, hb1, HV, HI⟩ := hrel
  have HEL := LH HI.out.1
  have hsr := HI.out.2.1
  have Kb := LH HI.out.2.2.1
  have Qb := LH HI.out.2.2.2.1
  have HBA := LH HI.out.2.2.2.2
  clear HI
  by_cases hlt : k < n
  rotate_left
  ·have hbv : decide ((k : Int) < (n : Int)) = false := by simp; omega
   have hbv2 : decide (k < n) = false := by simp; omega
   obtain rfl : k = n := by omega
   have HF : Hid (b = u.hq p ∧ u.ownV p b = u.hp p) := hinv_end HOK.out (by rw [HL.out]; exact HV.out)
   have zu := World.block_lt_of_cell? _ _ (Ku.out.ext (ET Ew2.out (ET Ew3.out HEL.out))).1
   have xu2 := (Ku.out.ext (ET Ew2.out (ET Ew3.out HEL.out))).2.2.1
   obtain ⟨⟨xb0, xb1, xb2, xb3⟩, -, zb⟩ := Kb.out
   obtain ⟨⟨xr0, xr1, xr2, xr3⟩, ⟨yr0, yr1, yr2, yr3⟩, zr⟩ := (Kr.out.ext (ET Ew2.out (ET Ew3.out HEL.out)))
   go_wp2_with fail
   go_region
   go_wp2_with fail
   have hdr : Ext wr wr.drew := Ext.rfl'.drew
   have hqz : QCan wr.drew w4.heap.size sb Ab nb cb tb Bb mb db (u.hpE p) := by
    rw [show u.hpE p = u.ownV p b by unfold U.hpE; rw [if_pos HOK.out, HF.out.2]]
    exact Qb.out.ext hdr
   refine bodyPost_ret (v := .tuple #[.int .i64 b, .agg #[.bool sb, .slice Ab nb cb, .bool tb, .slice Bb mb db], .int .i64 0]) (by simp [results, Tryz.results9, go_sem, xr0, xr1, xr2, xr3]) rfl ?_
   exact ⟨_, _, _, _, _, _, _, _, ret_hour (by unfold U.hqE; rw [if_pos HOK.out, HF.out.1]) HCK.out.symm, retQ_fill (by omega) (Nat.lt_of_lt_of_le Kr.out.2.2 (Nat.le_trans Ew2.out.size (Nat.le_trans Ew3.out.size Ew4.out.size))) hqz (ET (ET Ew1.out (ET Ew2.out (ET Ew3.out HEL.out))) hdr) _ _ _ _⟩
  ·have hbv : decide ((k : Int) < (n : Int)) = true := by simp; omega
   have hbv2 : decide (k < n) = true := by simp; omega
   obtain ⟨bs, off, rfl, hlb, hcell⟩ := HS.out.2 (by omega)
   obtain ⟨c1', c2'⟩ := hcell k hlt
   have xq := Ext.cellOf (ET Ew1.out (ET Ew2.out (ET Ew3.out HEL.out))) c1'
   have hmem : u.steps.getD k (0, 0) ∈ u.steps := by simp [List.getD, show k < u.steps.length by rw [HL.out]; exact hlt]
   obtain ⟨r1, r2, -, -⟩ := HR.out _ hmem
   have hsb := sumQ_bd (l := u.steps.take k) fun y hy => HR.out y (List.mem_of_mem_take hy)
   have hlk : (u.steps.take k).length ≤ 3 := by simp; omega
   have HSK : Hid (sumQ (u.steps.take (k + 1)) = sumQ (u.steps.take k) + (u.steps.getD k (0, 0)).1) := by
    unfold Hid
    rw [take_snoc _ (0, 0) (by rw [HL.out]; exact hlt), sumQ_append]
    simp [sumQ]
   have HLOW := LH (fun h => hinv_low HV.out h)
   have HUP := LH (fun h1 h2 => hinv_up HV.out h1 h2)
   have HKEEP := LH (fun h1 h2 => hinv_keep HV.out h1 h2 (fun j hj => sums_mono HR.out (by omega)))
   rw [HSK.out] at HLOW HUP HKEEP
   generalize (u.steps.getD k (0, 0)).1 = qy at *
   generalize sumQ (u.steps.take k) = sk at *
   obtain ⟨s2, hs2⟩ : ∃ v, sk + qy = v := ⟨_, rfl⟩
   rw [hs2] at HSK HLOW HUP HKEEP
   have hs20 : 0 ≤ s2 := by omega
   have hs21 : s2 ≤ 4000000 := by omega
   clear hsb hlk hmem c1' c2' hcell
   have hz0 : (0 : Int) ≤ (k : Int) := by omega
   have hzn : (k : Int) < (n : Int) := by omega
   by_cases hlow : s2 ≤ u.mn
   ·have hb3 : decide (s2 ≤ u.mn) = true := decide_eq_true hlow
    have HVN := LH (HLOW.out hlow)
    clear HLOW HUP HKEEP hlow
    have zu := World.block_lt_of_cell? _ _ (Ku.out.ext (ET Ew2.out (ET Ew3.out HEL.out))).1
    have xu1 := (Ku.out.ext (ET Ew2.out (ET Ew3.out HEL.out))).2.1
    have xu2 := (Ku.out.ext (ET Ew2.out (ET Ew3.out HEL.out))).2.2.1
    go_wp2_with fail
    clear zu xu1 xu2
    go_roundw
    case rel => exact ⟨k + 1, b, _, _, _, _, _, _, _, _, by omega, by go_num, rfl, by rw [HSK.out], by omega, by omega, HVN.out, HEL.out, hsr, Kb.out, Qb.out, HBA.out.1, HBA.out.2⟩
    case measure => simp [intOf]; omega
   ·have hb3 : decide (s2 ≤ u.mn) = false := decide_eq_false hlow
    have hlow2 : u.mn < s2 := by omega
    have HUP2 := LH (HUP.out hlow2)
    have HKEEP2 := LH (HKEEP.out hlow2)
    clear HLOW HUP HKEEP hlow
    have zu := World.block_lt_of_cell? _ _ (Ku.out.ext (ET Ew2.out (ET Ew3.out HEL.out))).1
    have xu0 := (Ku.out.ext (ET Ew2.out (ET Ew3.out HEL.out))).1
    have xu1 := (Ku.out.ext (ET Ew2.out (ET Ew3.out HEL.out))).2.1
    have xu2 := (Ku.out.ext (ET Ew2.out (ET Ew3.out HEL.out))).2.2.1
    have xu3 := (Ku.out.ext (ET Ew2.out (ET Ew3.out HEL.out))).2.2.2.1
    have xu4 := (Ku.out.ext (ET Ew2.out (ET Ew3.out HEL.out))).2.2.2.2.1
    have xu5 := (Ku.out.ext (ET Ew2.out (ET Ew3.out HEL.out))).2.2.2.2.2.1
    have xu6 := (Ku.out.ext (ET Ew2.out (ET Ew3.out HEL.out))).2.2.2.2.2.2.1
    have xu7 := (Ku.out.ext (ET Ew2.out (ET Ew3.out HEL.out))).2.2.2.2.2.2.2.1
    have xu8 := (Ku.out.ext (ET Ew2.out (ET Ew3.out HEL.out))).2.2.2.2.2.2.2.2
    obtain ⟨⟨x10, x11, x12, x13⟩, -, z1⟩ := (K1.out.ext (ET Ew2.out (ET Ew3.out HEL.out)))
    go_wp2_with fail
    clear zu xu0 xu1 xu2 xu3 xu4 xu5 xu6 xu7 xu8 x10 x11 x12 x13 z1
    refine (rown_any u (some ⟨bs, off, none⟩) n c s1 A1 n1 c1 t1 B1 m1 d1 p s2 wr (HS.out.below (ET Ew1.out (ET Ew2.out (ET Ew3.out HEL.out)))) hn (H1.out.ext (ET Ew1.out (ET Ew2.out (ET Ew3.out HEL.out)))) l1 l2 (by omega) (by omega) hid0 hid9).mono ?_
    rintro e w8 ⟨sx, Ax, nx, cx, tx, Bx, mx, dx, rfl, hQ, hE⟩
    have Ew8 := LH hE
    clear hE
    have Qx := LH hQ
    clear hQ
    obtain ⟨⟨xb0, xb1, xb2, xb3⟩, -, zb⟩ := (Kb.out.ext Ew8.out)
    go_wp2_with fail
    clear xb0 xb1 xb2 xb3 zb
    have k0 := Cell4.new (w8) (w8.heap.size) rfl (.bool sx) (.slice Ax nx cx) (.bool tx) (.slice Bx mx dx) 29
    have hE : Ext w8 ((w8).alloc (.cells #[.bool sx, .slice Ax nx cx, .bool tx, .slice Bx mx dx] 29)) := (Ext.al Ext.rfl' _)
    generalize (w8).alloc (.cells #[.bool sx, .slice Ax nx cx, .bool tx, .slice Bx mx dx] 29) = w9 at *
    have Ew9 := LH hE
    clear hE
    have Kx := LH k0
    clear k0
    refine (rqcmp_any sx Ax nx cx tx Bx mx dx _ sb Ab nb cb tb Bb mb db _ 20000 w9 ((Qx.out.ext Ew9.out).rarg (sz_own HZ1.out (q := s2) (by omega) (by omega) hid0 hid9) (by omega)) ((Qb.out.ext (ET Ew8.out Ew9.out)).rarg (sz_own HZ1.out (q := b) (by omega) (by omega) hid0 hid9) (by omega)) (by omega)).mono ?_
    rintro e w10 ⟨rfl, hE⟩
    have Ew10 := LH hE
    clear hE
    obtain ⟨cm, hcm⟩ : ∃ x, cmpQ (u.ownV p s2) (u.ownV p b) = x := ⟨_, rfl⟩
    rw [hcm]
    have Hcm := LH hcm
    clear hcm
    have HP := LH (cmpQ_pos (u.ownV p s2) (u.ownV p b))
    rw [Hcm.out] at HP
    by_cases hgt : u.ownV p b < u.ownV p s2
    ·have hb4 : decide (0 < cm) = true := decide_eq_true (HP.out.2 hgt)
     have HVN := LH (HUP2.out hgt)
     clear HUP2 HKEEP2 hgt HP
     go_wp2_with fail
     refine wp_region_lexS (C := InX w10.drew []) (by kernel_rfl) (by kernel_rfl) (inX_self _ _) ?_
     have hE : Ext w10 w10.drew := Ext.rfl'.drew
     generalize w10.drew = w11 at *
     have Ew11 := LH hE
     clear hE
     have fx0 := fun z : ExtX w11 [] => z.cell (p := ⟨w8.heap.size, 0, none⟩) (Kx.out.ext (ET Ew10.out Ew11.out)).1.1 (by simp)
     have fx1 := fun z : ExtX w11 [] => z.cell (p := ⟨w8.heap.size, 1, none⟩) (Kx.out.ext (ET Ew10.out Ew11.out)).1.2.1 (by simp)
     have fx2 := fun z : ExtX w11 [] => z.cell (p := ⟨w8.heap.size, 2, none⟩) (Kx.out.ext (ET Ew10.out Ew11.out)).1.2.2.1 (by simp)
     have fx3 := fun z : ExtX w11 [] => z.cell (p := ⟨w8.heap.size, 3, none⟩) (Kx.out.ext (ET Ew10.out Ew11.out)).1.2.2.2 (by simp)
     repeat (refine lexAt_still (by rfl) ?_; go_big_quiet_step (fail); refine wpQuiet_nil ?_)
     have HXe := LH (inX_of_ext [] (Ext.rfl' (w := w11)))
     clear fx0 fx1 fx2 fx3
     obtain ⟨⟨o0, o1, o2, o3⟩, ⟨q0, q1, q2, q3⟩, ol⟩ := (Kb.out.ext (ET Ew8.out (ET Ew9.out (ET Ew10.out Ew11.out))))
     refine lexAt_last (by rfl) (by kernel_rfl) (by kernel_rfl) ?_
     go_wp2_with fail
     refine And.intro trivial (lexAt_nil ?_)
     clear o0 o1 o2 o3 q0 q1 q2 q3 ol HXe
     have Kb_2 := LH ((Kb.out.ext (ET Ew8.out (ET Ew9.out (ET Ew10.out Ew11.out)))).put4 (.bool sx) (.slice Ax nx cx) (.bool tx) (.slice Bx mx dx))
     have NJ2 := LH (ext_put4 (ET HEL.out (ET Ew8.out (ET Ew9.out (ET Ew10.out Ew11.out)))) (g := gb) hgl 0 (.bool sx) (.slice Ax nx cx) (.bool tx) (.slice Bx mx dx))
     have NZ2 : Hid (w11.heap.size ≤ (put4 w11 (gb) 0 (.bool sx) (.slice Ax nx cx) (.bool tx) (.slice Bx mx dx)).heap.size) := by unfold Hid; rw [put4_size]; exact Nat.le_refl _
     have Qx_2 := LH ((Qx.out.ext (ET Ew9.out (ET Ew10.out Ew11.out))).put4A (g := gb) (Qx.out.span (.inl (Nat.lt_of_lt_of_le Kb.out.2.2 (Nat.le_refl _)))) 0 (.bool sx) (.slice Ax nx cx) (.bool tx) (.slice Bx mx dx))
     unfold put4 at Kb_2 NJ2 NZ2 Qx_2
     simp only [Nat.zero_add] at Kb_2 NJ2 NZ2 Qx_2
     generalize ((((w11.setCell ⟨gb, 0, none⟩ (.bool sx)).setCell ⟨gb, 1, none⟩ (.slice Ax nx cx)).setCell ⟨gb, 2, none⟩ (.bool tx)).setCell ⟨gb, 3, none⟩ (.slice Bx mx dx)) = w12 at *
     have HAV : Hid (Away gb (gb + 1) Ax nx ∧ Away gb (gb + 1) Bx mx) := (Qx.out.span (.inl (Nat.lt_of_lt_of_le Kb.out.2.2 (Nat.le_refl _))))
     have HQV := LH (Qx_2.out.base (Nat.le_trans hbe (Nat.le_trans hsr (Nat.le_refl _))))
     have HSR : Hid (w7.heap.size ≤ w12.heap.size) := Nat.le_trans hsr (Nat.le_trans Ew8.out.size (Nat.le_trans Ew9.out.size (Nat.le_trans Ew10.out.size (Nat.le_trans Ew11.out.size NZ2.out))))
     go_wp2_with fail
     go_roundw
     case rel => exact ⟨k + 1, s2, _, _, _, _, _, _, _, _, by omega, by go_num, rfl, by rw [HSK.out], by omega, by omega, HVN.out, NJ2.out, HSR.out, Kb_2.out, HQV.out, HAV.out.1, HAV.out.2⟩
     case measure => simp [intOf]; omega
    ·have hb4 : decide (0 < cm) = false := decide_eq_false (fun e => hgt (HP.out.1 e))
     have HVN := LH (HKEEP2.out hgt)
     clear HUP2 HKEEP2 hgt HP
     go_wp2_with fail
     have HSR : Hid (w7.heap.size ≤ w10.heap.size) := Nat.le_trans hsr (Nat.le_trans Ew8.out.size (Nat.le_trans Ew9.out.size Ew10.out.size))
     go_roundw
     case rel => exact ⟨k + 1, b, _, _, _, _, _, _, _, _, by omega, by go_num, rfl, by rw [HSK.out], by omega, by omega, HVN.out, (ET HEL.out (ET Ew8.out (ET Ew9.out Ew10.out))), HSR.out, (Kb.out.ext (ET Ew8.out (ET Ew9.out Ew10.out))), (Qb.out.ext (ET Ew8.out (ET Ew9.out Ew10.out))), HBA.out.1, HBA.out.2⟩
     case measure => simp [intOf]; omega
end Go.Proofs.YtjinpfnefeiooaaGreat
