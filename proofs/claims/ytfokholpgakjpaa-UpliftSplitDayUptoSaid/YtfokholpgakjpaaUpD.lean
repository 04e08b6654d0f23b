/- Contract of uplift.Cost. Printed by gen_upd.py. -/
import Derived.Test.YtfokholpgakjpaaUpC
namespace Go.Proofs.Ytfokholpgakjpaa
open Go.RowKit

/-- What Cost answers. -/
def RetDay (w : World) (u : U) (plan ran : List Bool) (qs : List Rat) (e : Ending) (w' : World) : Prop := ∃ s A n c t B m d, e = .returned (.tuple #[.agg #[.bool s, .slice A n c, .bool t, .slice B m d], .int .i64 (u.dayE plan ran qs)]) ∧ QCan w' w.heap.size s A n c t B m d (u.dayV plan ran qs) ∧ Ext w w'
set_option maxRecDepth 100000 in
set_option maxHeartbeats 16000000 in
theorem upcost_any (u : U) (A : Option Addr) (n c : Nat) (Rp : Option Addr) (m dp : Nat) (plan : List Bool) (R : Option Addr) (mr dR : Nat) (ran : List Bool) (P : Option Addr) (k cp : Nat) (qs : List Rat) (w : World) (hs : StepsAt w A n u.steps) (hn : n ≤ maxLen) (hp : BoolsAt w Rp m plan) (hm : m ≤ maxLen) (hr : BoolsAt w R mr ran) (hmr : mr ≤ maxLen) (hg : QsK 1048576 w P k qs) (hk : k ≤ maxLen) :
    Calls Try.prog 16 #[u.val A n c, .slice Rp m dp, .slice R mr dR, .slice P k cp] w (RetDay w u plan ran qs) := by
  have HS := Lib.hid hs
  have HP := Lib.hid hp
  have HR := Lib.hid hr
  have HG := Lib.hid hg
  have HPL := Lib.hid hp.1
  have HRL := Lib.hid hr.1
  have HGL := Lib.hid hg.1
  clear hs hp hr hg
  unfold maxLen at hm hmr hk
  have HV : Hid (u.dayE plan ran qs = if u.check 6 ≠ 0 then u.check 6 else if 8 < m then 5 else if mr ≠ m ∨ k ≠ m then 3 else if u.hoursOk ran qs m then 0 else 1) := by unfold Hid U.dayE; rw [HPL.out, HRL.out, HGL.out]
  go_enter Try.func16, Try.ntmps16
  go_wp2_with fail
  have k0 := (UBox.new w _ rfl u A n c 40).ext (show Ext (w.alloc (.cells #[.int .i64 u.bus, .int .i64 u.mn, .slice A n c, .int .i64 u.up, .int .i64 u.down, .int .i64 u.start, .int .i64 u.idle, .int .i64 u.spin, .int .i64 u.on] 40)) ((((w.alloc (.cells #[.int .i64 u.bus, .int .i64 u.mn, .slice A n c, .int .i64 u.up, .int .i64 u.down, .int .i64 u.start, .int .i64 u.idle, .int .i64 u.spin, .int .i64 u.on] 40)).alloc (.cells #[.slice R mr dR] 41)).alloc (.cells #[.slice P k cp] 22)).alloc (.cells #[.bool false, .slice none 0 0, .bool false, .slice none 0 0] 30)) from Ext.al (Ext.al (Ext.al Ext.rfl' _) _) _)
  have k1 : ((((w.alloc (.cells #[.int .i64 u.bus, .int .i64 u.mn, .slice A n c, .int .i64 u.up, .int .i64 u.down, .int .i64 u.start, .int .i64 u.idle, .int .i64 u.spin, .int .i64 u.on] 40)).alloc (.cells #[.slice R mr dR] 41)).alloc (.cells #[.slice P k cp] 22)).alloc (.cells #[.bool false, .slice none 0 0, .bool false, .slice none 0 0] 30)).cell? ⟨w.heap.size + 1, 0, none⟩ = some (.slice R mr dR) := Ext.cellOf (show Ext ((w.alloc (.cells #[.int .i64 u.bus, .int .i64 u.mn, .slice A n c, .int .i64 u.up, .int .i64 u.down, .int .i64 u.start, .int .i64 u.idle, .int .i64 u.spin, .int .i64 u.on] 40)).alloc (.cells #[.slice R mr dR] 41)) ((((w.alloc (.cells #[.int .i64 u.bus, .int .i64 u.mn, .slice A n c, .int .i64 u.up, .int .i64 u.down, .int .i64 u.start, .int .i64 u.idle, .int .i64 u.spin, .int .i64 u.on] 40)).alloc (.cells #[.slice R mr dR] 41)).alloc (.cells #[.slice P k cp] 22)).alloc (.cells #[.bool false, .slice none 0 0, .bool false, .slice none 0 0] 30)) from Ext.al (Ext.al Ext.rfl' _) _) (by have := (Blk.new (w.alloc (.cells #[.int .i64 u.bus, .int .i64 u.mn, .slice A n c, .int .i64 u.up, .int .i64 u.down, .int .i64 u.start, .int .i64 u.idle, .int .i64 u.spin, .int .i64 u.on] 40)) 41 #[.slice R mr dR]).cell 0; rw [show (w.alloc (.cells #[.int .i64 u.bus, .int .i64 u.mn, .slice A n c, .int .i64 u.up, .int .i64 u.down, .int .i64 u.start, .int .i64 u.idle, .int .i64 u.spin, .int .i64 u.on] 40)).heap.size = w.heap.size + 1 by simp] at this; exact this)
  have k2 : ((((w.alloc (.cells #[.int .i64 u.bus, .int .i64 u.mn, .slice A n c, .int .i64 u.up, .int .i64 u.down, .int .i64 u.start, .int .i64 u.idle, .int .i64 u.spin, .int .i64 u.on] 40)).alloc (.cells #[.slice R mr dR] 41)).alloc (.cells #[.slice P k cp] 22)).alloc (.cells #[.bool false, .slice none 0 0, .bool false, .slice none 0 0] 30)).cell? ⟨w.heap.size + 1 + 1, 0, none⟩ = some (.slice P k cp) := Ext.cellOf (show Ext (((w.alloc (.cells #[.int .i64 u.bus, .int .i64 u.mn, .slice A n c, .int .i64 u.up, .int .i64 u.down, .int .i64 u.start, .int .i64 u.idle, .int .i64 u.spin, .int .i64 u.on] 40)).alloc (.cells #[.slice R mr dR] 41)).alloc (.cells #[.slice P k cp] 22)) ((((w.alloc (.cells #[.int .i64 u.bus, .int .i64 u.mn, .slice A n c, .int .i64 u.up, .int .i64 u.down, .int .i64 u.start, .int .i64 u.idle, .int .i64 u.spin, .int .i64 u.on] 40)).alloc (.cells #[.slice R mr dR] 41)).alloc (.cells #[.slice P k cp] 22)).alloc (.cells #[.bool false, .slice none 0 0, .bool false, .slice none 0 0] 30)) from Ext.al Ext.rfl' _) (by have := (Blk.new ((w.alloc (.cells #[.int .i64 u.bus, .int .i64 u.mn, .slice A n c, .int .i64 u.up, .int .i64 u.down, .int .i64 u.start, .int .i64 u.idle, .int .i64 u.spin, .int .i64 u.on] 40)).alloc (.cells #[.slice R mr dR] 41)) 22 #[.slice P k cp]).cell 0; rw [show ((w.alloc (.cells #[.int .i64 u.bus, .int .i64 u.mn, .slice A n c, .int .i64 u.up, .int .i64 u.down, .int .i64 u.start, .int .i64 u.idle, .int .i64 u.spin, .int .i64 u.on] 40)).alloc (.cells #[.slice R mr dR] 41)).heap.size = w.heap.size + 1 + 1 by simp] at this; exact this)
  have k3 := Cell4.new (((w.alloc (.cells #[.int .i64 u.bus, .int .i64 u.mn, .slice A n c, .int .i64 u.up, .int .i64 u.down, .int .i64 u.start, .int .i64 u.idle, .int .i64 u.spin, .int .i64 u.on] 40)).alloc (.cells #[.slice R mr dR] 41)).alloc (.cells #[.slice P k cp] 22)) (w.heap.size + 1 + 1 + 1) (by simp) (.bool false) (.slice none 0 0) (.bool false) (.slice none 0 0) 30
  have hE : Ext w ((((w.alloc (.cells #[.int .i64 u.bus, .int .i64 u.mn, .slice A n c, .int .i64 u.up, .int .i64 u.down, .int .i64 u.start, .int .i64 u.idle, .int .i64 u.spin, .int .i64 u.on] 40)).alloc (.cells #[.slice R mr dR] 41)).alloc (.cells #[.slice P k cp] 22)).alloc (.cells #[.bool false, .slice none 0 0, .bool false, .slice none 0 0] 30)) := Ext.al (Ext.al (Ext.al (Ext.al Ext.rfl' _) _) _) _
  have hsz : ((((w.alloc (.cells #[.int .i64 u.bus, .int .i64 u.mn, .slice A n c, .int .i64 u.up, .int .i64 u.down, .int .i64 u.start, .int .i64 u.idle, .int .i64 u.spin, .int .i64 u.on] 40)).alloc (.cells #[.slice R mr dR] 41)).alloc (.cells #[.slice P k cp] 22)).alloc (.cells #[.bool false, .slice none 0 0, .bool false, .slice none 0 0] 30)).heap.size = w.heap.size + 1 + 1 + 1 + 1 := by simp
  generalize ((((w.alloc (.cells #[.int .i64 u.bus, .int .i64 u.mn, .slice A n c, .int .i64 u.up, .int .i64 u.down, .int .i64 u.start, .int .i64 u.idle, .int .i64 u.spin, .int .i64 u.on] 40)).alloc (.cells #[.slice R mr dR] 41)).alloc (.cells #[.slice P k cp] 22)).alloc (.cells #[.bool false, .slice none 0 0, .bool false, .slice none 0 0] 30)) = wb at *
  have SZ := Lib.hid hsz
  clear hsz
  have Ewb := Lib.hid hE
  clear hE
  have Ku := Lib.hid k0
  clear k0
  have Kran := Lib.hid k1
  clear k1
  have Kgen := Lib.hid k2
  clear k2
  have Kr := Lib.hid k3
  clear k3
  refine (ucheck_any u 6 A n c wb (HS.out.below Ewb.out) hn).mono ?_
  rintro e w1 ⟨rfl, hE⟩
  have Ew1 := Lib.hid hE
  clear hE
  by_cases h0 : u.check 6 = 0
  rotate_left
  · obtain ⟨ck, hck⟩ : ∃ v, u.check 6 = v := ⟨_, rfl⟩
    rw [hck]
    have hb : (ck != 0) = true := by rw [← hck]; simp [h0]
    rw [hck] at h0 HV
    have HNZ := Lib.hid h0
    clear h0 hck
    obtain ⟨⟨xr0, xr1, xr2, xr3⟩, ⟨yr0, yr1, yr2, yr3⟩, zr⟩ := (Kr.out.ext Ew1.out)
    go_wp2_with fail
    refine bodyPost_ret (v := .tuple #[.agg #[.bool false, .slice none 0 0, .bool false, .slice none 0 0], .int .i64 ck]) (by simp [results, Try.results16, go_sem, xr0, xr1, xr2, xr3]) rfl ?_
    have HE1 : u.dayE plan ran qs = ck := by rw [HV.out, if_pos HNZ.out]
    have hq : QCan w1 (w.heap.size + 1 + 1 + 1 + 1) false none 0 0 false none 0 0 (u.dayV plan ran qs) := by unfold U.dayV; rw [if_neg (by rw [HE1]; first | exact HNZ.out | decide)]; exact qcan_zero _ _
    exact ⟨_, _, _, _, _, _, _, _, ret_qe HE1.symm, retQ_fill (by omega) (by omega) hq (Ext.trans Ewb.out Ew1.out) _ _ _ _⟩
  have HOK : Hid (u.ok = true) := decide_eq_true h0
  rw [h0] at HV
  rw [h0]
  clear h0
  by_cases h8 : 8 < m
  · have hb : decide ((8 : Int) < (m : Int)) = true := by simp; omega
    have hb2 : decide (8 < m) = true := by simp; omega
    obtain ⟨⟨xr0, xr1, xr2, xr3⟩, ⟨yr0, yr1, yr2, yr3⟩, zr⟩ := (Kr.out.ext Ew1.out)
    go_wp2_with fail
    refine bodyPost_ret (v := .tuple #[.agg #[.bool false, .slice none 0 0, .bool false, .slice none 0 0], .int .i64 5]) (by simp [results, Try.results16, go_sem, xr0, xr1, xr2, xr3]) rfl ?_
    have HE1 : u.dayE plan ran qs = 5 := by rw [HV.out, if_neg (by simp), if_pos h8]
    have hq : QCan w1 (w.heap.size + 1 + 1 + 1 + 1) false none 0 0 false none 0 0 (u.dayV plan ran qs) := by unfold U.dayV; rw [if_neg (by rw [HE1]; first | exact HNZ.out | decide)]; exact qcan_zero _ _
    exact ⟨_, _, _, _, _, _, _, _, ret_qe HE1.symm, retQ_fill (by omega) (by omega) hq (Ext.trans Ewb.out Ew1.out) _ _ _ _⟩
  have hb : decide ((8 : Int) < (m : Int)) = false := by simp; omega
  have hb2 : decide (8 < m) = false := by simp; omega
  by_cases hmn : mr = m
  rotate_left
  · have hc : ((mr : Int) != (m : Int)) = true := by simp; omega
    have hc2 : (mr != m) = true := by simp; omega
    have xran := Ext.cellOf Ew1.out Kran.out
    have zran := World.block_lt_of_cell? _ _ xran
    obtain ⟨⟨xr0, xr1, xr2, xr3⟩, ⟨yr0, yr1, yr2, yr3⟩, zr⟩ := (Kr.out.ext Ew1.out)
    go_wp2_with fail
    refine bodyPost_ret (v := .tuple #[.agg #[.bool false, .slice none 0 0, .bool false, .slice none 0 0], .int .i64 3]) (by simp [results, Try.results16, go_sem, xr0, xr1, xr2, xr3]) rfl ?_
    have HE1 : u.dayE plan ran qs = 3 := by rw [HV.out, if_neg (by simp), if_neg h8, if_pos (.inl hmn)]
    have hq : QCan w1 (w.heap.size + 1 + 1 + 1 + 1) false none 0 0 false none 0 0 (u.dayV plan ran qs) := by unfold U.dayV; rw [if_neg (by rw [HE1]; first | exact HNZ.out | decide)]; exact qcan_zero _ _
    exact ⟨_, _, _, _, _, _, _, _, ret_qe HE1.symm, retQ_fill (by omega) (by omega) hq (Ext.trans Ewb.out Ew1.out) _ _ _ _⟩
  subst hmn
  have hc : ((mr : Int) != (mr : Int)) = false := by simp
  have hc2 : (mr != mr) = false := by simp
  by_cases hkn : k = mr
  rotate_left
  · have hd : ((k : Int) != (mr : Int)) = true := by simp; omega
    have hd2 : (k != mr) = true := by simp; omega
    have xran := Ext.cellOf Ew1.out Kran.out
    have zran := World.block_lt_of_cell? _ _ xran
    have xgen := Ext.cellOf Ew1.out Kgen.out
    have zgen := World.block_lt_of_cell? _ _ xgen
    obtain ⟨⟨xr0, xr1, xr2, xr3⟩, ⟨yr0, yr1, yr2, yr3⟩, zr⟩ := (Kr.out.ext Ew1.out)
    go_wp2_with fail
    refine bodyPost_ret (v := .tuple #[.agg #[.bool false, .slice none 0 0, .bool false, .slice none 0 0], .int .i64 3]) (by simp [results, Try.results16, go_sem, xr0, xr1, xr2, xr3]) rfl ?_
    have HE1 : u.dayE plan ran qs = 3 := by rw [HV.out, if_neg (by simp), if_neg h8, if_pos (.inr hkn)]
    have hq : QCan w1 (w.heap.size + 1 + 1 + 1 + 1) false none 0 0 false none 0 0 (u.dayV plan ran qs) := by unfold U.dayV; rw [if_neg (by rw [HE1]; first | exact HNZ.out | decide)]; exact qcan_zero _ _
    exact ⟨_, _, _, _, _, _, _, _, ret_qe HE1.symm, retQ_fill (by omega) (by omega) hq (Ext.trans Ewb.out Ew1.out) _ _ _ _⟩
  subst hkn
  have hm8 : k ≤ 8 := by omega
  have hH : Hid (u.dayE plan ran qs = if u.hoursOk ran qs k then 0 else 1) := by unfold Hid; rw [HV.out, if_neg (by simp), if_neg h8, if_neg (by simp)]
  have HH := Lib.hid hH.out
  clear HV hH h8
  have xran := Ext.cellOf Ew1.out Kran.out
  have zran := World.block_lt_of_cell? _ _ xran
  have xgen := Ext.cellOf Ew1.out Kgen.out
  have zgen := World.block_lt_of_cell? _ _ xgen
  go_wp2_with fail
  clear xran zran xgen zgen hb hb2 hc hc2
  have hst0 := (U.good HOK.out).st0
  have hst9 := (U.good HOK.out).st9
  have hid0 := (U.good HOK.out).id0
  have hid9 := (U.good HOK.out).id9
  have htb := total_bd u.steps
  have htop : 0 ≤ u.top ∧ u.top ≤ 3000000 := by
    unfold U.top
    split <;> omega
  obtain ⟨ht0, ht1⟩ := htop
  have hsb := ustarts_bd u plan
  rw [HPL.out] at hsb
  obtain ⟨hsb0, hsb1⟩ := hsb
  clear htb
  obtain ⟨top, htop⟩ : ∃ v, u.top = v := ⟨_, rfl⟩
  obtain ⟨idl, hidl⟩ : ∃ v, u.idle = v := ⟨_, rfl⟩
  obtain ⟨st, hst⟩ : ∃ v, u.start = v := ⟨_, rfl⟩
  obtain ⟨nst, hnst⟩ : ∃ v, u.starts plan = v := ⟨_, rfl⟩
  have HTOP := Lib.hid htop
  have HIDL := Lib.hid hidl
  have HST := Lib.hid hst
  have HNST := Lib.hid hnst
  rw [htop] at ht0 ht1
  rw [hidl] at hid0 hid9
  rw [hst] at hst0 hst9
  rw [hnst] at hsb0 hsb1
  clear htop hidl hst hnst
  refine wp_region_havS [6, 7] [0, 1, 2, 3, 4, 5] [8, 9] (fun _ => .cells #[.bool false, .slice none 0 0, .bool false, .slice none 0 0] 30) (by kernel_rfl) (by kernel_rfl) ?_ ?_
  · intro f hf
    simp only [List.mem_cons, List.not_mem_nil, or_false] at hf
    rcases hf with rfl | rfl
    all_goals exact makes_q (by rfl) rfl
  have hE : Ext w1 w1.drew := Ext.rfl'.drew
  generalize w1.drew = w2 at *
  have Ew2 := Lib.hid hE
  clear hE
  have fu0 := fun z : ExtX w2 [] => z.cell (p := ⟨w.heap.size, 0, none⟩) (Ku.out.ext (Ext.trans Ew1.out Ew2.out)).1 (by simp)
  have fu1 := fun z : ExtX w2 [] => z.cell (p := ⟨w.heap.size, 1, none⟩) (Ku.out.ext (Ext.trans Ew1.out Ew2.out)).2.1 (by simp)
  have fu2 := fun z : ExtX w2 [] => z.cell (p := ⟨w.heap.size, 2, none⟩) (Ku.out.ext (Ext.trans Ew1.out Ew2.out)).2.2.1 (by simp)
  have fu3 := fun z : ExtX w2 [] => z.cell (p := ⟨w.heap.size, 3, none⟩) (Ku.out.ext (Ext.trans Ew1.out Ew2.out)).2.2.2.1 (by simp)
  have fu4 := fun z : ExtX w2 [] => z.cell (p := ⟨w.heap.size, 4, none⟩) (Ku.out.ext (Ext.trans Ew1.out Ew2.out)).2.2.2.2.1 (by simp)
  have fu5 := fun z : ExtX w2 [] => z.cell (p := ⟨w.heap.size, 5, none⟩) (Ku.out.ext (Ext.trans Ew1.out Ew2.out)).2.2.2.2.2.1 (by simp)
  have fu6 := fun z : ExtX w2 [] => z.cell (p := ⟨w.heap.size, 6, none⟩) (Ku.out.ext (Ext.trans Ew1.out Ew2.out)).2.2.2.2.2.2.1 (by simp)
  have fu7 := fun z : ExtX w2 [] => z.cell (p := ⟨w.heap.size, 7, none⟩) (Ku.out.ext (Ext.trans Ew1.out Ew2.out)).2.2.2.2.2.2.2.1 (by simp)
  have fu8 := fun z : ExtX w2 [] => z.cell (p := ⟨w.heap.size, 8, none⟩) (Ku.out.ext (Ext.trans Ew1.out Ew2.out)).2.2.2.2.2.2.2.2 (by simp)
  intro w3 hE
  have Ew3 := Lib.hid hE
  clear hE
  repeat (refine havAt_still (by rfl) (by rfl) ?_; go_big_quiet_step (fail); refine wpQuiet_nil ?_)
  refine havAt_move (by rfl) (by rfl) (by kernel_rfl) ?_
  go_wp2_with fail
  refine (qfrom_any u.idle w3 (by rw [HIDL.out]; exact ⟨by omega, by omega⟩)).mono ?_
  rintro e w4 ⟨sa, Aa, na, ca, ta, Ba, ma, da, rfl, hQ, hE⟩
  have Ew4 := Lib.hid hE
  clear hE
  have Qa := Lib.hid hQ
  clear hQ
  rw [HIDL.out] at Qa
  go_wp2_with fail
  refine And.intro Ew4.out (fun w5 hE => ?_)
  have Ew5 := Lib.hid hE
  clear hE
  repeat (refine havAt_still (by rfl) (by rfl) ?_; go_big_quiet_step (fail); refine wpQuiet_nil ?_)
  refine havAt_move (by rfl) (by rfl) (by kernel_rfl) ?_
  go_wp2_with fail
  refine (max_any u A n c w5 (HS.out.below (Ext.trans Ewb.out (Ext.trans Ew1.out (Ext.trans Ew2.out (Ext.trans Ew3.out (Ext.trans Ew4.out Ew5.out)))))) hn).mono ?_
  rintro e w6 ⟨rfl, hE⟩
  have Ew6 := Lib.hid hE
  clear hE
  rw [HTOP.out]
  go_wp2_with fail
  refine And.intro Ew6.out (fun w7 hE => ?_)
  have Ew7 := Lib.hid hE
  clear hE
  repeat (refine havAt_still (by rfl) (by rfl) ?_; go_big_quiet_step (fail); refine wpQuiet_nil ?_)
  refine havAt_move (by rfl) (by rfl) (by kernel_rfl) ?_
  go_wp2_with fail
  refine (qfrom_any top w7 ⟨by omega, by omega⟩).mono ?_
  rintro e w8 ⟨sb, Ab, nb, cb, tb, Bb, mb, db, rfl, hQ, hE⟩
  have Ew8 := Lib.hid hE
  clear hE
  have Qb := Lib.hid hQ
  clear hQ
  go_wp2_with fail
  refine And.intro Ew8.out (fun w9 hE => ?_)
  have Ew9 := Lib.hid hE
  clear hE
  repeat (refine havAt_still (by rfl) (by rfl) ?_; go_big_quiet_step (fail); refine wpQuiet_nil ?_)
  refine havAt_end ?_
  intro gs hgs hne
  have hpi := hgs 6 (by simp)
  have hpo := hgs 7 (by simp)
  have hnio := hne 6 (by simp) 7 (by simp) (by omega)
  change IdxAt _ _ _ _ _ _ (Act.put (Act.put _ (some 11) (.pointer (some ⟨gs 6, 0, none⟩))) (some 12) (.pointer (some ⟨gs 7, 0, none⟩))) _
  generalize gs 6 = gi at *
  generalize gs 7 = go at *
  clear hgs hne
  simp only [Act.put, List.setIfInBounds_toArray, List.set_cons_succ, List.set_cons_zero]
  have Pi := Lib.hid hpi
  have Ki := Lib.hid (Cell4.of_blk hpi.2.1)
  clear hpi
  have Po := Lib.hid hpo
  have Ko := Lib.hid (Cell4.of_blk hpo.2.1)
  clear hpo
  have HNio := Lib.hid hnio
  clear hnio
  repeat (refine idxAt_still (by rfl) (by rfl) ?_; go_big_quiet_step (fail); refine wpQuiet_nil ?_)
  obtain ⟨⟨o0, o1, o2, o3⟩, ⟨q0, q1, q2, q3⟩, ol⟩ := Ki.out
  refine idxAt_move (by rfl) (by rfl) (by kernel_rfl) ?_
  go_wp2_with fail
  refine And.intro (inX_put (p := ⟨gi, 3, none⟩) (inX_put (p := ⟨gi, 2, none⟩) (inX_put (p := ⟨gi, 1, none⟩) (inX_put (p := ⟨gi, 0, none⟩) (inX_of_ext _ (Ext.trans Ew3.out (Ext.trans Ew4.out (Ext.trans Ew5.out (Ext.trans Ew6.out (Ext.trans Ew7.out (Ext.trans Ew8.out Ew9.out))))))) (.inr Pi.out.1) _) (.inr Pi.out.1) _) (.inr Pi.out.1) _) (.inr Pi.out.1) _) ?_
  clear o0 o1 o2 o3 q0 q1 q2 q3 ol
  have Ki_1 := Lib.hid (Ki.out.put4 (.bool sa) (.slice Aa na ca) (.bool ta) (.slice Ba ma da))
  have NJ1 := Lib.hid (ext_put4 (Ext.trans Ew3.out (Ext.trans Ew4.out (Ext.trans Ew5.out (Ext.trans Ew6.out (Ext.trans Ew7.out (Ext.trans Ew8.out Ew9.out)))))) (g := gi) Pi.out.1 0 (.bool sa) (.slice Aa na ca) (.bool ta) (.slice Ba ma da))
  have NZ1 : Hid (w9.heap.size ≤ (put4 w9 (gi) 0 (.bool sa) (.slice Aa na ca) (.bool ta) (.slice Ba ma da)).heap.size) := by unfold Hid; rw [put4_size]; exact Nat.le_refl _
  have Qa_1 := Lib.hid ((Qa.out.ext (Ext.trans Ew5.out (Ext.trans Ew6.out (Ext.trans Ew7.out (Ext.trans Ew8.out Ew9.out))))).put4A (g := gi) (Qa.out.span (Pi.out.2.2 (w3.heap.size, w4.heap.size) (by simp))) 0 (.bool sa) (.slice Aa na ca) (.bool ta) (.slice Ba ma da))
  have Qb_1 := Lib.hid ((Qb.out.ext Ew9.out).put4A (g := gi) (Qb.out.span (Pi.out.2.2 (w7.heap.size, w8.heap.size) (by simp))) 0 (.bool sa) (.slice Aa na ca) (.bool ta) (.slice Ba ma da))
  have Ko_1 := Lib.hid (Ko.out.far4 (g := gi) (off := 0) HNio.out (.bool sa) (.slice Aa na ca) (.bool ta) (.slice Ba ma da))
  unfold put4 at Ki_1 NJ1 NZ1 Qa_1 Qb_1 Ko_1
  simp only [Nat.zero_add] at Ki_1 NJ1 NZ1 Qa_1 Qb_1 Ko_1
  generalize ((((w9.setCell ⟨gi, 0, none⟩ (.bool sa)).setCell ⟨gi, 1, none⟩ (.slice Aa na ca)).setCell ⟨gi, 2, none⟩ (.bool ta)).setCell ⟨gi, 3, none⟩ (.slice Ba ma da)) = w10 at *
  repeat (refine idxAt_still (by rfl) (by rfl) ?_; go_big_quiet_step (fail); refine wpQuiet_nil ?_)
  obtain ⟨⟨o0, o1, o2, o3⟩, ⟨q0, q1, q2, q3⟩, ol⟩ := Ko_1.out
  refine idxAt_move (by rfl) (by rfl) (by kernel_rfl) ?_
  go_wp2_with fail
  refine And.intro (inX_put (p := ⟨go, 3, none⟩) (inX_put (p := ⟨go, 2, none⟩) (inX_put (p := ⟨go, 1, none⟩) (inX_put (p := ⟨go, 0, none⟩) (inX_of_ext _ NJ1.out) (.inr Po.out.1) _) (.inr Po.out.1) _) (.inr Po.out.1) _) (.inr Po.out.1) _) ?_
  clear o0 o1 o2 o3 q0 q1 q2 q3 ol
  have Ko_2 := Lib.hid (Ko_1.out.put4 (.bool sb) (.slice Ab nb cb) (.bool tb) (.slice Bb mb db))
  have NJ2 := Lib.hid (ext_put4 NJ1.out (g := go) Po.out.1 0 (.bool sb) (.slice Ab nb cb) (.bool tb) (.slice Bb mb db))
  have NZ2 : Hid (w10.heap.size ≤ (put4 w10 (go) 0 (.bool sb) (.slice Ab nb cb) (.bool tb) (.slice Bb mb db)).heap.size) := by unfold Hid; rw [put4_size]; exact Nat.le_refl _
  have Qa_2 := Lib.hid (Qa_1.out.put4A (g := go) (Qa.out.span (Po.out.2.2 (w3.heap.size, w4.heap.size) (by simp))) 0 (.bool sb) (.slice Ab nb cb) (.bool tb) (.slice Bb mb db))
  have Qb_2 := Lib.hid (Qb_1.out.put4A (g := go) (Qb.out.span (Po.out.2.2 (w7.heap.size, w8.heap.size) (by simp))) 0 (.bool sb) (.slice Ab nb cb) (.bool tb) (.slice Bb mb db))
  have Ki_2 := Lib.hid (Ki_1.out.far4 (g := go) (off := 0) (Ne.symm HNio.out) (.bool sb) (.slice Ab nb cb) (.bool tb) (.slice Bb mb db))
  unfold put4 at Ko_2 NJ2 NZ2 Qa_2 Qb_2 Ki_2
  simp only [Nat.zero_add] at Ko_2 NJ2 NZ2 Qa_2 Qb_2 Ki_2
  generalize ((((w10.setCell ⟨go, 0, none⟩ (.bool sb)).setCell ⟨go, 1, none⟩ (.slice Ab nb cb)).setCell ⟨go, 2, none⟩ (.bool tb)).setCell ⟨go, 3, none⟩ (.slice Bb mb db)) = w11 at *
  repeat (refine idxAt_still (by rfl) (by rfl) ?_; go_big_quiet_step (fail); refine wpQuiet_nil ?_)
  refine idxAt_nil ?_
  clear fu0 fu1 fu2 fu3 fu4 fu5 fu6 fu7 fu8
  go_wp2_with fail
  refine wp_region_havS [8] [0, 1, 2, 3, 4, 5, 6, 7] [9] (fun _ => .cells #[.bool false, .slice none 0 0, .bool false, .slice none 0 0] 30) (by kernel_rfl) (by kernel_rfl) ?_ ?_
  · intro f hf
    simp only [List.mem_cons, List.not_mem_nil, or_false] at hf
    rcases hf with rfl
    all_goals exact makes_q (by rfl) rfl
  have hE : Ext w11 w11.drew := Ext.rfl'.drew
  generalize w11.drew = w12 at *
  have Ew12 := Lib.hid hE
  clear hE
  have fu0 := fun z : ExtX w12 [] => z.cell (p := ⟨w.heap.size, 0, none⟩) (Ku.out.ext (Ext.trans Ew1.out (Ext.trans Ew2.out (Ext.trans NJ2.out Ew12.out)))).1 (by simp)
  have fu1 := fun z : ExtX w12 [] => z.cell (p := ⟨w.heap.size, 1, none⟩) (Ku.out.ext (Ext.trans Ew1.out (Ext.trans Ew2.out (Ext.trans NJ2.out Ew12.out)))).2.1 (by simp)
  have fu2 := fun z : ExtX w12 [] => z.cell (p := ⟨w.heap.size, 2, none⟩) (Ku.out.ext (Ext.trans Ew1.out (Ext.trans Ew2.out (Ext.trans NJ2.out Ew12.out)))).2.2.1 (by simp)
  have fu3 := fun z : ExtX w12 [] => z.cell (p := ⟨w.heap.size, 3, none⟩) (Ku.out.ext (Ext.trans Ew1.out (Ext.trans Ew2.out (Ext.trans NJ2.out Ew12.out)))).2.2.2.1 (by simp)
  have fu4 := fun z : ExtX w12 [] => z.cell (p := ⟨w.heap.size, 4, none⟩) (Ku.out.ext (Ext.trans Ew1.out (Ext.trans Ew2.out (Ext.trans NJ2.out Ew12.out)))).2.2.2.2.1 (by simp)
  have fu5 := fun z : ExtX w12 [] => z.cell (p := ⟨w.heap.size, 5, none⟩) (Ku.out.ext (Ext.trans Ew1.out (Ext.trans Ew2.out (Ext.trans NJ2.out Ew12.out)))).2.2.2.2.2.1 (by simp)
  have fu6 := fun z : ExtX w12 [] => z.cell (p := ⟨w.heap.size, 6, none⟩) (Ku.out.ext (Ext.trans Ew1.out (Ext.trans Ew2.out (Ext.trans NJ2.out Ew12.out)))).2.2.2.2.2.2.1 (by simp)
  have fu7 := fun z : ExtX w12 [] => z.cell (p := ⟨w.heap.size, 7, none⟩) (Ku.out.ext (Ext.trans Ew1.out (Ext.trans Ew2.out (Ext.trans NJ2.out Ew12.out)))).2.2.2.2.2.2.2.1 (by simp)
  have fu8 := fun z : ExtX w12 [] => z.cell (p := ⟨w.heap.size, 8, none⟩) (Ku.out.ext (Ext.trans Ew1.out (Ext.trans Ew2.out (Ext.trans NJ2.out Ew12.out)))).2.2.2.2.2.2.2.2 (by simp)
  intro w13 hE
  have Ew13 := Lib.hid hE
  clear hE
  repeat (refine havAt_still (by rfl) (by rfl) ?_; go_big_quiet_step (fail); refine wpQuiet_nil ?_)
  refine havAt_move (by rfl) (by rfl) (by kernel_rfl) ?_
  go_wp2_with fail
  refine (qfrom_any u.start w13 (by rw [HST.out]; exact ⟨by omega, by omega⟩)).mono ?_
  rintro e w14 ⟨sx, Ax, nx, cx, tx, Bx, mx, dx, rfl, hQ, hE⟩
  have Ew14 := Lib.hid hE
  clear hE
  have Qx := Lib.hid hQ
  clear hQ
  rw [HST.out] at Qx
  go_wp2_with fail
  refine And.intro Ew14.out (fun w15 hE => ?_)
  have Ew15 := Lib.hid hE
  clear hE
  repeat (refine havAt_still (by rfl) (by rfl) ?_; go_big_quiet_step (fail); refine wpQuiet_nil ?_)
  refine havAt_move (by rfl) (by rfl) (by kernel_rfl) ?_
  go_wp2_with fail
  refine (starts_any u A n c Rp k dp plan w15 (HS.out.below (Ext.trans Ewb.out (Ext.trans Ew1.out (Ext.trans Ew2.out (Ext.trans NJ2.out (Ext.trans Ew12.out (Ext.trans Ew13.out (Ext.trans Ew14.out Ew15.out)))))))) hn (HP.out.below (Ext.trans Ewb.out (Ext.trans Ew1.out (Ext.trans Ew2.out (Ext.trans NJ2.out (Ext.trans Ew12.out (Ext.trans Ew13.out (Ext.trans Ew14.out Ew15.out)))))))) (by unfold maxLen; omega)).mono ?_
  rintro e w16 ⟨rfl, hE⟩
  have Ew16 := Lib.hid hE
  clear hE
  rw [HNST.out]
  go_wp2_with fail
  refine And.intro Ew16.out (fun w17 hE => ?_)
  have Ew17 := Lib.hid hE
  clear hE
  repeat (refine havAt_still (by rfl) (by rfl) ?_; go_big_quiet_step (fail); refine wpQuiet_nil ?_)
  refine havAt_move (by rfl) (by rfl) (by kernel_rfl) ?_
  go_wp2_with fail
  refine (qfrom_any nst w17 ⟨by omega, by omega⟩).mono ?_
  rintro e w18 ⟨sy, Ay, ny, cy, ty, By, my, dy, rfl, hQ, hE⟩
  have Ew18 := Lib.hid hE
  clear hE
  have Qy := Lib.hid hQ
  clear hQ
  go_wp2_with fail
  refine And.intro Ew18.out (fun w19 hE => ?_)
  have Ew19 := Lib.hid hE
  clear hE
  repeat (refine havAt_still (by rfl) (by rfl) ?_; go_big_quiet_step (fail); refine wpQuiet_nil ?_)
  refine havAt_move (by rfl) (by rfl) (by kernel_rfl) ?_
  go_wp2_with fail
  refine (qmul_any sx Ax nx cx tx Bx mx dx _ sy Ay ny cy ty By my dy _ w19 ((Qx.out.ext (Ext.trans Ew15.out (Ext.trans Ew16.out (Ext.trans Ew17.out (Ext.trans Ew18.out Ew19.out))))).arg (sz_small (z := st) (by omega) (by omega)) (by omega)) ((Qy.out.ext Ew19.out).arg (sz_small (z := nst) (by omega) (by omega)) (by omega))).mono ?_
  rintro e w20 ⟨sz, Az, nz, cz, tz, Bz, mz, dz, rfl, hQ, hE⟩
  have Ew20 := Lib.hid hE
  clear hE
  have Qz := Lib.hid hQ
  clear hQ
  go_wp2_with fail
  refine And.intro Ew20.out (fun w21 hE => ?_)
  have Ew21 := Lib.hid hE
  clear hE
  repeat (refine havAt_still (by rfl) (by rfl) ?_; go_big_quiet_step (fail); refine wpQuiet_nil ?_)
  refine havAt_end ?_
  intro gs hgs hne
  have hpp := hgs 8 (by simp)
  change IdxAt _ _ _ _ _ _ (Act.put _ (some 13) (.pointer (some ⟨gs 8, 0, none⟩))) _
  generalize gs 8 = gp at *
  clear hgs hne
  simp only [Act.put, List.setIfInBounds_toArray, List.set_cons_succ, List.set_cons_zero]
  have Pp := Lib.hid hpp
  have Kp := Lib.hid (Cell4.of_blk hpp.2.1)
  clear hpp
  repeat (refine idxAt_still (by rfl) (by rfl) ?_; go_big_quiet_step (fail); refine wpQuiet_nil ?_)
  obtain ⟨⟨o0, o1, o2, o3⟩, ⟨q0, q1, q2, q3⟩, ol⟩ := Kp.out
  refine idxAt_move (by rfl) (by rfl) (by kernel_rfl) ?_
  go_wp2_with fail
  refine And.intro (inX_put (p := ⟨gp, 3, none⟩) (inX_put (p := ⟨gp, 2, none⟩) (inX_put (p := ⟨gp, 1, none⟩) (inX_put (p := ⟨gp, 0, none⟩) (inX_of_ext _ (Ext.trans Ew13.out (Ext.trans Ew14.out (Ext.trans Ew15.out (Ext.trans Ew16.out (Ext.trans Ew17.out (Ext.trans Ew18.out (Ext.trans Ew19.out (Ext.trans Ew20.out Ew21.out))))))))) (.inr Pp.out.1) _) (.inr Pp.out.1) _) (.inr Pp.out.1) _) (.inr Pp.out.1) _) ?_
  clear o0 o1 o2 o3 q0 q1 q2 q3 ol
  have Kp_3 := Lib.hid (Kp.out.put4 (.bool sz) (.slice Az nz cz) (.bool tz) (.slice Bz mz dz))
  have NJ3 := Lib.hid (ext_put4 (Ext.trans Ew13.out (Ext.trans Ew14.out (Ext.trans Ew15.out (Ext.trans Ew16.out (Ext.trans Ew17.out (Ext.trans Ew18.out (Ext.trans Ew19.out (Ext.trans Ew20.out Ew21.out)))))))) (g := gp) Pp.out.1 0 (.bool sz) (.slice Az nz cz) (.bool tz) (.slice Bz mz dz))
  have NZ3 : Hid (w21.heap.size ≤ (put4 w21 (gp) 0 (.bool sz) (.slice Az nz cz) (.bool tz) (.slice Bz mz dz)).heap.size) := by unfold Hid; rw [put4_size]; exact Nat.le_refl _
  have Qx_3 := Lib.hid ((Qx.out.ext (Ext.trans Ew15.out (Ext.trans Ew16.out (Ext.trans Ew17.out (Ext.trans Ew18.out (Ext.trans Ew19.out (Ext.trans Ew20.out Ew21.out))))))).put4A (g := gp) (Qx.out.span (Pp.out.2.2 (w13.heap.size, w14.heap.size) (by simp))) 0 (.bool sz) (.slice Az nz cz) (.bool tz) (.slice Bz mz dz))
  have Qy_3 := Lib.hid ((Qy.out.ext (Ext.trans Ew19.out (Ext.trans Ew20.out Ew21.out))).put4A (g := gp) (Qy.out.span (Pp.out.2.2 (w17.heap.size, w18.heap.size) (by simp))) 0 (.bool sz) (.slice Az nz cz) (.bool tz) (.slice Bz mz dz))
  have Qz_3 := Lib.hid ((Qz.out.ext Ew21.out).put4A (g := gp) (Qz.out.span (Pp.out.2.2 (w19.heap.size, w20.heap.size) (by simp))) 0 (.bool sz) (.slice Az nz cz) (.bool tz) (.slice Bz mz dz))
  unfold put4 at Kp_3 NJ3 NZ3 Qx_3 Qy_3 Qz_3
  simp only [Nat.zero_add] at Kp_3 NJ3 NZ3 Qx_3 Qy_3 Qz_3
  generalize ((((w21.setCell ⟨gp, 0, none⟩ (.bool sz)).setCell ⟨gp, 1, none⟩ (.slice Az nz cz)).setCell ⟨gp, 2, none⟩ (.bool tz)).setCell ⟨gp, 3, none⟩ (.slice Bz mz dz)) = w22 at *
  repeat (refine idxAt_still (by rfl) (by rfl) ?_; go_big_quiet_step (fail); refine wpQuiet_nil ?_)
  refine idxAt_nil ?_
  clear fu0 fu1 fu2 fu3 fu4 fu5 fu6 fu7 fu8
  go_wp2_with fail
  have HD0 : Hid (((st : Int) : Rat) * ((nst : Int) : Rat) = u.dayTo plan ran qs 0) := by unfold Hid; rw [dayTo_zero, HST.out, HNST.out]
  have hQ0 := Qz_3.out
  rw [HD0.out] at hQ0
  have Q0 := Lib.hid hQ0
  clear hQ0
  have HDM : Hid (DayM w12 u A n c (w.heap.size + 1 + 1) go (w.heap.size + 1) gi w.heap.size P k cp qs R dR ran) := ⟨Ext.cellOf (Ext.trans Ew1.out (Ext.trans Ew2.out (Ext.trans NJ2.out Ew12.out))) Kgen.out, HG.out.ext (Ext.trans Ewb.out (Ext.trans Ew1.out (Ext.trans Ew2.out (Ext.trans NJ2.out Ew12.out)))), Ext.cellOf (Ext.trans Ew1.out (Ext.trans Ew2.out (Ext.trans NJ2.out Ew12.out))) Kran.out, HR.out.below (Ext.trans Ewb.out (Ext.trans Ew1.out (Ext.trans Ew2.out (Ext.trans NJ2.out Ew12.out)))), by rw [HTOP.out]; exact ⟨sb, Ab, nb, cb, tb, Bb, mb, db, (Ko_2.out.ext Ew12.out), (Qb_2.out.ext Ew12.out).base (Nat.zero_le _), fun x hx => by simp at hx⟩, by rw [HIDL.out]; exact ⟨sa, Aa, na, ca, ta, Ba, ma, da, (Ki_2.out.ext Ew12.out), (Qa_2.out.ext Ew12.out).base (Nat.zero_le _), fun x hx => by simp at hx⟩, Ku.out.ext (Ext.trans Ew1.out (Ext.trans Ew2.out (Ext.trans NJ2.out Ew12.out))), HS.out.below (Ext.trans Ewb.out (Ext.trans Ew1.out (Ext.trans Ew2.out (Ext.trans NJ2.out Ew12.out))))⟩
  have HAWz : Hid (∀ x ∈ [gp], Away x (x + 1) Az nz ∧ Away x (x + 1) Bz mz) := fun x hx => by
    simp only [List.mem_cons, List.not_mem_nil, or_false] at hx
    subst hx
    exact (Qz.out.span (Pp.out.2.2 (w19.heap.size, w20.heap.size) (by simp)))
  refine (each_any u A n c (w.heap.size + 1 + 1) go (w.heap.size + 1) gi w.heap.size P k cp qs R dR ran plan gp w12 w22 HOK.out (by omega) (by rw [HPL.out]; omega) hn HDM.out NJ3.out Pp.out.1 ⟨sz, Az, nz, cz, tz, Bz, mz, dz, Kp_3.out, Q0.out.base (Nat.le_trans Ew13.out.size (Nat.le_trans Ew14.out.size (Nat.le_trans Ew15.out.size (Nat.le_trans Ew16.out.size (Nat.le_trans Ew17.out.size (Nat.le_trans Ew18.out.size Ew19.out.size)))))), HAWz.out⟩).mono ?_
  rintro e w23 ⟨rfl, hE, hv⟩
  have HEJ := Lib.hid hE
  clear hE
  by_cases ho : u.hoursOk ran qs k
  rotate_left
  · rw [if_neg ho]
    have HO := Lib.hid ho
    have hb : ((1 : Int) != 0) = true := by decide
    clear ho hv
    obtain ⟨⟨xr0, xr1, xr2, xr3⟩, ⟨yr0, yr1, yr2, yr3⟩, zr⟩ := (Kr.out.ext (Ext.trans Ew1.out (Ext.trans Ew2.out (Ext.trans NJ2.out (Ext.trans Ew12.out HEJ.out)))))
    go_wp2_with fail
    refine bodyPost_ret (v := .tuple #[.agg #[.bool false, .slice none 0 0, .bool false, .slice none 0 0], .int .i64 1]) (by simp [results, Try.results16, go_sem, xr0, xr1, xr2, xr3]) rfl ?_
    have HE1 : u.dayE plan ran qs = 1 := by rw [HH.out, if_neg HO.out]
    have hq : QCan w23 (w.heap.size + 1 + 1 + 1 + 1) false none 0 0 false none 0 0 (u.dayV plan ran qs) := by unfold U.dayV; rw [if_neg (by rw [HE1]; first | exact HNZ.out | decide)]; exact qcan_zero _ _
    exact ⟨_, _, _, _, _, _, _, _, ret_qe HE1.symm, retQ_fill (by omega) (by omega) hq (Ext.trans Ewb.out (Ext.trans Ew1.out (Ext.trans Ew2.out (Ext.trans NJ2.out (Ext.trans Ew12.out HEJ.out))))) _ _ _ _⟩
  obtain ⟨sv, Av, nv, cv, tv, Bv, mv, dv, hKv, hQv, -⟩ := hv ho
  rw [if_pos ho]
  have HE0 : Hid (u.dayE plan ran qs = 0) := by unfold Hid; rw [HH.out, if_pos ho]
  have HQv := Lib.hid hQv
  have hb : ((0 : Int) != 0) = false := by decide
  clear ho hv hQv
  obtain ⟨⟨xp0, xp1, xp2, xp3⟩, -, zp⟩ := hKv
  obtain ⟨⟨xr0, xr1, xr2, xr3⟩, ⟨yr0, yr1, yr2, yr3⟩, zr⟩ := (Kr.out.ext (Ext.trans Ew1.out (Ext.trans Ew2.out (Ext.trans NJ2.out (Ext.trans Ew12.out HEJ.out)))))
  go_wp2_with fail
  refine bodyPost_ret (v := .tuple #[.agg #[.bool sv, .slice Av nv cv, .bool tv, .slice Bv mv dv], .int .i64 0]) (by simp [results, Try.results16, go_sem, xr0, xr1, xr2, xr3]) rfl ?_
  have hq : QCan w23 w12.heap.size sv Av nv cv tv Bv mv dv (u.dayV plan ran qs) := by
    unfold U.dayV
    rw [if_pos HE0.out, HPL.out]
    exact HQv.out
  exact ⟨_, _, _, _, _, _, _, _, ret_qe HE0.out.symm, retQ_fill (by omega) (Nat.lt_of_lt_of_le Kr.out.2.2 (Nat.le_trans Ew1.out.size (Nat.le_trans Ew2.out.size (Nat.le_trans Ew3.out.size (Nat.le_trans Ew4.out.size (Nat.le_trans Ew5.out.size (Nat.le_trans Ew6.out.size (Nat.le_trans Ew7.out.size (Nat.le_trans Ew8.out.size (Nat.le_trans Ew9.out.size (Nat.le_trans NZ1.out (Nat.le_trans NZ2.out Ew12.out.size)))))))))))) hq (Ext.trans Ewb.out (Ext.trans Ew1.out (Ext.trans Ew2.out (Ext.trans NJ2.out (Ext.trans Ew12.out HEJ.out))))) _ _ _ _⟩
end Go.Proofs.Ytfokholpgakjpaa
