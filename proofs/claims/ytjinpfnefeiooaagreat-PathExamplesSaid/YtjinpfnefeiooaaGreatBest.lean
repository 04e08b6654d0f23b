/- A part of the proof. -/
import Derived.Test.YtjinpfnefeiooaaGreatBestP
namespace Go.Proofs.YtjinpfnefeiooaaGreat
open Go.RowKit

theorem ret_best {v q : Value} {x y : Int} (h : x = y) : Ending.returned (.tuple #[v, q, .int .i64 x]) = .returned (.tuple #[v, q, .int .i64 y]) := by rw [h]
set_option maxRecDepth 100000 in
set_option maxHeartbeats 16000000 in
theorem best_any (u : U) (A : Option Addr) (n c : Nat) (P : Option Addr) (np cp : Nat) (ps : List Rat) (w : World) (hs : StepsAt w A n u.steps) (hn : n ≤ maxLen) (hp : QsAt w P np ps) (hnp : np ≤ maxLen) :
  Calls Tryz.prog 14 #[u.val A n c, .slice P np cp] w (RetBest w u ps) := by
 have HS := LH hs
 have HP := LH hp
 have HPL := LH hp.1
 clear hs hp
 unfold maxLen at hnp
 go_enter Tryz.func14, Tryz.ntmps14
 go_wp2_with fail
 have k0 := UBox.new (w) (w.heap.size) (by simp) u A n c 24
 have k1 := Cell4.new ((w).alloc (.cells #[.int .i64 u.bus, .int .i64 u.mn, .slice A n c, .int .i64 u.up, .int .i64 u.down, .int .i64 u.start, .int .i64 u.idle, .int .i64 u.spin, .int .i64 u.on] 24)) (w.heap.size + 1) (by simp) (.bool false) (.slice none 0 0) (.bool false) (.slice none 0 0) 29
 have hE : Ext w (((w).alloc (.cells #[.int .i64 u.bus, .int .i64 u.mn, .slice A n c, .int .i64 u.up, .int .i64 u.down, .int .i64 u.start, .int .i64 u.idle, .int .i64 u.spin, .int .i64 u.on] 24)).alloc (.cells #[.bool false, .slice none 0 0, .bool false, .slice none 0 0] 29)) := (Ext.al (Ext.al Ext.rfl' _) _)
 have k0 := k0.ext (show Ext ((w).alloc (.cells #[.int .i64 u.bus, .int .i64 u.mn, .slice A n c, .int .i64 u.up, .int .i64 u.down, .int .i64 u.start, .int .i64 u.idle, .int .i64 u.spin, .int .i64 u.on] 24)) (((w).alloc (.cells #[.int .i64 u.bus, .int .i64 u.mn, .slice A n c, .int .i64 u.up, .int .i64 u.down, .int .i64 u.start, .int .i64 u.idle, .int .i64 u.spin, .int .i64 u.on] 24)).alloc (.cells #[.bool false, .slice none 0 0, .bool false, .slice none 0 0] 29)) from (Ext.al Ext.rfl' _))
 have hsz : (((w).alloc (.cells #[.int .i64 u.bus, .int .i64 u.mn, .slice A n c, .int .i64 u.up, .int .i64 u.down, .int .i64 u.start, .int .i64 u.idle, .int .i64 u.spin, .int .i64 u.on] 24)).alloc (.cells #[.bool false, .slice none 0 0, .bool false, .slice none 0 0] 29)).heap.size = w.heap.size + 1 + 1 := by simp
 generalize ((w).alloc (.cells #[.int .i64 u.bus, .int .i64 u.mn, .slice A n c, .int .i64 u.up, .int .i64 u.down, .int .i64 u.start, .int .i64 u.idle, .int .i64 u.spin, .int .i64 u.on] 24)).alloc (.cells #[.bool false, .slice none 0 0, .bool false, .slice none 0 0] 29) = w1 at *
 have SZw1 := LH hsz
 clear hsz
 have Ew1 := LH hE
 clear hE
 have Ku := LH k0
 clear k0
 have Kr := LH k1
 clear k1
 refine (pcheck_any u A n c P np cp w1 (HS.out.below Ew1.out) hn (by unfold maxLen; omega)).mono ?_
 rintro e w2 ⟨rfl, hE⟩
 have Ew2 := LH hE
 clear hE
 by_cases h0 : u.pchk np = 0
 rotate_left
 ·obtain ⟨ck, hck⟩ : ∃ v, u.pchk np = v := ⟨_, rfl⟩
  rw [hck]
  have hb : (ck != 0) = true := by rw [← hck]; simp [h0]
  have HCK : Hid (u.pchk ps.length = ck) := by unfold Hid; rw [HPL.out, hck]
  rw [hck] at h0
  have HNZ := LH h0
  clear h0 hck
  obtain ⟨⟨xr0, xr1, xr2, xr3⟩, ⟨yr0, yr1, yr2, yr3⟩, zr⟩ := (Kr.out.ext Ew2.out)
  go_wp2_with fail
  refine bodyPost_ret (v := .tuple #[.slice none 0 0, .agg #[.bool false, .slice none 0 0, .bool false, .slice none 0 0], .int .i64 ck]) (by simp [results, Tryz.results14, go_sem, xr0, xr1, xr2, xr3]) rfl ?_
  have hq : QCan w2 (w.heap.size + 1 + 1) false none 0 0 false none 0 0 (u.bestV ps) := by unfold U.bestV; rw [if_neg (by rw [HCK.out]; exact HNZ.out)]; exact qcan_zero _ _
  have hf := retQ_fill (r := w.heap.size + 1) (by omega) (by omega) hq (ET Ew1.out Ew2.out) (.bool false) (.slice none 0 0) (.bool false) (.slice none 0 0)
  exact ⟨_, _, _, _, _, _, _, _, _, ret_best HCK.out.symm, hf.1, hf.2, fun _ => rfl, fun e => absurd (HCK.out.symm.trans e) HNZ.out⟩
 have HOK8 := LH (pchk_zero.1 h0)
 have HC0 : Hid (u.pchk ps.length = 0) := by unfold Hid; rw [HPL.out, h0]
 rw [h0]
 have hnp8 := HOK8.out.2
 clear h0
 have HCK := LH ((ok_iff u).1 HOK8.out.1)
 have hup1 := (U.good HOK8.out.1).up1
 have hup6 := (U.good HOK8.out.1).up6
 have hdn1 := (U.good HOK8.out.1).dn1
 have hdn6 := (U.good HOK8.out.1).dn6
 obtain ⟨N, hN⟩ : ∃ N : Nat, (N : Int) = u.down + u.up + 1 := ⟨(u.down + u.up + 1).toNat, by omega⟩
 have hN13 : N ≤ 13 := by omega
 have HN := LH hN
 clear hN
 have HSZ : Hid (∀ j s, Sz 80000 (u.dp (ps.drop j) s).v) := fun j s => (sz_dp HOK8.out.1 (ps.drop j) (K := 1000) (fun i hi => by
  have hi2 : j + i < ps.length := by simp at hi; omega
  have := HP.out.sz hi2
  simpa [List.getD, List.getElem?_drop] using this) s).mono (by have h1 := HPL.out; simp only [List.length_drop]; omega)
 go_wp2_with (first
  | (
   refine wpList_makeV rfl 70 71 _ _ rfl (.slice none 0 0) 1 24 Tryz.underlying70 info_rows ((np : Int) + 1) (np + 1) rfl rfl (by omega) (by omega) (by omega) ?_
   intro wO hO
   have hro := rowN_made w2 ((np + 1) * 1) #[.slice none 0 0] 71
   have hE : Ext w2 wO := by rw [← hO]; exact Ext.al Ext.rfl' _
   have hso : wO.heap.size = w2.heap.size + 1 := by rw [← hO]; simp
   rw [show (Value.slice none 0 0).cells = #[.slice none 0 0] from rfl] at hO
   rw [hO, Nat.mul_one] at hro
   clear hO
   have EwO := LH hE
   clear hE
   have HRO := LH hro
   have SZO := LH hso
   clear hro hso
   have zu := World.block_lt_of_cell? _ _ (Ku.out.ext (ET Ew2.out EwO.out)).1
   have xu3 := (Ku.out.ext (ET Ew2.out EwO.out)).2.2.2.1
   have xu4 := (Ku.out.ext (ET Ew2.out EwO.out)).2.2.2.2.1)
  | (
   refine wpList_makeV rfl 71 76 _ _ rfl (.agg #[.bool false, .slice none 0 0, .bool false, .slice none 0 0, .bool false, .int .i64 0]) 6 80 Tryz.underlying71 info_ch (u.down + u.up + 1) N rfl rfl HN.out.symm (by omega) (by omega) ?_
   clear zu xu3 xu4
   intro wN hO
   have hrn := ch_made wO N wO.heap.size [] 76
   have hE : Ext wO wN := by rw [← hO]; exact Ext.al Ext.rfl' _
   rw [show (Value.agg #[.bool false, .slice none 0 0, .bool false, .slice none 0 0, .bool false, .int .i64 0]).cells = #[.bool false, .slice none 0 0, .bool false, .slice none 0 0, .bool false, .int .i64 0] from rfl] at hO
   rw [hO] at hrn
   clear hO
   have EwN := LH hE
   clear hE
   have HRN := LH hrn
   clear hrn
   have HTH := LH ((HRO.out.ext EwN.out).there (o := np) (k := 1) (by omega)))
  | (
   refine wpList_storeS rfl 71 _ _ rfl (w2.heap.size) np (.slice (some ⟨wO.heap.size, 0, none⟩) N N) rfl rfl rfl HTH.out (by kernel_rfl) rfl ?_
   intro wS hpv
   have NJ0 := LH (hpv.touch.ext w2 (ET EwO.out EwN.out) (Nat.le_refl _))
   have NZ0 := LH (Nat.le_of_eq hpv.touch.size.symm)
   have HOA : Hid (OutAt wS u ps (w2.heap.size) wO.heap.size N np np) := OutAt.put (w := wN) (lo' := np + 1) ⟨(HRO.out.ext EwN.out), fun j h1 h2 => by omega⟩ rfl hpv (HRN.out.congr (fun i _ => by rw [List.drop_of_length_le (by rw [HPL.out]; exact Nat.le_refl _)]; rfl)) (by rw [SZO.out]; omega) (Nat.le_refl _)
   clear hpv HTH HRN HRO))
 go_loopw [41] (fun i wr => ∃ k : Nat, k ≤ np ∧ i = .int .i64 k ∧ Hid (Ext w2 wr ∧ wO.heap.size ≤ wr.heap.size ∧ OutAt wr u ps (w2.heap.size) wO.heap.size N (np - k) np)) (fun i _ => np - (intOf i).toNat)
 case atStart => exact ⟨0, by omega, rfl, NJ0.out, (Nat.le_trans EwN.out.size NZ0.out), HOA.out⟩
 case round =>
  obtain ⟨k, hk, rfl, HI⟩ := hrel
  have HEr := LH HI.out.1
  have HBr := LH HI.out.2.1
  have HOr := LH HI.out.2.2
  clear HI HOA
  by_cases hlt : k < np
  ·have hbv : decide ((k : Int) < (np : Int)) = true := by simp; omega
   have hbv2 : decide (k < np) = true := by simp; omega
   obtain ⟨h, hh⟩ : ∃ h : Nat, np = h + 1 + k := ⟨np - 1 - k, by omega⟩
   have hw : (np : Int) - 1 - (k : Int) = (h : Int) := by omega
   have hhn : h < np := by omega
   have hz0 : (0 : Int) ≤ (h : Int) := by omega
   have hzn : (h : Int) < (np : Int) := by omega
   have HLO : Hid (np - k = h + 1) := by unfold Hid; omega
   have HLO2 : Hid (np - (k + 1) = h) := by unfold Hid; omega
   clear hh
   obtain ⟨bP, oP, hP, hbP, hcP⟩ := HP.out.2 (by omega)
   subst hP
   obtain ⟨se, Ae, ne, ce, te, Be, me, de, p0, p1, p2, p3, hpi, lp1, lp2⟩ := hcP h hhn
   have HP4 := LH (And.intro p0 (And.intro p1 (And.intro p2 p3)))
   have Hp := LH hpi
   have HDP : Hid (u.dp (ps.drop h) = fun s => u.choice (u.hp (ps.getD h 0)) (u.dp (ps.drop (h + 1))) s) := by
    unfold Hid
    rw [pdrop_cons (by rw [HPL.out]; exact hhn)]
    rfl
   obtain ⟨pk, hpk⟩ : ∃ v, ps.getD h 0 = v := ⟨_, rfl⟩
   rw [hpk] at HDP Hp
   clear hcP p0 p1 p2 p3 hpi hpk hbP
   go_wp2_with fail
   clear hw
   refine wp_region_havS [10] [0, 1, 2, 3, 4, 5, 6, 7, 8, 9] [11, 12, 13] (fun _ => .cells #[.bool false, .slice none 0 0, .bool false, .slice none 0 0] 29) (by kernel_rfl) (by kernel_rfl) ?_ ?_
   ·intro f hf
    simp only [List.mem_cons, List.not_mem_nil, or_false] at hf
    rcases hf with rfl
    all_goals exact makes_q (by rfl) rfl
   have hE : Ext wr wr.drew := Ext.rfl'.drew
   generalize wr.drew = w3 at *
   have Ew3 := LH hE
   clear hE
   have fu0 := fun z : ExtX w3 [] => z.cell (p := ⟨w.heap.size, 0, none⟩) (Ku.out.ext (ET Ew2.out (ET HEr.out Ew3.out))).1 (by simp)
   have fu1 := fun z : ExtX w3 [] => z.cell (p := ⟨w.heap.size, 1, none⟩) (Ku.out.ext (ET Ew2.out (ET HEr.out Ew3.out))).2.1 (by simp)
   have fu2 := fun z : ExtX w3 [] => z.cell (p := ⟨w.heap.size, 2, none⟩) (Ku.out.ext (ET Ew2.out (ET HEr.out Ew3.out))).2.2.1 (by simp)
   have fu3 := fun z : ExtX w3 [] => z.cell (p := ⟨w.heap.size, 3, none⟩) (Ku.out.ext (ET Ew2.out (ET HEr.out Ew3.out))).2.2.2.1 (by simp)
   have fu4 := fun z : ExtX w3 [] => z.cell (p := ⟨w.heap.size, 4, none⟩) (Ku.out.ext (ET Ew2.out (ET HEr.out Ew3.out))).2.2.2.2.1 (by simp)
   have fu5 := fun z : ExtX w3 [] => z.cell (p := ⟨w.heap.size, 5, none⟩) (Ku.out.ext (ET Ew2.out (ET HEr.out Ew3.out))).2.2.2.2.2.1 (by simp)
   have fu6 := fun z : ExtX w3 [] => z.cell (p := ⟨w.heap.size, 6, none⟩) (Ku.out.ext (ET Ew2.out (ET HEr.out Ew3.out))).2.2.2.2.2.2.1 (by simp)
   have fu7 := fun z : ExtX w3 [] => z.cell (p := ⟨w.heap.size, 7, none⟩) (Ku.out.ext (ET Ew2.out (ET HEr.out Ew3.out))).2.2.2.2.2.2.2.1 (by simp)
   have fu8 := fun z : ExtX w3 [] => z.cell (p := ⟨w.heap.size, 8, none⟩) (Ku.out.ext (ET Ew2.out (ET HEr.out Ew3.out))).2.2.2.2.2.2.2.2 (by simp)
   have fp0 := fun z : ExtX w3 [] => z.cell (p := ⟨bP, oP + h * 4, none⟩) (Ext.cellOf (ET Ew1.out (ET Ew2.out (ET HEr.out Ew3.out))) HP4.out.1) (by simp)
   have fp1 := fun z : ExtX w3 [] => z.cell (p := ⟨bP, oP + h * 4 + 1, none⟩) (Ext.cellOf (ET Ew1.out (ET Ew2.out (ET HEr.out Ew3.out))) HP4.out.2.1) (by simp)
   have fp2 := fun z : ExtX w3 [] => z.cell (p := ⟨bP, oP + h * 4 + 2, none⟩) (Ext.cellOf (ET Ew1.out (ET Ew2.out (ET HEr.out Ew3.out))) HP4.out.2.2.1) (by simp)
   have fp3 := fun z : ExtX w3 [] => z.cell (p := ⟨bP, oP + h * 4 + 3, none⟩) (Ext.cellOf (ET Ew1.out (ET Ew2.out (ET HEr.out Ew3.out))) HP4.out.2.2.2) (by simp)
   intro w4 hE
   have Ew4 := LH hE
   clear hE
   repeat (refine havAt_still (by rfl) (by rfl) ?_; go_big_quiet_step (fail); refine wpQuiet_nil ?_)
   refine havAt_move (by rfl) (by rfl) (by kernel_rfl) ?_
   go_wp2_with fail
   refine (hour_any u A n c se Ae ne ce te Be me de pk w4 (HS.out.below (ET Ew1.out (ET Ew2.out (ET HEr.out (ET Ew3.out Ew4.out))))) hn (Hp.out.ext (ET Ew1.out (ET Ew2.out (ET HEr.out (ET Ew3.out Ew4.out))))) lp1 lp2).mono ?_
   rintro e w5 ⟨sh, Ah, nh, ch, th, Bh, mh, dh, rfl, hQ, hE⟩
   have Ew5 := LH hE
   clear hE
   have Qh := LH hQ
   clear hQ
   rw [HCK.out]
   have HZh : Hid (Sz 9028 (u.hpE pk)) := by unfold Hid U.hpE; rw [if_pos HOK8.out.1]; exact sz_hp HOK8.out.1 (Hp.out.sz lp1 lp2 (by omega))
   go_wp2_with fail
   refine And.intro Ew5.out (fun w6 hE => ?_)
   have Ew6 := LH hE
   clear hE
   repeat (refine havAt_still (by rfl) (by rfl) ?_; go_big_quiet_step (fail); refine wpQuiet_nil ?_)
   refine havAt_end ?_
   intro gs hgs hne
   have hpg := hgs 10 (by simp)
   change IdxAt _ _ _ _ _ _ (Act.put _ (some 13) (.pointer (some ⟨gs 10, 0, none⟩))) _
   generalize gs 10 = gg at *
   clear hgs hne
   simp only [Act.put, List.setIfInBounds_toArray, List.set_cons_succ, List.set_cons_zero]
   have Pg := LH hpg
   have Kg := LH (Cell4.of_blk hpg.2.1)
   clear hpg
   repeat (refine idxAt_still (by rfl) (by rfl) ?_; go_big_quiet_step (fail); refine wpQuiet_nil ?_)
   obtain ⟨⟨o0, o1, o2, o3⟩, ⟨q0, q1, q2, q3⟩, ol⟩ := Kg.out
   refine idxAt_move (by rfl) (by rfl) (by kernel_rfl) ?_
   go_wp2_with fail
   refine And.intro (inX_put (p := ⟨gg, 3, none⟩) (inX_put (p := ⟨gg, 2, none⟩) (inX_put (p := ⟨gg, 1, none⟩) (inX_put (p := ⟨gg, 0, none⟩) (inX_of_ext _ (ET Ew4.out (ET Ew5.out Ew6.out))) (.inr Pg.out.1) _) (.inr Pg.out.1) _) (.inr Pg.out.1) _) (.inr Pg.out.1) _) ?_
   clear o0 o1 o2 o3 q0 q1 q2 q3 ol
   have Kg_1 := LH (Kg.out.put4 (.bool sh) (.slice Ah nh ch) (.bool th) (.slice Bh mh dh))
   have NJ1 := LH (ext_put4 (ET Ew4.out (ET Ew5.out Ew6.out)) (g := gg) Pg.out.1 0 (.bool sh) (.slice Ah nh ch) (.bool th) (.slice Bh mh dh))
   have NZ1 : Hid (w6.heap.size ≤ (put4 w6 (gg) 0 (.bool sh) (.slice Ah nh ch) (.bool th) (.slice Bh mh dh)).heap.size) := by unfold Hid; rw [put4_size]; exact Nat.le_refl _
   have Qh_1 := LH ((Qh.out.ext Ew6.out).put4A (g := gg) (Qh.out.span (Pg.out.2.2 (w4.heap.size, w5.heap.size) (by simp))) 0 (.bool sh) (.slice Ah nh ch) (.bool th) (.slice Bh mh dh))
   unfold put4 at Kg_1 NJ1 NZ1 Qh_1
   simp only [Nat.zero_add] at Kg_1 NJ1 NZ1 Qh_1
   generalize ((((w6.setCell ⟨gg, 0, none⟩ (.bool sh)).setCell ⟨gg, 1, none⟩ (.slice Ah nh ch)).setCell ⟨gg, 2, none⟩ (.bool th)).setCell ⟨gg, 3, none⟩ (.slice Bh mh dh)) = w7 at *
   repeat (refine idxAt_still (by rfl) (by rfl) ?_; go_big_quiet_step (fail); refine wpQuiet_nil ?_)
   refine idxAt_nil ?_
   clear fu0 fu1 fu2 fu3 fu4 fu5 fu6 fu7 fu8 fp0 fp1 fp2 fp3
   go_wp2_with fail
   obtain ⟨gL, hgL, hBL, hrL⟩ := (HOr.out.ext (ET Ew3.out NJ1.out)).2 (h + 1) (by have := HLO.out; omega) (by omega)
   have HGL := LH hgL
   have HRL := LH hrL
   clear hgL hrL
   have hj1 : IntKind.i64.wrap ((h : Int) + 1) = (h : Int) + 1 := IntWalk.i64_in _ (by omega)
   have hj2 : (0 : Int) ≤ (h : Int) + 1 := by omega
   have hj3 : (h : Int) + 1 < ((np + 1 : Nat) : Int) := by omega
   have hj5 : (h : Int) + 1 < (np : Int) + 1 := by omega
   have hj4 : ((h : Int) + 1).toNat = h + 1 := by omega
   have hj6 : (h : Int) < ((np + 1 : Nat) : Int) := by omega
   have hj7 : (h : Int) < (np : Int) + 1 := by omega
   refine wp_region_lexS (C := InX w7.drew []) (by kernel_rfl) (by kernel_rfl) (inX_self _ _) ?_
   have hE : Ext w7 w7.drew := Ext.rfl'.drew
   generalize w7.drew = w8 at *
   have Ew8 := LH hE
   clear hE
   have fg0 := fun z : ExtX w8 [] => z.cell (p := ⟨gg, 0, none⟩) (Kg_1.out.ext Ew8.out).1.1 (by simp)
   have fg1 := fun z : ExtX w8 [] => z.cell (p := ⟨gg, 1, none⟩) (Kg_1.out.ext Ew8.out).1.2.1 (by simp)
   have fg2 := fun z : ExtX w8 [] => z.cell (p := ⟨gg, 2, none⟩) (Kg_1.out.ext Ew8.out).1.2.2.1 (by simp)
   have fg3 := fun z : ExtX w8 [] => z.cell (p := ⟨gg, 3, none⟩) (Kg_1.out.ext Ew8.out).1.2.2.2 (by simp)
   have fu0 := fun z : ExtX w8 [] => z.cell (p := ⟨w.heap.size, 0, none⟩) (Ku.out.ext (ET Ew2.out (ET HEr.out (ET Ew3.out (ET NJ1.out Ew8.out))))).1 (by simp)
   have fu1 := fun z : ExtX w8 [] => z.cell (p := ⟨w.heap.size, 1, none⟩) (Ku.out.ext (ET Ew2.out (ET HEr.out (ET Ew3.out (ET NJ1.out Ew8.out))))).2.1 (by simp)
   have fu2 := fun z : ExtX w8 [] => z.cell (p := ⟨w.heap.size, 2, none⟩) (Ku.out.ext (ET Ew2.out (ET HEr.out (ET Ew3.out (ET NJ1.out Ew8.out))))).2.2.1 (by simp)
   have fu3 := fun z : ExtX w8 [] => z.cell (p := ⟨w.heap.size, 3, none⟩) (Ku.out.ext (ET Ew2.out (ET HEr.out (ET Ew3.out (ET NJ1.out Ew8.out))))).2.2.2.1 (by simp)
   have fu4 := fun z : ExtX w8 [] => z.cell (p := ⟨w.heap.size, 4, none⟩) (Ku.out.ext (ET Ew2.out (ET HEr.out (ET Ew3.out (ET NJ1.out Ew8.out))))).2.2.2.2.1 (by simp)
   have fu5 := fun z : ExtX w8 [] => z.cell (p := ⟨w.heap.size, 5, none⟩) (Ku.out.ext (ET Ew2.out (ET HEr.out (ET Ew3.out (ET NJ1.out Ew8.out))))).2.2.2.2.2.1 (by simp)
   have fu6 := fun z : ExtX w8 [] => z.cell (p := ⟨w.heap.size, 6, none⟩) (Ku.out.ext (ET Ew2.out (ET HEr.out (ET Ew3.out (ET NJ1.out Ew8.out))))).2.2.2.2.2.2.1 (by simp)
   have fu7 := fun z : ExtX w8 [] => z.cell (p := ⟨w.heap.size, 7, none⟩) (Ku.out.ext (ET Ew2.out (ET HEr.out (ET Ew3.out (ET NJ1.out Ew8.out))))).2.2.2.2.2.2.2.1 (by simp)
   have fu8 := fun z : ExtX w8 [] => z.cell (p := ⟨w.heap.size, 8, none⟩) (Ku.out.ext (ET Ew2.out (ET HEr.out (ET Ew3.out (ET NJ1.out Ew8.out))))).2.2.2.2.2.2.2.2 (by simp)
   have fgl := fun z : ExtX w8 [] => z.cell (p := ⟨w2.heap.size, h + 1, none⟩) (Ext.cellOf Ew8.out HGL.out) (by simp)
   repeat (refine lexAt_still (by rfl) ?_; go_big_quiet_step (fail); refine wpQuiet_nil ?_)
   refine lexAt_move (by rfl) (by kernel_rfl) ?_
   go_wp2_with fail
   refine (choose_any u HOK8.out.1 A n c sh Ah nh ch th Bh mh dh (u.hpE pk) gL N wO.heap.size 80000 (u.dp (ps.drop (h + 1))) w8 (HS.out.below (ET Ew1.out (ET Ew2.out (ET HEr.out (ET Ew3.out (ET NJ1.out Ew8.out)))))) hn ((Qh_1.out.ext Ew8.out).arg HZh.out (by omega)) (HZh.out.mono (by omega)) (HSZ.out (h + 1)) (by omega) HN.out (HRL.out.ext Ew8.out) (Nat.le_trans HBr.out (Nat.le_trans Ew3.out.size (Nat.le_trans Ew4.out.size (Nat.le_trans Ew5.out.size (Nat.le_trans Ew6.out.size (Nat.le_trans NZ1.out Ew8.out.size))))))).mono ?_
   rintro e w9 ⟨gN, rfl, hgN, hRN, hE⟩
   have Ew9 := LH hE
   clear hE
   have HRN : Hid (ChRow w9 wO.heap.size [] gN N (fun i => u.dp (ps.drop h) ((i : Int) - u.down))) := by
    unfold Hid
    rw [HDP.out, ← (show u.hpE pk = u.hp pk by unfold U.hpE; rw [if_pos HOK8.out.1])]
    exact hRN
   have HGN := LH hgN
   clear hRN hgN
   have HXe := LH (inX_of_ext [] Ew9.out)
   have HTH := LH ((HOr.out.ext (ET Ew3.out (ET NJ1.out (ET Ew8.out Ew9.out)))).1.there (o := h) (k := 1) (by omega))
   clear fg0 fg1 fg2 fg3 fu0 fu1 fu2 fu3 fu4 fu5 fu6 fu7 fu8 fgl
   go_wp2_with fail
   refine And.intro HXe.out ?_
   repeat (refine lexAt_still (by rfl) ?_; go_big_quiet_step (fail); refine wpQuiet_nil ?_)
   refine lexAt_last (by rfl) (by kernel_rfl) (by kernel_rfl) ?_
   refine wpList_storeS rfl 71 _ _ rfl (w2.heap.size) h (.slice (some ⟨gN, 0, none⟩) N N) rfl rfl rfl HTH.out (by kernel_rfl) rfl ?_
   intro wS2 hpv
   have NJ9 := LH (hpv.touch.ext w2 (ET HEr.out (ET Ew3.out (ET NJ1.out (ET Ew8.out Ew9.out)))) (Nat.le_refl _))
   have HBS : Hid (wO.heap.size ≤ wS2.heap.size) := by unfold Hid; rw [hpv.touch.size]; exact Nat.le_trans HBr.out (Nat.le_trans Ew3.out.size (Nat.le_trans Ew4.out.size (Nat.le_trans Ew5.out.size (Nat.le_trans Ew6.out.size (Nat.le_trans NZ1.out (Nat.le_trans Ew8.out.size Ew9.out.size))))))
   have HON : Hid (OutAt wS2 u ps (w2.heap.size) wO.heap.size N h np) := OutAt.put (HOr.out.ext (ET Ew3.out (ET NJ1.out (ET Ew8.out Ew9.out)))) HLO.out hpv HRN.out (by rw [SZO.out]; omega) (Nat.le_trans HBr.out (Nat.le_trans (Nat.le_trans Ew3.out.size (Nat.le_trans Ew4.out.size (Nat.le_trans Ew5.out.size (Nat.le_trans Ew6.out.size (Nat.le_trans NZ1.out Ew8.out.size))))) HGN.out))
   clear hpv
   go_wp2_with fail
   refine And.intro trivial (lexAt_nil ?_)
   clear hj1 hj2 hj3 hj4 hj5 hj6 hj7
   go_wp2_with fail
   go_roundw
   case rel => exact ⟨k + 1, by omega, by go_num, NJ9.out, HBS.out, by rw [HLO2.out]; exact HON.out⟩
   case measure => simp [intOf]; omega
  have hkn : k = np := by omega
  subst hkn
  have hbv : decide ((k : Int) < (k : Int)) = false := by simp
  have hbv2 : decide (k < k) = false := by simp
  have HOZ := HOr.out
  rw [Nat.sub_self] at HOZ
  have HOF := LH HOZ
  clear HOZ HOr
  have zu := World.block_lt_of_cell? _ _ (Ku.out.ext (ET Ew2.out HEr.out)).1
  have xu0 := (Ku.out.ext (ET Ew2.out HEr.out)).1
  have xu1 := (Ku.out.ext (ET Ew2.out HEr.out)).2.1
  have xu2 := (Ku.out.ext (ET Ew2.out HEr.out)).2.2.1
  have xu3 := (Ku.out.ext (ET Ew2.out HEr.out)).2.2.2.1
  have xu4 := (Ku.out.ext (ET Ew2.out HEr.out)).2.2.2.2.1
  have xu5 := (Ku.out.ext (ET Ew2.out HEr.out)).2.2.2.2.2.1
  have xu6 := (Ku.out.ext (ET Ew2.out HEr.out)).2.2.2.2.2.2.1
  have xu7 := (Ku.out.ext (ET Ew2.out HEr.out)).2.2.2.2.2.2.2.1
  have xu8 := (Ku.out.ext (ET Ew2.out HEr.out)).2.2.2.2.2.2.2.2
  go_wp2_with fail
  clear zu xu0 xu1 xu2 xu3 xu4 xu5 xu6 xu7 xu8
  refine (initial_any u A n c wr (HS.out.below (ET Ew1.out (ET Ew2.out HEr.out))) hn).mono ?_
  rintro e w10 ⟨rfl, hE⟩
  have Ew10 := LH hE
  clear hE
  obtain ⟨s0, hs0⟩ : ∃ v, u.init = v := ⟨_, rfl⟩
  rw [show u.initial = s0 by unfold U.initial; rw [if_pos HOK8.out.1, hs0]]
  have hst := U.init_state (U.good HOK8.out.1)
  rw [hs0] at hst
  have HST := LH hst
  simp only [U.isState, Bool.and_eq_true, decide_eq_true_eq] at hst
  obtain ⟨⟨_, hsu⟩, hsd⟩ := hst
  have HS0 := LH hs0
  clear hs0
  obtain ⟨j, hj⟩ : ∃ j : Nat, s0 + u.down = (j : Int) := ⟨(s0 + u.down).toNat, by omega⟩
  have hjN : j < N := by have := HN.out; omega
  have hja : (0 : Int) ≤ (j : Int) := by omega
  have hjb : (j : Int) < (N : Int) := by omega
  have hj1 : IntKind.i64.wrap (s0 + u.down) = (j : Int) := by rw [hj]; exact IntWalk.i64_in _ (by omega)
  have HJS : Hid ((j : Int) - u.down = s0) := by unfold Hid; omega
  clear hj
  obtain ⟨g0, hg0, -, hrx⟩ := (HOF.out.ext Ew10.out).2 0 (by omega) (by omega)
  have hcx := hrx.2 j hjN
  simp only at hcx
  rw [HJS.out] at hcx
  obtain ⟨sx, Ax, nx, cx, tx, Bx, mx, dx, ⟨o0, o1, o2, o3, o4, o5⟩, hQ, -⟩ := hcx
  have Hg0 := LH hg0
  have Ox := LH (And.intro o0 (And.intro o1 (And.intro o2 (And.intro o3 (And.intro o4 o5)))))
  have Qx := LH hQ
  clear hg0 hrx hQ o0 o1 o2 o3 o4 o5
  have hk1 : (0 : Int) < ((k + 1 : Nat) : Int) := by omega
  have hk2 : (0 : Int) < (k : Int) + 1 := by omega
  go_wp2_with fail
  refine wp_region_lexS (C := InX w10.drew []) (by kernel_rfl) (by kernel_rfl) (inX_self _ _) ?_
  have hE : Ext w10 w10.drew := Ext.rfl'.drew
  generalize w10.drew = w11 at *
  have Ew11 := LH hE
  clear hE
  have fu4 := fun z : ExtX w11 [] => z.cell (p := ⟨w.heap.size, 4, none⟩) (Ku.out.ext (ET Ew2.out (ET HEr.out (ET Ew10.out Ew11.out)))).2.2.2.2.1 (by simp)
  have fg0 := fun z : ExtX w11 [] => z.cell (p := ⟨w2.heap.size, 0, none⟩) (Ext.cellOf Ew11.out Hg0.out) (by simp)
  have fx0 := fun z : ExtX w11 [] => z.cell (p := ⟨g0, j * 6, none⟩) (Ext.cellOf Ew11.out Ox.out.1) (by simp)
  have fx1 := fun z : ExtX w11 [] => z.cell (p := ⟨g0, j * 6 + 1, none⟩) (Ext.cellOf Ew11.out Ox.out.2.1) (by simp)
  have fx2 := fun z : ExtX w11 [] => z.cell (p := ⟨g0, j * 6 + 2, none⟩) (Ext.cellOf Ew11.out Ox.out.2.2.1) (by simp)
  have fx3 := fun z : ExtX w11 [] => z.cell (p := ⟨g0, j * 6 + 3, none⟩) (Ext.cellOf Ew11.out Ox.out.2.2.2.1) (by simp)
  repeat (refine lexAt_still (by rfl) ?_; go_big_quiet_step (fail); refine wpQuiet_nil ?_)
  refine lexAt_move (by rfl) (by kernel_rfl) ?_
  go_wp2_with fail
  refine (qcan_any sx Ax nx cx tx Bx mx dx _ w11 ((Qx.out.ext Ew11.out).arg (HSZ.out 0 s0) (by omega))).mono ?_
  rintro e w12 ⟨sz, Az, nz, cz, tz, Bz, mz, dz, rfl, hQ, hE⟩
  have Ew12 := LH hE
  clear hE
  have Qz := LH hQ
  clear hQ
  have HXe := LH (inX_of_ext [] Ew12.out)
  clear fu4 fg0 fx0 fx1 fx2 fx3
  obtain ⟨⟨o0, o1, o2, o3⟩, ⟨q0, q1, q2, q3⟩, ol⟩ := (Kr.out.ext (ET Ew2.out (ET HEr.out (ET Ew10.out (ET Ew11.out Ew12.out)))))
  go_wp2_with fail
  refine And.intro HXe.out ?_
  refine lexAt_last (by rfl) (by kernel_rfl) (by kernel_rfl) ?_
  go_wp2_with fail
  refine And.intro trivial (lexAt_nil ?_)
  clear o0 o1 o2 o3 q0 q1 q2 q3 ol HXe
  have Kr_2 := LH ((Kr.out.ext (ET Ew2.out (ET HEr.out (ET Ew10.out (ET Ew11.out Ew12.out))))).put4 (.bool sz) (.slice Az nz cz) (.bool tz) (.slice Bz mz dz))
  have NJ2 := LH (ext_put4 (ET Ew1.out (ET Ew2.out (ET HEr.out (ET Ew10.out (ET Ew11.out Ew12.out))))) (g := w.heap.size + 1) (by omega) 0 (.bool sz) (.slice Az nz cz) (.bool tz) (.slice Bz mz dz))
  have NZ2 : Hid (w12.heap.size ≤ (put4 w12 (w.heap.size + 1) 0 (.bool sz) (.slice Az nz cz) (.bool tz) (.slice Bz mz dz)).heap.size) := by unfold Hid; rw [put4_size]; exact Nat.le_refl _
  have Ku_2 := LH ((Ku.out.ext (ET Ew2.out (ET HEr.out (ET Ew10.out (ET Ew11.out Ew12.out))))).put4 (g' := w.heap.size + 1) (by omega) 0 (.bool sz) (.slice Az nz cz) (.bool tz) (.slice Bz mz dz))
  have OA_2 := LH ((HOF.out.ext (ET Ew10.out (ET Ew11.out Ew12.out))).touch (touch_put4 w12 (w.heap.size + 1) 0 (.bool sz) (.slice Az nz cz) (.bool tz) (.slice Bz mz dz)) (by have := Ew2.out.size; have := Kr.out.2.2; omega) (by have := Nat.le_trans Kr.out.2.2 (Nat.le_trans Ew2.out.size EwO.out.size); omega))
  have Qz_2 := LH (Qz.out.put4A (g := w.heap.size + 1) (Qz.out.span (.inl (Nat.lt_of_lt_of_le Kr.out.2.2 (Nat.le_trans Ew2.out.size (Nat.le_trans HEr.out.size (Nat.le_trans Ew10.out.size Ew11.out.size)))))) 0 (.bool sz) (.slice Az nz cz) (.bool tz) (.slice Bz mz dz))
  unfold put4 at Kr_2 NJ2 NZ2 Ku_2 OA_2 Qz_2
  simp only [Nat.zero_add] at Kr_2 NJ2 NZ2 Ku_2 OA_2 Qz_2
  generalize ((((w12.setCell ⟨w.heap.size + 1, 0, none⟩ (.bool sz)).setCell ⟨w.heap.size + 1, 1, none⟩ (.slice Az nz cz)).setCell ⟨w.heap.size + 1, 2, none⟩ (.bool tz)).setCell ⟨w.heap.size + 1, 3, none⟩ (.slice Bz mz dz)) = w13 at *
  clear hk1 hk2 hj1 hja hjb
  go_wp2_with (first
   | (
    refine wpList_makeV rfl 31 4 _ _ rfl (.bool false) 1 1 Tryz.underlying31 info_bool (k : Int) k rfl rfl rfl (by omega) (by omega) ?_
    intro wW hO
    have hro := rowN_made w13 (k * 1) #[.bool false] 4
    have hE : Ext w13 wW := by rw [← hO]; exact Ext.al Ext.rfl' _
    rw [show (Value.bool false).cells = #[.bool false] from rfl] at hO
    rw [hO, Nat.mul_one] at hro
    clear hO
    have EwW := LH hE
    clear hE
    have HRW := LH hro
    clear hro))
  go_loopw [15, 90] (fun st i wr => ∃ (q : Nat) (s : Int), q ≤ k ∧ i = .int .i64 q ∧ st = .int .i64 s ∧ Hid (u.isState s = true ∧ (u.path ps s0).drop q = u.path (ps.drop q) s) ∧ Hid (Ext w13 wr ∧ RowN wr (w13.heap.size) k ∧ ∀ i, i < q → wr.cell? ⟨w13.heap.size, i, none⟩ = some (.bool ((u.path ps s0).getD i false)))) (fun _ i _ => k - (intOf i).toNat)
  case atStart => exact ⟨0, s0, by omega, rfl, rfl, ⟨HST.out, rfl⟩, EwW.out, HRW.out, fun i hi => by omega⟩
  case round =>
   obtain ⟨q, s, hq, rfl, rfl, HPS, HI⟩ := hrel
   have HEq := LH HI.out.1
   have HRq := LH HI.out.2.1
   have HCq := LH HI.out.2.2
   clear HI HRW
   by_cases hlt2 : q < k
   ·have hbv3 : decide ((q : Int) < (k : Int)) = true := by simp; omega
    have hbv4 : decide (q < k) = true := by simp; omega
    obtain ⟨hon, hst1, hdr⟩ := path_step HOK8.out.1 (by rw [HPL.out]; exact hlt2) HPS.out.1 HPS.out.2
    have hst := HPS.out.1
    simp only [U.isState, Bool.and_eq_true, decide_eq_true_eq] at hst
    obtain ⟨⟨_, hsu2⟩, hsd2⟩ := hst
    obtain ⟨y, hy⟩ : ∃ j : Nat, s + u.down = (j : Int) := ⟨(s + u.down).toNat, by omega⟩
    have hyN : y < N := by have := HN.out; omega
    have hya : (0 : Int) ≤ (y : Int) := by omega
    have hyb : (y : Int) < (N : Int) := by omega
    have hy1 : IntKind.i64.wrap (s + u.down) = (y : Int) := by rw [hy]; exact IntWalk.i64_in _ (by omega)
    have HYS : Hid ((y : Int) - u.down = s) := by unfold Hid; omega
    have hq0 : (0 : Int) ≤ (q : Int) := by omega
    have hq1 : (q : Int) < ((k + 1 : Nat) : Int) := by omega
    have hq2 : (q : Int) < (k : Int) + 1 := by omega
    have hq3 : (q : Int) < (k : Int) := by omega
    clear hy
    obtain ⟨g2, hg2, -, hrx⟩ := (OA_2.out.ext HEq.out).2 q (by omega) (by omega)
    have hcx := hrx.2 y hyN
    simp only at hcx
    rw [HYS.out] at hcx
    obtain ⟨sb, Ab, nb, cb, tb, Bb, mb, db, ⟨o0, o1, o2, o3, o4, o5⟩, hQ, -⟩ := hcx
    have Hg2 := LH hg2
    have Ob := LH (And.intro o0 (And.intro o1 (And.intro o2 (And.intro o3 (And.intro o4 o5)))))
    have Qb := LH hQ
    clear hg2 hrx hQ o0 o1 o2 o3 o4 o5
    have HON := LH hon
    have HDR := LH hdr
    have HS1 := LH hst1
    clear hon hdr hst1
    generalize u.dp (ps.drop q) s = ch at *
    obtain ⟨cv, con, caf⟩ := ch
    simp only at HON HDR HS1 Ob Qb
    go_wp2_with fail
    refine wp_region_havS [10] [0, 1, 2, 3, 4, 5, 6, 7, 8, 9] [11] (fun _ => .cells #[.bool false, .slice none 0 0, .bool false, .slice none 0 0, .bool false, .int .i64 0] 76) (by kernel_rfl) (by kernel_rfl) ?_ ?_
    ·intro f hf
     simp only [List.mem_cons, List.not_mem_nil, or_false] at hf
     rcases hf with rfl
     all_goals exact makes_ch (by rfl) rfl
    have hE : Ext wr wr.drew := Ext.rfl'.drew
    generalize wr.drew = w14 at *
    have Ew14 := LH hE
    clear hE
    have fu4 := fun z : ExtX w14 [] => z.cell (p := ⟨w.heap.size, 4, none⟩) (Ku_2.out.ext (ET HEq.out Ew14.out)).2.2.2.2.1 (by simp)
    have fg2 := fun z : ExtX w14 [] => z.cell (p := ⟨w2.heap.size, q, none⟩) (Ext.cellOf Ew14.out Hg2.out) (by simp)
    have fb0 := fun z : ExtX w14 [] => z.cell (p := ⟨g2, y * 6, none⟩) (Ext.cellOf Ew14.out Ob.out.1) (by simp)
    have fb1 := fun z : ExtX w14 [] => z.cell (p := ⟨g2, y * 6 + 1, none⟩) (Ext.cellOf Ew14.out Ob.out.2.1) (by simp)
    have fb2 := fun z : ExtX w14 [] => z.cell (p := ⟨g2, y * 6 + 2, none⟩) (Ext.cellOf Ew14.out Ob.out.2.2.1) (by simp)
    have fb3 := fun z : ExtX w14 [] => z.cell (p := ⟨g2, y * 6 + 3, none⟩) (Ext.cellOf Ew14.out Ob.out.2.2.2.1) (by simp)
    have fb4 := fun z : ExtX w14 [] => z.cell (p := ⟨g2, y * 6 + 4, none⟩) (Ext.cellOf Ew14.out Ob.out.2.2.2.2.1) (by simp)
    have fb5 := fun z : ExtX w14 [] => z.cell (p := ⟨g2, y * 6 + 5, none⟩) (Ext.cellOf Ew14.out Ob.out.2.2.2.2.2) (by simp)
    intro w15 hE
    have Ew15 := LH hE
    clear hE
    repeat (refine havAt_still (by rfl) (by rfl) ?_; go_big_quiet_step (fail); refine wpQuiet_nil ?_)
    refine havAt_end ?_
    intro gs hgs hne
    have hp6 := hgs 10 (by simp)
    change IdxAt _ _ _ _ _ _ (Act.put _ (some 17) (.pointer (some ⟨gs 10, 0, none⟩))) _
    generalize gs 10 = gb at *
    clear hgs hne
    simp only [Act.put, List.setIfInBounds_toArray, List.set_cons_succ, List.set_cons_zero]
    have HGB := LH hp6.1
    have hrb := RowN.of_blk hp6.2.1
    have HRB := LH hrb
    clear hp6 hrb
    repeat (refine idxAt_still (by rfl) (by rfl) ?_; go_big_quiet_step (fail); refine wpQuiet_nil ?_)
    have HTB := LH (HRB.out.there (o := 0) (k := 6) (by simp))
    refine idxAt_move (by rfl) (by rfl) (by kernel_rfl) ?_
    refine wpList_storeV rfl 76 _ _ rfl gb 0 [.bool sb, .slice Ab nb cb, .bool tb, .slice Bb mb db, .bool con, .int .i64 caf] rfl rfl HTB.out (by kernel_rfl) rfl ?_
    intro wB hpv
    go_wp2_with fail
    have NJb := LH (hpv.touch.ext w14 Ew15.out HGB.out)
    have HB4 : Hid (wB.cell? ⟨gb, 4, none⟩ = some (.bool con) ∧ wB.cell? ⟨gb, 5, none⟩ = some (.int .i64 caf)) := ⟨by simpa using hpv.here 4 _ rfl, by simpa using hpv.here 5 _ rfl⟩
    have NZb := LH (Nat.le_of_eq hpv.touch.size.symm)
    clear hpv HTB HRB
    refine And.intro (inX_of_ext _ NJb.out) ?_
    repeat (refine idxAt_still (by rfl) (by rfl) ?_; go_big_quiet_step (fail); refine wpQuiet_nil ?_)
    refine idxAt_nil ?_
    clear fu4 fg2 fb0 fb1 fb2 fb3 fb4 fb5
    have xb4 := HB4.out.1
    have HRq2 := LH (HRq.out.ext (ET Ew14.out NJb.out))
    have HTR := LH (HRq2.out.there (o := q) (k := 1) (by omega))
    have HCq2 : Hid (∀ i, i < q → wB.cell? ⟨w13.heap.size, i, none⟩ = some (.bool ((u.path ps s0).getD i false))) := fun i hi => Ext.cellOf (ET Ew14.out NJb.out) (HCq.out i hi)
    have hgne : gb ≠ w13.heap.size := by have := Nat.lt_of_lt_of_le HRq.out.1 Ew14.out.size; have := HGB.out; omega
    go_wp2_with (first
     | (
      refine wpList_storeS rfl 4 _ _ rfl (w13.heap.size) q (.bool con) rfl rfl rfl HTR.out (by kernel_rfl) rfl ?_
      intro wX hpv
      have xb5 : wX.cell? ⟨gb, 5, none⟩ = some (.int .i64 caf) := by rw [hpv.touch.cell (p := ⟨gb, 5, none⟩) hgne]; exact HB4.out.2
      have HRX := LH (HRq2.out.putVs hpv)
      have NJx := LH (hpv.touch.ext w13 (ET HEq.out (ET Ew14.out NJb.out)) (Nat.le_refl _))
      have HCX : Hid (∀ i, i < q + 1 → wX.cell? ⟨w13.heap.size, i, none⟩ = some (.bool ((u.path ps s0).getD i false))) := fun i hi => by
       by_cases he : i = q
       ·subst he
        rw [HON.out]
        simpa using hpv.here 0 _ rfl
       ·rw [hpv.far i (by simp; omega)]
        exact HCq2.out i (by omega)
      clear hpv))
    go_roundw
    case rel => exact ⟨q + 1, caf, by omega, by go_num, rfl, ⟨HS1.out, HDR.out⟩, NJx.out, HRX.out, HCX.out⟩
    case measure => simp [intOf]; omega
   have hkq : q = k := by omega
   subst hkq
   have hbv3 : decide ((q : Int) < (q : Int)) = false := by simp
   have hbv4 : decide (q < q) = false := by simp
   obtain ⟨⟨xr0, xr1, xr2, xr3⟩, ⟨yr0, yr1, yr2, yr3⟩, zr⟩ := (Kr_2.out.ext HEq.out)
   go_wp2_with fail
   go_region
   go_wp2_with fail
   have hdr : Ext wr wr.drew := Ext.rfl'.drew
   have hqz : QCan wr.drew w11.heap.size sz Az nz cz tz Bz mz dz (u.bestV ps) := by
    rw [show u.bestV ps = (u.dp (ps.drop 0) s0).v by unfold U.bestV; rw [if_pos HC0.out, HS0.out, List.drop_zero]]
    exact (Qz_2.out.ext HEq.out).ext hdr
   refine bodyPost_ret (v := .tuple #[.slice (some ⟨w13.heap.size, 0, none⟩) q q, .agg #[.bool sz, .slice Az nz cz, .bool tz, .slice Bz mz dz], .int .i64 0]) (by simp [results, Tryz.results14, go_sem, xr0, xr1, xr2, xr3]) rfl ?_
   have hf := retQ_fill (r := w.heap.size + 1) (by omega) (Nat.lt_of_lt_of_le Kr.out.2.2 (Nat.le_trans Ew2.out.size (Nat.le_trans HEr.out.size (Nat.le_trans Ew10.out.size Ew11.out.size)))) hqz (ET (ET NJ2.out HEq.out) hdr) (.bool sz) (.slice Az nz cz) (.bool tz) (.slice Bz mz dz)
   have htc := touch_put4 wr.drew (w.heap.size + 1) 0 (.bool sz) (.slice Az nz cz) (.bool tz) (.slice Bz mz dz)
   have hne : w13.heap.size ≠ w.heap.size + 1 := by have := Nat.lt_of_lt_of_le Kr.out.2.2 (Nat.le_trans Ew2.out.size (Nat.le_trans HEr.out.size (Nat.le_trans Ew10.out.size (Nat.le_trans Ew11.out.size (Nat.le_trans Ew12.out.size NZ2.out))))); omega
   refine ⟨_, _, _, _, _, _, _, _, _, ret_best HC0.out.symm, hf.1, hf.2, fun e => absurd HC0.out e, fun _ => ⟨w13.heap.size, by rw [HPL.out], (Nat.le_trans Ew1.out.size (Nat.le_trans Ew2.out.size (Nat.le_trans HEr.out.size (Nat.le_trans Ew10.out.size (Nat.le_trans Ew11.out.size (Nat.le_trans Ew12.out.size NZ2.out)))))), ?_, fun i hi => ?_⟩⟩
   ·rw [HPL.out]
    exact (HRq.out.ext hdr).touch htc hne
   ·rw [HS0.out]
    rw [HPL.out] at hi
    exact (htc.cell (p := ⟨w13.heap.size, i, none⟩) hne).trans (Ext.cellOf hdr (HCq.out i hi))
end Go.Proofs.YtjinpfnefeiooaaGreat
