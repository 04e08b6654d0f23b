/- A part of the proof. -/
import Derived.Test.YtjinpfnefeiooaaGreatGrow
import Derived.Test.YtjinpfnefeiooaaGreatSameL
namespace Go.Proofs.YtjinpfnefeiooaaGreat
open Go.RowKit
def exU : U := ⟨0, 2, 2, 2, 5, 3, 0, -2, [(5, 1), (4, 3)]⟩
set_option maxRecDepth 100000 in
set_option maxHeartbeats 4000000 in
theorem ex_any (w : World) : Calls Tryz.prog 16 #[] w fun e w' => ∃ A, e = .returned (exU.val A 2 2) ∧ StepsAt w' A 2 exU.steps ∧ Ext w w' := by
 go_enter Tryz.func16, Tryz.ntmps16
 go_wp2_with fail
 refine bodyPost_ret (v := exU.val (some ⟨w.heap.size + 1, 0, none⟩) 2 2) (by simp [results, Tryz.results16, go_sem, exU]) rfl ?_
 refine ⟨_, rfl, ⟨rfl, fun _ => ⟨w.heap.size + 1, 0, rfl, by simp, fun i hi => ?_⟩⟩, Ext.al (Ext.al Ext.rfl' _) _⟩
 have : i = 0 ∨ i = 1 := by omega
 rcases this with rfl | rfl <;> simp [go_sem, exU]
def ratsOf (zs : List Int) : List Rat := zs.map fun (z : Int) => (z : Rat)
theorem ratsOf_take (zs : List Int) {k : Nat} (hk : k < zs.length) : ratsOf (zs.take (k + 1)) = ratsOf (zs.take k) ++ [((zs.getD k 0 : Int) : Rat)] := by
 unfold ratsOf
 rw [List.take_add_one, List.map_append]
 simp [List.getD, hk]
set_option maxRecDepth 100000 in
set_option maxHeartbeats 4000000 in
theorem pwhole_any (A : Option Addr) (n c : Nat) (zs : List Int) (w : World) (h : IntsAt w A n zs) (hn : n ≤ 100) (hz : ∀ z ∈ zs, -4294967296 < z ∧ z < 4294967296) :
  Calls Tryz.prog 17 #[.slice A n c] w fun e w' => ∃ P c', e = .returned (.slice P n c') ∧ QsAt w' P n (ratsOf zs) ∧ Ext w w' := by
 obtain ⟨hl, b, off, rfl, hb, hcell⟩ := h
 obtain ⟨i0, hi, hz0, hz1, hz2⟩ := info_parts info_q
 have HI0 := LH (And.intro hi (And.intro hz0 (And.intro hz1 hz2)))
 have HC := LH hcell
 have HL := LH hl
 have HZ := LH hz
 clear hi hz0 hz1 hz2 hcell hz hl
 go_enter Tryz.func17, Tryz.ntmps17
 go_wp2_with fail
 go_loopw [3, 4] (fun v i wr => ∃ k : Nat, k ≤ n ∧ i = .int .i64 k ∧ Hid (Ext w wr ∧ QOwn wr w.heap.size v k (ratsOf (zs.take k)))) (fun _ i _ => n - (intOf i).toNat)
 case atStart => exact ⟨0, by omega, rfl, Ext.rfl', QOwn.nil _ _⟩
 case round =>
  obtain ⟨k, hk, rfl, HI⟩ := hrel
  have HEr := LH HI.out.1
  have HO := LH HI.out.2
  clear HI
  by_cases hlt : k < n
  rotate_left
  ·have hkn : k = n := by omega
   subst hkn
   have hbv : decide ((k : Int) < (k : Int)) = false := by simp
   have hbv2 : decide (k < k) = false := by simp
   obtain ⟨P, c', rfl, hle, hq⟩ := HO.out.at
   rw [List.take_of_length_le (by rw [HL.out]; exact Nat.le_refl _)] at hq
   have HQ := LH hq
   clear hq HO
   go_wp2_with fail
   go_ret
   exact ⟨P, c', rfl, HQ.out, HEr.out⟩
  have hbv : decide ((k : Int) < (n : Int)) = true := by simp; omega
  have hbv2 : decide (k < n) = true := by simp; omega
  have hz0 : (0 : Int) ≤ (k : Int) := by omega
  have hzn : (k : Int) < (n : Int) := by omega
  have xc := Ext.cellOf HEr.out (HC.out k hlt)
  have hmem : zs.getD k 0 ∈ zs := by simp [List.getD, show k < zs.length by rw [HL.out]; exact hlt]
  obtain ⟨hzl, hzh⟩ := HZ.out _ hmem
  have HT := LH (ratsOf_take zs (show k < zs.length by rw [HL.out]; exact hlt))
  clear hmem
  generalize zs.getD k 0 = z at *
  go_wp2_with fail
  clear xc
  refine (rint_any z wr ⟨by omega, by omega⟩).mono ?_
  rintro e w1 ⟨sq, Aq, nq, cq, tq, Bq, mq, dq, rfl, hQ, hE⟩
  have hEa : Ext wr (w1.alloc (.cells #[.bool sq, .slice Aq nq cq, .bool tq, .slice Bq mq dq] 29)) := Ext.al hE _
  have HE2 := LH (ET HEr.out hEa)
  have HO2 := LH (HO.out.ext hEa)
  have hl := hQ.len (sz_small (z := z) (by omega) (by omega))
  have HLN := LH hl
  have HQI := LH ((hQ.is).ext (Ext.al (Ext.rfl' (w := w1)) (.cells #[.bool sq, .slice Aq nq cq, .bool tq, .slice Bq mq dq] 29)))
  have hcase := hQ.away 0
  have HAW : Hid (AwayO u3.ownBlock Aq nq ∧ AwayO u3.ownBlock Bq mq) := by
   obtain ⟨_, cs, hcs, _⟩ := HO.out
   refine ⟨fun g hg hn ad ha => ?_, fun g hg hn ad ha => ?_⟩
   ·have h1 := (own_lt hcs hg).1
    have h2 := hcase.1 hn ad ha
    omega
   ·have h1 := (own_lt hcs hg).1
    have h2 := hcase.2 hn ad ha
    omega
  have HNW := LH (World.news_of_block (cs := #[.bool sq, .slice Aq nq cq, .bool tq, .slice Bq mq dq]) (t := 29) (fr := (0, 0)) (heap_alloc_new w1 (.cells #[.bool sq, .slice Aq nq cq, .bool tq, .slice Bq mq dq] 29)))
  have hw1s : w.heap.size ≤ (w1.alloc (.cells #[.bool sq, .slice Aq nq cq, .bool tq, .slice Bq mq dq] 29)).heap.size := HE2.out.size
  clear hcase hQ hE hEa hl HO
  obtain ⟨hpl, cs, hown0, hrows⟩ := HO2.out
  have HOW := LH hown0
  have HRS := LH hrows
  have HPL := LH hpl
  clear hpl hown0 hrows HO2
  go_wp2_with (at_builtin; refine wpList_append_atW _ rfl (.tmp 11) (.tmp 17) 30 rfl w.heap.size 29 i0 _ 4 64 Tryz.underlying30 HI0.out.1 HI0.out.2.1 HI0.out.2.2.1 HI0.out.2.2.2 rfl (by omega) u3 k _ rfl HOW.out ⟨w1.heap.size, 0, none⟩ 1 1 [.bool sq, .slice Aq nq cq, .bool tq, .slice Bq mq dq] rfl rfl HNW.out (by simp [Value.oneCell']) (.inr (by omega)) (by simp [maxLen]; omega) (by omega) hw1s ?_; intro g cap w4 hown hgr hgg)
  have HN := LH (QOwn.push HPL.out HOW.out HRS.out HQI.out ⟨by have := HLN.out; omega, by have := HLN.out; omega⟩ HAW.out hown hgr hgg)
  have HE4 := LH (ext_grownW HE2.out hgr (fun g hg => (own_lt HOW.out hg).2))
  clear hown hgr hgg
  go_roundw
  case rel => exact ⟨k + 1, by omega, by go_num, HE4.out, by rw [HT.out]; exact HN.out⟩
  case measure => simp [intOf]; omega
set_option maxRecDepth 100000 in
set_option maxHeartbeats 4000000 in
theorem gives_any (u : U) (A : Option Addr) (n c : Nat) (s1 : Bool) (A1 : Option Addr) (n1 c1 : Nat) (t1 : Bool) (B1 : Option Addr) (m1 d1 : Nat) (p : Rat) (q : Int) (s2 : Bool) (A2 : Option Addr) (n2 c2 : Nat) (t2 : Bool) (B2 : Option Addr) (m2 d2 : Nat) (r : Rat) (b2 : Nat) (w : World) (hs : StepsAt w A n u.steps) (hn : n ≤ maxLen) (hok : u.ok = true) (h1 : QIs w s1 A1 n1 c1 t1 B1 m1 d1 p) (l1 : n1 ≤ 1000) (l2 : m1 ≤ 1000) (h2 : QCan w b2 s2 A2 n2 c2 t2 B2 m2 d2 r) (hq : u.hq p = q) (hr : u.hp p = r) :
  Calls Tryz.prog 20 #[u.val A n c, .agg #[.bool s1, .slice A1 n1 c1, .bool t1, .slice B1 m1 d1], .int .i64 q, .agg #[.bool s2, .slice A2 n2 c2, .bool t2, .slice B2 m2 d2]] w fun e w' => e = .returned (.bool true) ∧ Ext w w' := by
 have HS := LH hs
 have H1 := LH h1
 have Q2 := LH h2
 have HZ1 : Hid (Sz 1000 p) := h1.sz l1 l2 (by omega)
 have HQ : Hid (u.hqE p = q) := by unfold Hid U.hqE; rw [if_pos hok, hq]
 have HR : Hid (u.hpE p = r) := by unfold Hid U.hpE; rw [if_pos hok, hr]
 have HZ2 : Hid (Sz 9028 (u.hpE p)) := by unfold Hid U.hpE; rw [if_pos hok]; exact sz_hp hok HZ1.out
 have HCK := LH ((ok_iff u).1 hok)
 clear hs h1 h2 hq hr hok
 go_enter Tryz.func20, Tryz.ntmps20
 go_wp2_with fail
 have k0 := UBox.new (w) (w.heap.size) (by simp) u A n c 24
 have k1 := Cell4.new ((w).alloc (.cells #[.int .i64 u.bus, .int .i64 u.mn, .slice A n c, .int .i64 u.up, .int .i64 u.down, .int .i64 u.start, .int .i64 u.idle, .int .i64 u.spin, .int .i64 u.on] 24)) (w.heap.size + 1) (by simp) (.bool s1) (.slice A1 n1 c1) (.bool t1) (.slice B1 m1 d1) 29
 have k2 := Cell4.new (((w).alloc (.cells #[.int .i64 u.bus, .int .i64 u.mn, .slice A n c, .int .i64 u.up, .int .i64 u.down, .int .i64 u.start, .int .i64 u.idle, .int .i64 u.spin, .int .i64 u.on] 24)).alloc (.cells #[.bool s1, .slice A1 n1 c1, .bool t1, .slice B1 m1 d1] 29)) (w.heap.size + 1 + 1) (by simp) (.bool s2) (.slice A2 n2 c2) (.bool t2) (.slice B2 m2 d2) 29
 have hE : Ext w ((((w).alloc (.cells #[.int .i64 u.bus, .int .i64 u.mn, .slice A n c, .int .i64 u.up, .int .i64 u.down, .int .i64 u.start, .int .i64 u.idle, .int .i64 u.spin, .int .i64 u.on] 24)).alloc (.cells #[.bool s1, .slice A1 n1 c1, .bool t1, .slice B1 m1 d1] 29)).alloc (.cells #[.bool s2, .slice A2 n2 c2, .bool t2, .slice B2 m2 d2] 29)) := (Ext.al (Ext.al (Ext.al Ext.rfl' _) _) _)
 have k0 := k0.ext (show Ext ((w).alloc (.cells #[.int .i64 u.bus, .int .i64 u.mn, .slice A n c, .int .i64 u.up, .int .i64 u.down, .int .i64 u.start, .int .i64 u.idle, .int .i64 u.spin, .int .i64 u.on] 24)) ((((w).alloc (.cells #[.int .i64 u.bus, .int .i64 u.mn, .slice A n c, .int .i64 u.up, .int .i64 u.down, .int .i64 u.start, .int .i64 u.idle, .int .i64 u.spin, .int .i64 u.on] 24)).alloc (.cells #[.bool s1, .slice A1 n1 c1, .bool t1, .slice B1 m1 d1] 29)).alloc (.cells #[.bool s2, .slice A2 n2 c2, .bool t2, .slice B2 m2 d2] 29)) from (Ext.al (Ext.al Ext.rfl' _) _))
 have k1 := k1.ext (show Ext (((w).alloc (.cells #[.int .i64 u.bus, .int .i64 u.mn, .slice A n c, .int .i64 u.up, .int .i64 u.down, .int .i64 u.start, .int .i64 u.idle, .int .i64 u.spin, .int .i64 u.on] 24)).alloc (.cells #[.bool s1, .slice A1 n1 c1, .bool t1, .slice B1 m1 d1] 29)) ((((w).alloc (.cells #[.int .i64 u.bus, .int .i64 u.mn, .slice A n c, .int .i64 u.up, .int .i64 u.down, .int .i64 u.start, .int .i64 u.idle, .int .i64 u.spin, .int .i64 u.on] 24)).alloc (.cells #[.bool s1, .slice A1 n1 c1, .bool t1, .slice B1 m1 d1] 29)).alloc (.cells #[.bool s2, .slice A2 n2 c2, .bool t2, .slice B2 m2 d2] 29)) from (Ext.al Ext.rfl' _))
 have hsz : ((((w).alloc (.cells #[.int .i64 u.bus, .int .i64 u.mn, .slice A n c, .int .i64 u.up, .int .i64 u.down, .int .i64 u.start, .int .i64 u.idle, .int .i64 u.spin, .int .i64 u.on] 24)).alloc (.cells #[.bool s1, .slice A1 n1 c1, .bool t1, .slice B1 m1 d1] 29)).alloc (.cells #[.bool s2, .slice A2 n2 c2, .bool t2, .slice B2 m2 d2] 29)).heap.size = w.heap.size + 1 + 1 + 1 := by simp
 generalize (((w).alloc (.cells #[.int .i64 u.bus, .int .i64 u.mn, .slice A n c, .int .i64 u.up, .int .i64 u.down, .int .i64 u.start, .int .i64 u.idle, .int .i64 u.spin, .int .i64 u.on] 24)).alloc (.cells #[.bool s1, .slice A1 n1 c1, .bool t1, .slice B1 m1 d1] 29)).alloc (.cells #[.bool s2, .slice A2 n2 c2, .bool t2, .slice B2 m2 d2] 29) = w3 at *
 have SZw3 := LH hsz
 clear hsz
 have Ew3 := LH hE
 clear hE
 have Ku := LH k0
 clear k0
 have K1 := LH k1
 clear k1
 have K2 := LH k2
 clear k2
 refine (hour_any u A n c s1 A1 n1 c1 t1 B1 m1 d1 p w3 (HS.out.below Ew3.out) hn (H1.out.ext Ew3.out) l1 l2).mono ?_
 rintro e w4 ⟨sx, Ax, nx, cx, tx, Bx, mx, dx, rfl, hQ, hE⟩
 have Ew4 := LH hE
 clear hE
 have Qx := LH hQ
 clear hQ
 rw [HCK.out, HQ.out]
 have hqq : (q == q) = true := by simp
 obtain ⟨⟨x20, x21, x22, x23⟩, -, z2⟩ := (K2.out.ext Ew4.out)
 go_wp2_with fail
 clear x20 x21 x22 x23 z2
 have kw5 := Cell4.new w4 _ rfl (.bool sx) (.slice Ax nx cx) (.bool tx) (.slice Bx mx dx) 29
 have hE : Ext w4 (w4.alloc (.cells #[.bool sx, .slice Ax nx cx, .bool tx, .slice Bx mx dx] 29)) := Ext.al Ext.rfl' _
 generalize w4.alloc (.cells #[.bool sx, .slice Ax nx cx, .bool tx, .slice Bx mx dx] 29) = w5 at *
 have Ew5 := LH hE
 clear hE
 have Kx := LH kw5
 clear kw5
 obtain ⟨⟨x20, x21, x22, x23⟩, -, z2⟩ := (K2.out.ext (ET Ew4.out Ew5.out))
 obtain ⟨⟨xx0, xx1, xx2, xx3⟩, -, zx⟩ := Kx.out
 refine (ris_any sx Ax nx cx tx Bx mx dx _ s2 A2 n2 c2 t2 B2 m2 d2 _ _ _ w5 (Qx.out.ext Ew5.out) (Q2.out.ext (ET Ew3.out (ET Ew4.out Ew5.out))) (Nat.le_trans ((Qx.out.ext Ew5.out).len HZ2.out).1 (by omega)) (Nat.le_trans ((Qx.out.ext Ew5.out).len HZ2.out).2 (by omega))).mono ?_
 rintro e w6 ⟨rfl, hE⟩
 have Ew6 := LH hE
 clear hE
 rw [decide_eq_true HR.out]
 clear x20 x21 x22 x23 z2 xx0 xx1 xx2 xx3 zx
 go_wp2_with fail
 go_ret
 exact ⟨rfl, (ET Ew3.out (ET Ew4.out (ET Ew5.out Ew6.out)))⟩
theorem best_bools {w : World} {g n : Nat} {xs : List Bool} (hl : xs.length = n) (h : RowN w g n) (hc : ∀ i, i < n → w.cell? ⟨g, i, none⟩ = some (.bool (xs.getD i false))) : BoolsAt w (some ⟨g, 0, none⟩) n xs := ⟨hl, fun _ => ⟨g, 0, rfl, h.1, fun i hi => by rw [Nat.zero_add]; exact hc i hi⟩⟩
set_option maxRecDepth 100000 in
set_option maxHeartbeats 8000000 in
theorem goes_any (u : U) (A : Option Addr) (n c : Nat) (P : Option Addr) (np cp : Nat) (ps : List Rat) (z : Int) (R : Option Addr) (m dR : Nat) (row : List Bool) (w : World) (hs : StepsAt w A n u.steps) (hn : n ≤ maxLen) (hp : QsAt w P np ps) (hnp : np ≤ 8) (hr : BoolsAt w R m row) (hm : m ≤ maxLen) (hok : u.ok = true) (hz : -4294967296 < z ∧ z < 4294967296) (hb : u.path ps u.init = row) (hv : (u.dp ps u.init).v = ((z : Int) : Rat)) :
  Calls Tryz.prog 19 #[u.val A n c, .slice P np cp, .int .i64 z, .slice R m dR] w fun e w' => e = .returned (.bool true) ∧ Ext w w' := by
 have hm0 := dp_main hok ps u.init (U.init_state (U.good hok))
 rw [hb] at hm0
 have HPL := LH hp.1
 have HML := LH hr.1
 have HC0 : Hid (u.pchk ps.length = 0) := pchk_zero.2 ⟨hok, by rw [hp.1]; exact hnp⟩
 have HRL : Hid (row.length = ps.length) := hm0.2.1
 have HFE : Hid (u.feas row = true) := feas_of hok hm0.1
 have HPE : Hid (u.profE ps row = 0) := by unfold Hid U.profE; rw [HC0.out, if_neg (by simp), if_neg (by rw [HFE.out]; simp [HRL.out])]
 have HPV : Hid (u.profV ps row = ((z : Int) : Rat)) := by unfold Hid U.profV; rw [if_pos HPE.out, prof_pv HFE.out HRL.out, hm0.2.2.1, hv]
 have HBV : Hid (u.bestV ps = ((z : Int) : Rat)) := by unfold Hid U.bestV; rw [if_pos HC0.out, hv]
 have HBR := LH hb
 have HS := LH hs
 have HP := LH hp
 have HR := LH hr
 obtain ⟨hz1, hz2⟩ := hz
 clear hs hp hr hb hv hm0
 go_enter Tryz.func19, Tryz.ntmps19
 go_wp2_with fail
 have k0 := UBox.new (w) (w.heap.size) (by simp) u A n c 24
 have hE : Ext w ((w).alloc (.cells #[.int .i64 u.bus, .int .i64 u.mn, .slice A n c, .int .i64 u.up, .int .i64 u.down, .int .i64 u.start, .int .i64 u.idle, .int .i64 u.spin, .int .i64 u.on] 24)) := (Ext.al Ext.rfl' _)
 have hsz : ((w).alloc (.cells #[.int .i64 u.bus, .int .i64 u.mn, .slice A n c, .int .i64 u.up, .int .i64 u.down, .int .i64 u.start, .int .i64 u.idle, .int .i64 u.spin, .int .i64 u.on] 24)).heap.size = w.heap.size + 1 := by simp
 generalize (w).alloc (.cells #[.int .i64 u.bus, .int .i64 u.mn, .slice A n c, .int .i64 u.up, .int .i64 u.down, .int .i64 u.start, .int .i64 u.idle, .int .i64 u.spin, .int .i64 u.on] 24) = w7 at *
 have SZw7 := LH hsz
 clear hsz
 have Ew7 := LH hE
 clear hE
 have Ku := LH k0
 clear k0
 refine (best_any u A n c P np cp ps w7 (HS.out.below Ew7.out) hn (HP.out.ext Ew7.out) (by unfold maxLen; omega)).mono ?_
 rintro e w8 ⟨vB, sx, Ax, nx, cx, tx, Bx, mx, dx, rfl, hQ, hE, hno, hrow⟩
 have Ew8 := LH hE
 clear hE
 have hlen := hrow HC0.out
 obtain ⟨gB, rfl, -, hRB, hcB⟩ := hlen
 rw [HBR.out] at hcB
 rw [HC0.out, HPL.out]
 rw [HPL.out] at hRB hcB
 have HBB := LH (best_bools (HRL.out.trans HPL.out) hRB hcB)
 clear hno hrow hRB hcB
 rw [HBV.out] at hQ
 have Qx := LH hQ
 clear hQ
 have zu := World.block_lt_of_cell? _ _ (Ku.out.ext Ew8.out).1
 have xu0 := (Ku.out.ext Ew8.out).1
 have xu1 := (Ku.out.ext Ew8.out).2.1
 have xu2 := (Ku.out.ext Ew8.out).2.2.1
 have xu3 := (Ku.out.ext Ew8.out).2.2.2.1
 have xu4 := (Ku.out.ext Ew8.out).2.2.2.2.1
 have xu5 := (Ku.out.ext Ew8.out).2.2.2.2.2.1
 have xu6 := (Ku.out.ext Ew8.out).2.2.2.2.2.2.1
 have xu7 := (Ku.out.ext Ew8.out).2.2.2.2.2.2.2.1
 have xu8 := (Ku.out.ext Ew8.out).2.2.2.2.2.2.2.2
 go_wp2_with fail
 clear zu xu0 xu1 xu2 xu3 xu4 xu5 xu6 xu7 xu8
 have kw9 := Cell4.new w8 _ rfl (.bool sx) (.slice Ax nx cx) (.bool tx) (.slice Bx mx dx) 29
 have hE : Ext w8 (w8.alloc (.cells #[.bool sx, .slice Ax nx cx, .bool tx, .slice Bx mx dx] 29)) := Ext.al Ext.rfl' _
 generalize w8.alloc (.cells #[.bool sx, .slice Ax nx cx, .bool tx, .slice Bx mx dx] 29) = w9 at *
 have Ew9 := LH hE
 clear hE
 have Kx := LH kw9
 clear kw9
 have zu := World.block_lt_of_cell? _ _ (Ku.out.ext (ET Ew8.out Ew9.out)).1
 have xu0 := (Ku.out.ext (ET Ew8.out Ew9.out)).1
 have xu1 := (Ku.out.ext (ET Ew8.out Ew9.out)).2.1
 have xu2 := (Ku.out.ext (ET Ew8.out Ew9.out)).2.2.1
 have xu3 := (Ku.out.ext (ET Ew8.out Ew9.out)).2.2.2.1
 have xu4 := (Ku.out.ext (ET Ew8.out Ew9.out)).2.2.2.2.1
 have xu5 := (Ku.out.ext (ET Ew8.out Ew9.out)).2.2.2.2.2.1
 have xu6 := (Ku.out.ext (ET Ew8.out Ew9.out)).2.2.2.2.2.2.1
 have xu7 := (Ku.out.ext (ET Ew8.out Ew9.out)).2.2.2.2.2.2.2.1
 have xu8 := (Ku.out.ext (ET Ew8.out Ew9.out)).2.2.2.2.2.2.2.2
 refine (profit_any u A n c P np cp ps R m dR row w9 (HS.out.below (ET Ew7.out (ET Ew8.out Ew9.out))) hn (HP.out.ext (ET Ew7.out (ET Ew8.out Ew9.out))) (by unfold maxLen; omega) (HR.out.below (ET Ew7.out (ET Ew8.out Ew9.out))) hm).mono ?_
 rintro e w10 ⟨sy, Ay, ny, cy, ty, By, my, dy, rfl, hQ, hE⟩
 have Ew10 := LH hE
 clear hE
 have Qy := LH hQ
 clear hQ
 rw [HPE.out]
 clear zu xu0 xu1 xu2 xu3 xu4 xu5 xu6 xu7 xu8
 go_wp2_with fail
 have kw11 := Cell4.new w10 _ rfl (.bool sy) (.slice Ay ny cy) (.bool ty) (.slice By my dy) 29
 have hE : Ext w10 (w10.alloc (.cells #[.bool sy, .slice Ay ny cy, .bool ty, .slice By my dy] 29)) := Ext.al Ext.rfl' _
 generalize w10.alloc (.cells #[.bool sy, .slice Ay ny cy, .bool ty, .slice By my dy] 29) = w11 at *
 have Ew11 := LH hE
 clear hE
 have Ky := LH kw11
 clear kw11
 have hb1 : ((0 : Int) == 0) = true := rfl
 refine wp_region_lexS (C := InX w11.drew []) (by kernel_rfl) (by kernel_rfl) (inX_self _ _) ?_
 have hE : Ext w11 w11.drew := Ext.rfl'.drew
 generalize w11.drew = w12 at *
 have Ew12 := LH hE
 clear hE
 have fx0 := fun z : ExtX w12 [] => z.cell (p := ⟨w8.heap.size, 0, none⟩) (Kx.out.ext (ET Ew10.out (ET Ew11.out Ew12.out))).1.1 (by simp)
 have fx1 := fun z : ExtX w12 [] => z.cell (p := ⟨w8.heap.size, 1, none⟩) (Kx.out.ext (ET Ew10.out (ET Ew11.out Ew12.out))).1.2.1 (by simp)
 have fx2 := fun z : ExtX w12 [] => z.cell (p := ⟨w8.heap.size, 2, none⟩) (Kx.out.ext (ET Ew10.out (ET Ew11.out Ew12.out))).1.2.2.1 (by simp)
 have fx3 := fun z : ExtX w12 [] => z.cell (p := ⟨w8.heap.size, 3, none⟩) (Kx.out.ext (ET Ew10.out (ET Ew11.out Ew12.out))).1.2.2.2 (by simp)
 have fy0 := fun z : ExtX w12 [] => z.cell (p := ⟨w10.heap.size, 0, none⟩) (Ky.out.ext Ew12.out).1.1 (by simp)
 have fy1 := fun z : ExtX w12 [] => z.cell (p := ⟨w10.heap.size, 1, none⟩) (Ky.out.ext Ew12.out).1.2.1 (by simp)
 have fy2 := fun z : ExtX w12 [] => z.cell (p := ⟨w10.heap.size, 2, none⟩) (Ky.out.ext Ew12.out).1.2.2.1 (by simp)
 have fy3 := fun z : ExtX w12 [] => z.cell (p := ⟨w10.heap.size, 3, none⟩) (Ky.out.ext Ew12.out).1.2.2.2 (by simp)
 repeat (refine lexAt_still (by rfl) ?_; go_big_quiet_step (fail); refine wpQuiet_nil ?_)
 refine lexAt_move (by rfl) (by kernel_rfl) ?_
 go_wp2_with fail
 refine (same_any (some ⟨gB, 0, none⟩) np np row R m dR row w12 (HBB.out.below (ET Ew9.out (ET Ew10.out (ET Ew11.out Ew12.out)))) (HR.out.below (ET Ew7.out (ET Ew8.out (ET Ew9.out (ET Ew10.out (ET Ew11.out Ew12.out)))))) (by unfold maxLen; omega)).mono ?_
 rintro e w13 ⟨rfl, hE⟩
 have Ew13 := LH hE
 clear hE
 rw [decide_eq_true rfl]
 go_wp2_with fail
 refine And.intro (inX_of_ext _ Ew13.out) ?_
 repeat (refine lexAt_still (by rfl) ?_; go_big_quiet_step (fail); refine wpQuiet_nil ?_)
 refine lexAt_move (by rfl) (by kernel_rfl) ?_
 go_wp2_with fail
 refine (rint_any z w13 ⟨by omega, by omega⟩).mono ?_
 rintro e w14 ⟨si, Ai, ni, ci, ti, Bi, mi, di, rfl, hQ, hE⟩
 have Ew14 := LH hE
 clear hE
 have Qi := LH hQ
 clear hQ
 go_wp2_with fail
 refine And.intro (inX_of_ext _ (ET Ew13.out Ew14.out)) ?_
 repeat (refine lexAt_still (by rfl) ?_; go_big_quiet_step (fail); refine wpQuiet_nil ?_)
 refine lexAt_move (by rfl) (by kernel_rfl) ?_
 go_wp2_with fail
 refine (ris_any sx Ax nx cx tx Bx mx dx _ si Ai ni ci ti Bi mi di _ _ _ w14 (Qx.out.ext (ET Ew9.out (ET Ew10.out (ET Ew11.out (ET Ew12.out (ET Ew13.out Ew14.out)))))) Qi.out (Nat.le_trans ((Qx.out.ext (ET Ew9.out (ET Ew10.out (ET Ew11.out (ET Ew12.out (ET Ew13.out Ew14.out)))))).len (sz_small (z := z) (by omega) (by omega))).1 (by omega)) (Nat.le_trans ((Qx.out.ext (ET Ew9.out (ET Ew10.out (ET Ew11.out (ET Ew12.out (ET Ew13.out Ew14.out)))))).len (sz_small (z := z) (by omega) (by omega))).2 (by omega))).mono ?_
 rintro e w15 ⟨rfl, hE⟩
 have Ew15 := LH hE
 clear hE
 rw [decide_eq_true rfl]
 go_wp2_with fail
 refine And.intro (inX_of_ext _ (ET Ew13.out (ET Ew14.out Ew15.out))) ?_
 repeat (refine lexAt_still (by rfl) ?_; go_big_quiet_step (fail); refine wpQuiet_nil ?_)
 refine lexAt_move (by rfl) (by kernel_rfl) ?_
 go_wp2_with fail
 refine (ris_any sy Ay ny cy ty By my dy _ sx Ax nx cx tx Bx mx dx _ _ _ w15 (Qy.out.ext (ET Ew11.out (ET Ew12.out (ET Ew13.out (ET Ew14.out Ew15.out))))) (Qx.out.ext (ET Ew9.out (ET Ew10.out (ET Ew11.out (ET Ew12.out (ET Ew13.out (ET Ew14.out Ew15.out))))))) (Nat.le_trans ((Qy.out.ext (ET Ew11.out (ET Ew12.out (ET Ew13.out (ET Ew14.out Ew15.out))))).len (HPV.out ▸ sz_small (z := z) (by omega) (by omega))).1 (by omega)) (Nat.le_trans ((Qy.out.ext (ET Ew11.out (ET Ew12.out (ET Ew13.out (ET Ew14.out Ew15.out))))).len (HPV.out ▸ sz_small (z := z) (by omega) (by omega))).2 (by omega))).mono ?_
 rintro e w16 ⟨rfl, hE⟩
 have Ew16 := LH hE
 clear hE
 rw [decide_eq_true HPV.out]
 go_wp2_with fail
 refine And.intro (inX_of_ext _ (ET Ew13.out (ET Ew14.out (ET Ew15.out Ew16.out)))) ?_
 repeat (refine lexAt_still (by rfl) ?_; go_big_quiet_step (fail); refine wpQuiet_nil ?_)
 refine lexAt_nil ?_
 clear fx0 fx1 fx2 fx3 fy0 fy1 fy2 fy3
 go_wp2_with fail
 go_ret
 exact ⟨rfl, (ET Ew7.out (ET Ew8.out (ET Ew9.out (ET Ew10.out (ET Ew11.out (ET Ew12.out (ET Ew13.out (ET Ew14.out (ET Ew15.out Ew16.out)))))))))⟩
end Go.Proofs.YtjinpfnefeiooaaGreat
