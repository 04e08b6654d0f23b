/- pylonlaw37.awake answers true. Printed by gen_upa.py. -/
import Derived.Test.YtfokholpgakjpaaUpD
import Derived.Test.YtfokholpgakjpaaUpE
namespace Go.Proofs.Ytfokholpgakjpaa
open Go.RowKit

def ratsU (zs : List Int) : List Rat := zs.map fun z => ((z : Int) : Rat)
theorem ratsU_get (zs : List Int) (i : Nat) : (ratsU zs).getD i 0 = ratF zs i := by
  unfold ratsU ratF
  simp only [List.getD, List.getElem?_map]
  cases zs[i]? <;> rfl
theorem parts_ints {K : Nat} {w : World} {B0 g n : Nat} {zs : List Int} (h : PartsAt w B0 g n n (ratF zs)) (hl : zs.length = n) (hK : 1 ≤ K) (hz : ∀ z ∈ zs, -4294967296 < z ∧ z < 4294967296) : QsK K w (some ⟨g, 0, none⟩) n (ratsU zs) :=
  h.qsK (by simp [ratsU, hl]) (fun i _ => (ratsU_get zs i).symm) fun i hi => by
    rw [ratsU_get]
    have hi2 : i < zs.length := by omega
    have hm : zs.getD i 0 ∈ zs := by
      rw [show zs.getD i 0 = zs[i] by simp [List.getD, List.getElem?_eq_getElem hi2]]
      exact List.getElem_mem hi2
    have := hz _ hm
    exact (sz_small (by omega) (by omega)).mono hK
theorem i64_list {zs : List Int} (h : ∀ z ∈ zs, -4294967296 < z ∧ z < 4294967296) (i : Nat) : I64r (zs.getD i 0) := by
  by_cases hi : i < zs.length
  · have hm : zs.getD i 0 ∈ zs := by
      rw [show zs.getD i 0 = zs[i] by simp [List.getD, List.getElem?_eq_getElem hi]]
      exact List.getElem_mem hi
    have := h _ hm
    exact ⟨by omega, by omega⟩
  · rw [show zs.getD i 0 = 0 by simp [List.getD, show zs.length ≤ i by omega]]
    exact ⟨by omega, by omega⟩
theorem bools_lit (w : World) (t : TypeId) (cs : Array Value) (bs : List Bool) (h : cs = (bs.map Value.bool).toArray) : BoolsAt (w.alloc (.cells cs t)) (some ⟨w.heap.size, 0, none⟩) bs.length bs := by
  refine ⟨rfl, fun _ => ⟨w.heap.size, 0, rfl, by simp, fun i hi => ?_⟩⟩
  have hb := Blk.new w t cs
  rw [Nat.zero_add, hb.cell, h]
  simp [List.getD, List.getElem?_eq_getElem hi]
theorem ua_day : exU.dayE [false, true, true] [false, true, false] (ratsU [0, 12, 0]) = 0 ∧ exU.dayV [false, true, true] [false, true, false] (ratsU [0, 12, 0]) = ((98 : Int) : Rat) := by decide +kernel
theorem ua_made : madeF (ratsU [98, 98]) (ratsU [60, 100]) 0 = ((38 : Int) : Rat) ∧ madeF (ratsU [98, 98]) (ratsU [60, 100]) 1 = ((0 : Int) : Rat) := by decide +kernel
theorem ua_bids : bidF ((30 : Int) : Rat) (ratsU [1, 2, 3]) 3 0 = ((5 : Int) : Rat) ∧ bidF ((30 : Int) : Rat) (ratsU [1, 2, 3]) 3 1 = ((10 : Int) : Rat) ∧ bidF ((30 : Int) : Rat) (ratsU [1, 2, 3]) 3 2 = ((15 : Int) : Rat) ∧ opV ((30 : Int) : Rat) (ratsU [1, 2, 3]) 3 = ((0 : Int) : Rat) := by decide +kernel
theorem ua_none : bidF ((30 : Int) : Rat) (ratsU [0, 0]) 2 0 = ((0 : Int) : Rat) ∧ bidF ((30 : Int) : Rat) (ratsU [0, 0]) 2 1 = ((0 : Int) : Rat) ∧ opV ((30 : Int) : Rat) (ratsU [0, 0]) 2 = ((30 : Int) : Rat) := by decide +kernel
set_option maxRecDepth 100000 in
set_option maxHeartbeats 32000000 in
theorem awake_any (w : World) : Calls Try.prog 7 #[] w fun e w' => e = .returned (.bool true) ∧ Ext w w' := by
  go_enter Try.func7, Try.ntmps7
  go_wp2_with fail
  refine (exU_any w).mono ?_
  rintro e w1 ⟨AS, rfl, hS, hE⟩
  have Ew1 := Lib.hid hE
  clear hE
  have HS := Lib.hid hS
  clear hS
  go_wp2_with fail
  have q0 := (bools_lit w1 4 #[.bool false, .bool true, .bool true] [false, true, true] rfl).below (show Ext (w1.alloc (.cells #[.bool false, .bool true, .bool true] 4)) (((w1.alloc (.cells #[.bool false, .bool true, .bool true] 4)).alloc (.cells #[.bool false, .bool true, .bool false] 4)).alloc (.cells #[.int .i64 0, .int .i64 12, .int .i64 0] 2)) from (Ext.al (Ext.al Ext.rfl' _) _))
  have q1 := (bools_lit (w1.alloc (.cells #[.bool false, .bool true, .bool true] 4)) 4 #[.bool false, .bool true, .bool false] [false, true, false] rfl).below (show Ext ((w1.alloc (.cells #[.bool false, .bool true, .bool true] 4)).alloc (.cells #[.bool false, .bool true, .bool false] 4)) (((w1.alloc (.cells #[.bool false, .bool true, .bool true] 4)).alloc (.cells #[.bool false, .bool true, .bool false] 4)).alloc (.cells #[.int .i64 0, .int .i64 12, .int .i64 0] 2)) from (Ext.al Ext.rfl' _))
  rw [show (w1.alloc (.cells #[.bool false, .bool true, .bool true] 4)).heap.size = w1.heap.size + 1 by simp] at q1
  have q2 := (intsU_lit ((w1.alloc (.cells #[.bool false, .bool true, .bool true] 4)).alloc (.cells #[.bool false, .bool true, .bool false] 4)) 2 #[.int .i64 0, .int .i64 12, .int .i64 0] [0, 12, 0] rfl).ext (show Ext (((w1.alloc (.cells #[.bool false, .bool true, .bool true] 4)).alloc (.cells #[.bool false, .bool true, .bool false] 4)).alloc (.cells #[.int .i64 0, .int .i64 12, .int .i64 0] 2)) (((w1.alloc (.cells #[.bool false, .bool true, .bool true] 4)).alloc (.cells #[.bool false, .bool true, .bool false] 4)).alloc (.cells #[.int .i64 0, .int .i64 12, .int .i64 0] 2)) from Ext.rfl')
  rw [show ((w1.alloc (.cells #[.bool false, .bool true, .bool true] 4)).alloc (.cells #[.bool false, .bool true, .bool false] 4)).heap.size = w1.heap.size + 1 + 1 by simp] at q2
  have hE : Ext w1 (((w1.alloc (.cells #[.bool false, .bool true, .bool true] 4)).alloc (.cells #[.bool false, .bool true, .bool false] 4)).alloc (.cells #[.int .i64 0, .int .i64 12, .int .i64 0] 2)) := (Ext.al (Ext.al (Ext.al Ext.rfl' _) _) _)
  generalize (((w1.alloc (.cells #[.bool false, .bool true, .bool true] 4)).alloc (.cells #[.bool false, .bool true, .bool false] 4)).alloc (.cells #[.int .i64 0, .int .i64 12, .int .i64 0] 2)) = w2 at *
  obtain ⟨g2, hg2⟩ : ∃ g, w1.heap.size = g := ⟨_, rfl⟩
  rw [hg2] at q0 q1 q2 ⊢
  clear hg2
  have Ew2 := Lib.hid hE
  clear hE
  have L2_0 := Lib.hid q0
  clear q0
  have L2_1 := Lib.hid q1
  clear q1
  have L2_2 := Lib.hid q2
  clear q2
  refine (fromInts_any (some ⟨g2 + 1 + 1, 0, none⟩) 3 3 [0, 12, 0] w2 L2_2.out (by omega) (fun i _ => i64_list (by decide) i)).mono ?_
  rintro e w3 ⟨gIa, rfl, hg, hP, hE⟩
  have Ew3 := Lib.hid hE
  clear hE
  have HIa := Lib.hid (parts_ints (K := 10) hP rfl (by omega) (by decide))
  clear hP hg
  go_wp2_with fail
  refine (upcost_any exU AS 2 2 (some ⟨g2, 0, none⟩) 3 3 [false, true, true] (some ⟨g2 + 1, 0, none⟩) 3 3 [false, true, false] (some ⟨gIa, 0, none⟩) 3 3 (ratsU [0, 12, 0]) w3 (HS.out.below (Ext.trans Ew2.out Ew3.out)) (by simp [maxLen]) (L2_0.out.below Ew3.out) (by simp [maxLen]) (L2_1.out.below Ew3.out) (by simp [maxLen]) (HIa.out.mono (by omega)) (by simp [maxLen])).mono ?_
  rintro e w4 ⟨sx, Ax, nx, cx, tx, Bx, mx, dx, rfl, hQ, hE⟩
  have Ew4 := Lib.hid hE
  clear hE
  rw [ua_day.1]
  rw [ua_day.2] at hQ
  have Qx := Lib.hid hQ
  clear hQ
  go_wp2_with fail
  have hsz : (w4.alloc (.cells #[.bool sx, .slice Ax nx cx, .bool tx, .slice Bx mx dx] 30)).heap.size = w4.heap.size + 1 := by simp
  have hkk := Cell4.new w4 _ rfl (.bool sx) (.slice Ax nx cx) (.bool tx) (.slice Bx mx dx) 30
  have hE : Ext w4 (w4.alloc (.cells #[.bool sx, .slice Ax nx cx, .bool tx, .slice Bx mx dx] 30)) := Ext.al Ext.rfl' _
  generalize (w4.alloc (.cells #[.bool sx, .slice Ax nx cx, .bool tx, .slice Bx mx dx] 30)) = w5 at *
  try rw [← hsz]
  try simp only [← hsz]
  clear hsz
  obtain ⟨gc5, hgc5⟩ : ∃ g, w4.heap.size = g := ⟨_, rfl⟩
  rw [hgc5] at hkk ⊢
  clear hgc5
  have Kx := Lib.hid hkk
  clear hkk
  have Ew5 := Lib.hid hE
  clear hE
  have q0 := (intsU_lit w5 2 #[.int .i64 98, .int .i64 98] [98, 98] rfl).ext (show Ext (w5.alloc (.cells #[.int .i64 98, .int .i64 98] 2)) (w5.alloc (.cells #[.int .i64 98, .int .i64 98] 2)) from Ext.rfl')
  have hE : Ext w5 (w5.alloc (.cells #[.int .i64 98, .int .i64 98] 2)) := (Ext.al Ext.rfl' _)
  generalize (w5.alloc (.cells #[.int .i64 98, .int .i64 98] 2)) = w6 at *
  obtain ⟨g6, hg6⟩ : ∃ g, w5.heap.size = g := ⟨_, rfl⟩
  rw [hg6] at q0 ⊢
  clear hg6
  have Ew6 := Lib.hid hE
  clear hE
  have L6_0 := Lib.hid q0
  clear q0
  refine (fromInts_any (some ⟨g6, 0, none⟩) 2 2 [98, 98] w6 L6_0.out (by omega) (fun i _ => i64_list (by decide) i)).mono ?_
  rintro e w7 ⟨gIb, rfl, hg, hP, hE⟩
  have Ew7 := Lib.hid hE
  clear hE
  have HIb := Lib.hid (parts_ints (K := 10) hP rfl (by omega) (by decide))
  clear hP hg
  go_wp2_with fail
  have q0 := (intsU_lit w7 2 #[.int .i64 60, .int .i64 100] [60, 100] rfl).ext (show Ext (w7.alloc (.cells #[.int .i64 60, .int .i64 100] 2)) (w7.alloc (.cells #[.int .i64 60, .int .i64 100] 2)) from Ext.rfl')
  have hE : Ext w7 (w7.alloc (.cells #[.int .i64 60, .int .i64 100] 2)) := (Ext.al Ext.rfl' _)
  generalize (w7.alloc (.cells #[.int .i64 60, .int .i64 100] 2)) = w8 at *
  obtain ⟨g8, hg8⟩ : ∃ g, w7.heap.size = g := ⟨_, rfl⟩
  rw [hg8] at q0 ⊢
  clear hg8
  have Ew8 := Lib.hid hE
  clear hE
  have L8_0 := Lib.hid q0
  clear q0
  refine (fromInts_any (some ⟨g8, 0, none⟩) 2 2 [60, 100] w8 L8_0.out (by omega) (fun i _ => i64_list (by decide) i)).mono ?_
  rintro e w9 ⟨gIc, rfl, hg, hP, hE⟩
  have Ew9 := Lib.hid hE
  clear hE
  have HIc := Lib.hid (parts_ints (K := 10) hP rfl (by omega) (by decide))
  clear hP hg
  go_wp2_with fail
  refine (made_any (some ⟨gIb, 0, none⟩) 2 2 (ratsU [98, 98]) (some ⟨gIc, 0, none⟩) 2 2 (ratsU [60, 100]) w9 ((HIb.out.ext (Ext.trans Ew8.out Ew9.out)).mono (by omega)) (HIc.out.mono (by omega)) (by omega) (by omega)).mono ?_
  rintro e w10 ⟨gMa, rfl, hg, hP, hE⟩
  have Ew10 := Lib.hid hE
  clear hE
  obtain ⟨sa0, Aa0, na0, ca0, ta0, Ba0, ma0, da0, r0, r1, r2, r3, hq⟩ := hP.2 0 (by omega)
  rw [ua_made.1] at hq
  have Qa0 := Lib.hid hq
  have Ca0 := Lib.hid (And.intro r0 (And.intro r1 (And.intro r2 r3)))
  clear r0 r1 r2 r3 hq
  obtain ⟨sa1, Aa1, na1, ca1, ta1, Ba1, ma1, da1, r0, r1, r2, r3, hq⟩ := hP.2 1 (by omega)
  rw [ua_made.2] at hq
  have Qa1 := Lib.hid hq
  have Ca1 := Lib.hid (And.intro r0 (And.intro r1 (And.intro r2 r3)))
  clear r0 r1 r2 r3 hq
  clear hP hg
  go_wp2_with fail
  refine (qfrom_any 30 w10 ⟨by omega, by omega⟩).mono ?_
  rintro e w11 ⟨stb, Atb, ntb, ctb, ttb, Btb, mtb, dtb, rfl, hQ, hE⟩
  have Ew11 := Lib.hid hE
  clear hE
  have Qtb := Lib.hid hQ
  clear hQ
  go_wp2_with fail
  have q0 := (intsU_lit w11 2 #[.int .i64 1, .int .i64 2, .int .i64 3] [1, 2, 3] rfl).ext (show Ext (w11.alloc (.cells #[.int .i64 1, .int .i64 2, .int .i64 3] 2)) (w11.alloc (.cells #[.int .i64 1, .int .i64 2, .int .i64 3] 2)) from Ext.rfl')
  have hE : Ext w11 (w11.alloc (.cells #[.int .i64 1, .int .i64 2, .int .i64 3] 2)) := (Ext.al Ext.rfl' _)
  generalize (w11.alloc (.cells #[.int .i64 1, .int .i64 2, .int .i64 3] 2)) = w12 at *
  obtain ⟨g12, hg12⟩ : ∃ g, w11.heap.size = g := ⟨_, rfl⟩
  rw [hg12] at q0 ⊢
  clear hg12
  have Ew12 := Lib.hid hE
  clear hE
  have L12_0 := Lib.hid q0
  clear q0
  refine (fromInts_any (some ⟨g12, 0, none⟩) 3 3 [1, 2, 3] w12 L12_0.out (by omega) (fun i _ => i64_list (by decide) i)).mono ?_
  rintro e w13 ⟨gIb, rfl, hg, hP, hE⟩
  have Ew13 := Lib.hid hE
  clear hE
  have HIb := Lib.hid (parts_ints (K := 10) hP rfl (by omega) (by decide))
  clear hP hg
  go_wp2_with fail
  have hlt := (Qtb.out.ext (Ext.trans Ew12.out Ew13.out)).len (sz_small (z := 30) (by omega) (by omega))
  refine (shared_any stb Atb ntb ctb ttb Btb mtb dtb ((30 : Int) : Rat) (some ⟨gIb, 0, none⟩) 3 3 (ratsU [1, 2, 3]) w13 (Qtb.out.ext (Ext.trans Ew12.out Ew13.out)).is (by omega) (by omega) HIb.out (by omega)).mono ?_
  rintro e w14 ⟨gMb, sopb, Aopb, nopb, copb, topb, Bopb, mopb, dopb, rfl, hg, hP, hO, hE⟩
  have Ew14 := Lib.hid hE
  clear hE
  clear hlt
  obtain ⟨sb0, Ab0, nb0, cb0, tb0, Bb0, mb0, db0, r0, r1, r2, r3, hq⟩ := hP.2 0 (by omega)
  rw [ua_bids.1] at hq
  have Qb0 := Lib.hid hq
  have Cb0 := Lib.hid (And.intro r0 (And.intro r1 (And.intro r2 r3)))
  clear r0 r1 r2 r3 hq
  obtain ⟨sb1, Ab1, nb1, cb1, tb1, Bb1, mb1, db1, r0, r1, r2, r3, hq⟩ := hP.2 1 (by omega)
  rw [ua_bids.2.1] at hq
  have Qb1 := Lib.hid hq
  have Cb1 := Lib.hid (And.intro r0 (And.intro r1 (And.intro r2 r3)))
  clear r0 r1 r2 r3 hq
  obtain ⟨sb2, Ab2, nb2, cb2, tb2, Bb2, mb2, db2, r0, r1, r2, r3, hq⟩ := hP.2 2 (by omega)
  rw [ua_bids.2.2.1] at hq
  have Qb2 := Lib.hid hq
  have Cb2 := Lib.hid (And.intro r0 (And.intro r1 (And.intro r2 r3)))
  clear r0 r1 r2 r3 hq
  clear hP hg
  rw [ua_bids.2.2.2] at hO
  have Qopb := Lib.hid hO
  clear hO
  go_wp2_with fail
  have hsz : (w14.alloc (.cells #[.bool sopb, .slice Aopb nopb copb, .bool topb, .slice Bopb mopb dopb] 30)).heap.size = w14.heap.size + 1 := by simp
  have hkk := Cell4.new w14 _ rfl (.bool sopb) (.slice Aopb nopb copb) (.bool topb) (.slice Bopb mopb dopb) 30
  have hE : Ext w14 (w14.alloc (.cells #[.bool sopb, .slice Aopb nopb copb, .bool topb, .slice Bopb mopb dopb] 30)) := Ext.al Ext.rfl' _
  generalize (w14.alloc (.cells #[.bool sopb, .slice Aopb nopb copb, .bool topb, .slice Bopb mopb dopb] 30)) = w15 at *
  try rw [← hsz]
  try simp only [← hsz]
  clear hsz
  obtain ⟨gc15, hgc15⟩ : ∃ g, w14.heap.size = g := ⟨_, rfl⟩
  rw [hgc15] at hkk ⊢
  clear hgc15
  have Kc := Lib.hid hkk
  clear hkk
  have Ew15 := Lib.hid hE
  clear hE
  refine (qfrom_any 30 w15 ⟨by omega, by omega⟩).mono ?_
  rintro e w16 ⟨std, Atd, ntd, ctd, ttd, Btd, mtd, dtd, rfl, hQ, hE⟩
  have Ew16 := Lib.hid hE
  clear hE
  have Qtd := Lib.hid hQ
  clear hQ
  go_wp2_with fail
  have q0 := (intsU_lit w16 2 #[.int .i64 0, .int .i64 0] [0, 0] rfl).ext (show Ext (w16.alloc (.cells #[.int .i64 0, .int .i64 0] 2)) (w16.alloc (.cells #[.int .i64 0, .int .i64 0] 2)) from Ext.rfl')
  have hE : Ext w16 (w16.alloc (.cells #[.int .i64 0, .int .i64 0] 2)) := (Ext.al Ext.rfl' _)
  generalize (w16.alloc (.cells #[.int .i64 0, .int .i64 0] 2)) = w17 at *
  obtain ⟨g17, hg17⟩ : ∃ g, w16.heap.size = g := ⟨_, rfl⟩
  rw [hg17] at q0 ⊢
  clear hg17
  have Ew17 := Lib.hid hE
  clear hE
  have L17_0 := Lib.hid q0
  clear q0
  refine (fromInts_any (some ⟨g17, 0, none⟩) 2 2 [0, 0] w17 L17_0.out (by omega) (fun i _ => i64_list (by decide) i)).mono ?_
  rintro e w18 ⟨gId, rfl, hg, hP, hE⟩
  have Ew18 := Lib.hid hE
  clear hE
  have HId := Lib.hid (parts_ints (K := 10) hP rfl (by omega) (by decide))
  clear hP hg
  go_wp2_with fail
  have hlt := (Qtd.out.ext (Ext.trans Ew17.out Ew18.out)).len (sz_small (z := 30) (by omega) (by omega))
  refine (shared_any std Atd ntd ctd ttd Btd mtd dtd ((30 : Int) : Rat) (some ⟨gId, 0, none⟩) 2 2 (ratsU [0, 0]) w18 (Qtd.out.ext (Ext.trans Ew17.out Ew18.out)).is (by omega) (by omega) HId.out (by omega)).mono ?_
  rintro e w19 ⟨gMd, sopd, Aopd, nopd, copd, topd, Bopd, mopd, dopd, rfl, hg, hP, hO, hE⟩
  have Ew19 := Lib.hid hE
  clear hE
  clear hlt
  obtain ⟨sd0, Ad0, nd0, cd0, td0, Bd0, md0, dd0, r0, r1, r2, r3, hq⟩ := hP.2 0 (by omega)
  rw [ua_none.1] at hq
  have Qd0 := Lib.hid hq
  have Cd0 := Lib.hid (And.intro r0 (And.intro r1 (And.intro r2 r3)))
  clear r0 r1 r2 r3 hq
  obtain ⟨sd1, Ad1, nd1, cd1, td1, Bd1, md1, dd1, r0, r1, r2, r3, hq⟩ := hP.2 1 (by omega)
  rw [ua_none.2.1] at hq
  have Qd1 := Lib.hid hq
  have Cd1 := Lib.hid (And.intro r0 (And.intro r1 (And.intro r2 r3)))
  clear r0 r1 r2 r3 hq
  clear hP hg
  rw [ua_none.2.2] at hO
  have Qopd := Lib.hid hO
  clear hO
  obtain ⟨⟨xx0, xx1, xx2, xx3⟩, -, zx⟩ := (Kx.out.ext (Ext.trans Ew6.out (Ext.trans Ew7.out (Ext.trans Ew8.out (Ext.trans Ew9.out (Ext.trans Ew10.out (Ext.trans Ew11.out (Ext.trans Ew12.out (Ext.trans Ew13.out (Ext.trans Ew14.out (Ext.trans Ew15.out (Ext.trans Ew16.out (Ext.trans Ew17.out (Ext.trans Ew18.out Ew19.out))))))))))))))
  go_wp2_with fail
  clear xx0 xx1 xx2 xx3 zx
  have hsz : (w19.alloc (.cells #[.bool sopd, .slice Aopd nopd copd, .bool topd, .slice Bopd mopd dopd] 30)).heap.size = w19.heap.size + 1 := by simp
  have hkk := Cell4.new w19 _ rfl (.bool sopd) (.slice Aopd nopd copd) (.bool topd) (.slice Bopd mopd dopd) 30
  have hE : Ext w19 (w19.alloc (.cells #[.bool sopd, .slice Aopd nopd copd, .bool topd, .slice Bopd mopd dopd] 30)) := Ext.al Ext.rfl' _
  generalize (w19.alloc (.cells #[.bool sopd, .slice Aopd nopd copd, .bool topd, .slice Bopd mopd dopd] 30)) = w20 at *
  try rw [← hsz]
  try simp only [← hsz]
  clear hsz
  obtain ⟨gc20, hgc20⟩ : ∃ g, w19.heap.size = g := ⟨_, rfl⟩
  rw [hgc20] at hkk ⊢
  clear hgc20
  have Kf := Lib.hid hkk
  clear hkk
  have Ew20 := Lib.hid hE
  clear hE
  refine (is_any sx Ax nx cx tx Bx mx dx _ 98 w20 ((Qx.out.ext (Ext.trans Ew5.out (Ext.trans Ew6.out (Ext.trans Ew7.out (Ext.trans Ew8.out (Ext.trans Ew9.out (Ext.trans Ew10.out (Ext.trans Ew11.out (Ext.trans Ew12.out (Ext.trans Ew13.out (Ext.trans Ew14.out (Ext.trans Ew15.out (Ext.trans Ew16.out (Ext.trans Ew17.out (Ext.trans Ew18.out (Ext.trans Ew19.out Ew20.out)))))))))))))))).arg (sz_small (z := 98) (by omega) (by omega)) (by omega)) (by omega)).mono ?_
  rintro e w21 ⟨rfl, hE⟩
  have Ew21 := Lib.hid hE
  clear hE
  rw [decide_eq_true rfl]
  have y0 : w21.cell? ⟨gMa, 0, none⟩ = _ := Ext.cellOf (Ext.trans Ew11.out (Ext.trans Ew12.out (Ext.trans Ew13.out (Ext.trans Ew14.out (Ext.trans Ew15.out (Ext.trans Ew16.out (Ext.trans Ew17.out (Ext.trans Ew18.out (Ext.trans Ew19.out (Ext.trans Ew20.out Ew21.out)))))))))) Ca0.out.1
  have y1 : w21.cell? ⟨gMa, 1, none⟩ = _ := Ext.cellOf (Ext.trans Ew11.out (Ext.trans Ew12.out (Ext.trans Ew13.out (Ext.trans Ew14.out (Ext.trans Ew15.out (Ext.trans Ew16.out (Ext.trans Ew17.out (Ext.trans Ew18.out (Ext.trans Ew19.out (Ext.trans Ew20.out Ew21.out)))))))))) Ca0.out.2.1
  have y2 : w21.cell? ⟨gMa, 2, none⟩ = _ := Ext.cellOf (Ext.trans Ew11.out (Ext.trans Ew12.out (Ext.trans Ew13.out (Ext.trans Ew14.out (Ext.trans Ew15.out (Ext.trans Ew16.out (Ext.trans Ew17.out (Ext.trans Ew18.out (Ext.trans Ew19.out (Ext.trans Ew20.out Ew21.out)))))))))) Ca0.out.2.2.1
  have y3 : w21.cell? ⟨gMa, 3, none⟩ = _ := Ext.cellOf (Ext.trans Ew11.out (Ext.trans Ew12.out (Ext.trans Ew13.out (Ext.trans Ew14.out (Ext.trans Ew15.out (Ext.trans Ew16.out (Ext.trans Ew17.out (Ext.trans Ew18.out (Ext.trans Ew19.out (Ext.trans Ew20.out Ew21.out)))))))))) Ca0.out.2.2.2
  have yz := World.block_lt_of_cell? _ _ y0
  go_wp2_with fail
  clear y0 y1 y2 y3 yz
  refine (is_any sa0 Aa0 na0 ca0 ta0 Ba0 ma0 da0 _ 38 w21 ((Qa0.out.ext (Ext.trans Ew11.out (Ext.trans Ew12.out (Ext.trans Ew13.out (Ext.trans Ew14.out (Ext.trans Ew15.out (Ext.trans Ew16.out (Ext.trans Ew17.out (Ext.trans Ew18.out (Ext.trans Ew19.out (Ext.trans Ew20.out Ew21.out))))))))))).arg (sz_small (z := 38) (by omega) (by omega)) (by omega)) (by omega)).mono ?_
  rintro e w22 ⟨rfl, hE⟩
  have Ew22 := Lib.hid hE
  clear hE
  rw [decide_eq_true rfl]
  have y0 : w22.cell? ⟨gMa, 4, none⟩ = _ := Ext.cellOf (Ext.trans Ew11.out (Ext.trans Ew12.out (Ext.trans Ew13.out (Ext.trans Ew14.out (Ext.trans Ew15.out (Ext.trans Ew16.out (Ext.trans Ew17.out (Ext.trans Ew18.out (Ext.trans Ew19.out (Ext.trans Ew20.out (Ext.trans Ew21.out Ew22.out))))))))))) Ca1.out.1
  have y1 : w22.cell? ⟨gMa, 5, none⟩ = _ := Ext.cellOf (Ext.trans Ew11.out (Ext.trans Ew12.out (Ext.trans Ew13.out (Ext.trans Ew14.out (Ext.trans Ew15.out (Ext.trans Ew16.out (Ext.trans Ew17.out (Ext.trans Ew18.out (Ext.trans Ew19.out (Ext.trans Ew20.out (Ext.trans Ew21.out Ew22.out))))))))))) Ca1.out.2.1
  have y2 : w22.cell? ⟨gMa, 6, none⟩ = _ := Ext.cellOf (Ext.trans Ew11.out (Ext.trans Ew12.out (Ext.trans Ew13.out (Ext.trans Ew14.out (Ext.trans Ew15.out (Ext.trans Ew16.out (Ext.trans Ew17.out (Ext.trans Ew18.out (Ext.trans Ew19.out (Ext.trans Ew20.out (Ext.trans Ew21.out Ew22.out))))))))))) Ca1.out.2.2.1
  have y3 : w22.cell? ⟨gMa, 7, none⟩ = _ := Ext.cellOf (Ext.trans Ew11.out (Ext.trans Ew12.out (Ext.trans Ew13.out (Ext.trans Ew14.out (Ext.trans Ew15.out (Ext.trans Ew16.out (Ext.trans Ew17.out (Ext.trans Ew18.out (Ext.trans Ew19.out (Ext.trans Ew20.out (Ext.trans Ew21.out Ew22.out))))))))))) Ca1.out.2.2.2
  have yz := World.block_lt_of_cell? _ _ y0
  go_wp2_with fail
  clear y0 y1 y2 y3 yz
  refine (is_any sa1 Aa1 na1 ca1 ta1 Ba1 ma1 da1 _ 0 w22 ((Qa1.out.ext (Ext.trans Ew11.out (Ext.trans Ew12.out (Ext.trans Ew13.out (Ext.trans Ew14.out (Ext.trans Ew15.out (Ext.trans Ew16.out (Ext.trans Ew17.out (Ext.trans Ew18.out (Ext.trans Ew19.out (Ext.trans Ew20.out (Ext.trans Ew21.out Ew22.out)))))))))))).arg (sz_small (z := 0) (by omega) (by omega)) (by omega)) (by omega)).mono ?_
  rintro e w23 ⟨rfl, hE⟩
  have Ew23 := Lib.hid hE
  clear hE
  rw [decide_eq_true rfl]
  have y0 : w23.cell? ⟨gMb, 0, none⟩ = _ := Ext.cellOf (Ext.trans Ew15.out (Ext.trans Ew16.out (Ext.trans Ew17.out (Ext.trans Ew18.out (Ext.trans Ew19.out (Ext.trans Ew20.out (Ext.trans Ew21.out (Ext.trans Ew22.out Ew23.out)))))))) Cb0.out.1
  have y1 : w23.cell? ⟨gMb, 1, none⟩ = _ := Ext.cellOf (Ext.trans Ew15.out (Ext.trans Ew16.out (Ext.trans Ew17.out (Ext.trans Ew18.out (Ext.trans Ew19.out (Ext.trans Ew20.out (Ext.trans Ew21.out (Ext.trans Ew22.out Ew23.out)))))))) Cb0.out.2.1
  have y2 : w23.cell? ⟨gMb, 2, none⟩ = _ := Ext.cellOf (Ext.trans Ew15.out (Ext.trans Ew16.out (Ext.trans Ew17.out (Ext.trans Ew18.out (Ext.trans Ew19.out (Ext.trans Ew20.out (Ext.trans Ew21.out (Ext.trans Ew22.out Ew23.out)))))))) Cb0.out.2.2.1
  have y3 : w23.cell? ⟨gMb, 3, none⟩ = _ := Ext.cellOf (Ext.trans Ew15.out (Ext.trans Ew16.out (Ext.trans Ew17.out (Ext.trans Ew18.out (Ext.trans Ew19.out (Ext.trans Ew20.out (Ext.trans Ew21.out (Ext.trans Ew22.out Ew23.out)))))))) Cb0.out.2.2.2
  have yz := World.block_lt_of_cell? _ _ y0
  go_wp2_with fail
  clear y0 y1 y2 y3 yz
  refine (is_any sb0 Ab0 nb0 cb0 tb0 Bb0 mb0 db0 _ 5 w23 ((Qb0.out.ext (Ext.trans Ew15.out (Ext.trans Ew16.out (Ext.trans Ew17.out (Ext.trans Ew18.out (Ext.trans Ew19.out (Ext.trans Ew20.out (Ext.trans Ew21.out (Ext.trans Ew22.out Ew23.out))))))))).arg (sz_small (z := 5) (by omega) (by omega)) (by omega)) (by omega)).mono ?_
  rintro e w24 ⟨rfl, hE⟩
  have Ew24 := Lib.hid hE
  clear hE
  rw [decide_eq_true rfl]
  have y0 : w24.cell? ⟨gMb, 4, none⟩ = _ := Ext.cellOf (Ext.trans Ew15.out (Ext.trans Ew16.out (Ext.trans Ew17.out (Ext.trans Ew18.out (Ext.trans Ew19.out (Ext.trans Ew20.out (Ext.trans Ew21.out (Ext.trans Ew22.out (Ext.trans Ew23.out Ew24.out))))))))) Cb1.out.1
  have y1 : w24.cell? ⟨gMb, 5, none⟩ = _ := Ext.cellOf (Ext.trans Ew15.out (Ext.trans Ew16.out (Ext.trans Ew17.out (Ext.trans Ew18.out (Ext.trans Ew19.out (Ext.trans Ew20.out (Ext.trans Ew21.out (Ext.trans Ew22.out (Ext.trans Ew23.out Ew24.out))))))))) Cb1.out.2.1
  have y2 : w24.cell? ⟨gMb, 6, none⟩ = _ := Ext.cellOf (Ext.trans Ew15.out (Ext.trans Ew16.out (Ext.trans Ew17.out (Ext.trans Ew18.out (Ext.trans Ew19.out (Ext.trans Ew20.out (Ext.trans Ew21.out (Ext.trans Ew22.out (Ext.trans Ew23.out Ew24.out))))))))) Cb1.out.2.2.1
  have y3 : w24.cell? ⟨gMb, 7, none⟩ = _ := Ext.cellOf (Ext.trans Ew15.out (Ext.trans Ew16.out (Ext.trans Ew17.out (Ext.trans Ew18.out (Ext.trans Ew19.out (Ext.trans Ew20.out (Ext.trans Ew21.out (Ext.trans Ew22.out (Ext.trans Ew23.out Ew24.out))))))))) Cb1.out.2.2.2
  have yz := World.block_lt_of_cell? _ _ y0
  go_wp2_with fail
  clear y0 y1 y2 y3 yz
  refine (is_any sb1 Ab1 nb1 cb1 tb1 Bb1 mb1 db1 _ 10 w24 ((Qb1.out.ext (Ext.trans Ew15.out (Ext.trans Ew16.out (Ext.trans Ew17.out (Ext.trans Ew18.out (Ext.trans Ew19.out (Ext.trans Ew20.out (Ext.trans Ew21.out (Ext.trans Ew22.out (Ext.trans Ew23.out Ew24.out)))))))))).arg (sz_small (z := 10) (by omega) (by omega)) (by omega)) (by omega)).mono ?_
  rintro e w25 ⟨rfl, hE⟩
  have Ew25 := Lib.hid hE
  clear hE
  rw [decide_eq_true rfl]
  have y0 : w25.cell? ⟨gMb, 8, none⟩ = _ := Ext.cellOf (Ext.trans Ew15.out (Ext.trans Ew16.out (Ext.trans Ew17.out (Ext.trans Ew18.out (Ext.trans Ew19.out (Ext.trans Ew20.out (Ext.trans Ew21.out (Ext.trans Ew22.out (Ext.trans Ew23.out (Ext.trans Ew24.out Ew25.out)))))))))) Cb2.out.1
  have y1 : w25.cell? ⟨gMb, 9, none⟩ = _ := Ext.cellOf (Ext.trans Ew15.out (Ext.trans Ew16.out (Ext.trans Ew17.out (Ext.trans Ew18.out (Ext.trans Ew19.out (Ext.trans Ew20.out (Ext.trans Ew21.out (Ext.trans Ew22.out (Ext.trans Ew23.out (Ext.trans Ew24.out Ew25.out)))))))))) Cb2.out.2.1
  have y2 : w25.cell? ⟨gMb, 10, none⟩ = _ := Ext.cellOf (Ext.trans Ew15.out (Ext.trans Ew16.out (Ext.trans Ew17.out (Ext.trans Ew18.out (Ext.trans Ew19.out (Ext.trans Ew20.out (Ext.trans Ew21.out (Ext.trans Ew22.out (Ext.trans Ew23.out (Ext.trans Ew24.out Ew25.out)))))))))) Cb2.out.2.2.1
  have y3 : w25.cell? ⟨gMb, 11, none⟩ = _ := Ext.cellOf (Ext.trans Ew15.out (Ext.trans Ew16.out (Ext.trans Ew17.out (Ext.trans Ew18.out (Ext.trans Ew19.out (Ext.trans Ew20.out (Ext.trans Ew21.out (Ext.trans Ew22.out (Ext.trans Ew23.out (Ext.trans Ew24.out Ew25.out)))))))))) Cb2.out.2.2.2
  have yz := World.block_lt_of_cell? _ _ y0
  go_wp2_with fail
  clear y0 y1 y2 y3 yz
  refine (is_any sb2 Ab2 nb2 cb2 tb2 Bb2 mb2 db2 _ 15 w25 ((Qb2.out.ext (Ext.trans Ew15.out (Ext.trans Ew16.out (Ext.trans Ew17.out (Ext.trans Ew18.out (Ext.trans Ew19.out (Ext.trans Ew20.out (Ext.trans Ew21.out (Ext.trans Ew22.out (Ext.trans Ew23.out (Ext.trans Ew24.out Ew25.out))))))))))).arg (sz_small (z := 15) (by omega) (by omega)) (by omega)) (by omega)).mono ?_
  rintro e w26 ⟨rfl, hE⟩
  have Ew26 := Lib.hid hE
  clear hE
  rw [decide_eq_true rfl]
  obtain ⟨⟨xc0, xc1, xc2, xc3⟩, -, zc⟩ := (Kc.out.ext (Ext.trans Ew16.out (Ext.trans Ew17.out (Ext.trans Ew18.out (Ext.trans Ew19.out (Ext.trans Ew20.out (Ext.trans Ew21.out (Ext.trans Ew22.out (Ext.trans Ew23.out (Ext.trans Ew24.out (Ext.trans Ew25.out Ew26.out)))))))))))
  go_wp2_with fail
  clear xc0 xc1 xc2 xc3 zc
  refine (is_any sopb Aopb nopb copb topb Bopb mopb dopb _ 0 w26 ((Qopb.out.ext (Ext.trans Ew15.out (Ext.trans Ew16.out (Ext.trans Ew17.out (Ext.trans Ew18.out (Ext.trans Ew19.out (Ext.trans Ew20.out (Ext.trans Ew21.out (Ext.trans Ew22.out (Ext.trans Ew23.out (Ext.trans Ew24.out (Ext.trans Ew25.out Ew26.out)))))))))))).arg (sz_small (z := 0) (by omega) (by omega)) (by omega)) (by omega)).mono ?_
  rintro e w27 ⟨rfl, hE⟩
  have Ew27 := Lib.hid hE
  clear hE
  rw [decide_eq_true rfl]
  have y0 : w27.cell? ⟨gMd, 0, none⟩ = _ := Ext.cellOf (Ext.trans Ew20.out (Ext.trans Ew21.out (Ext.trans Ew22.out (Ext.trans Ew23.out (Ext.trans Ew24.out (Ext.trans Ew25.out (Ext.trans Ew26.out Ew27.out))))))) Cd0.out.1
  have y1 : w27.cell? ⟨gMd, 1, none⟩ = _ := Ext.cellOf (Ext.trans Ew20.out (Ext.trans Ew21.out (Ext.trans Ew22.out (Ext.trans Ew23.out (Ext.trans Ew24.out (Ext.trans Ew25.out (Ext.trans Ew26.out Ew27.out))))))) Cd0.out.2.1
  have y2 : w27.cell? ⟨gMd, 2, none⟩ = _ := Ext.cellOf (Ext.trans Ew20.out (Ext.trans Ew21.out (Ext.trans Ew22.out (Ext.trans Ew23.out (Ext.trans Ew24.out (Ext.trans Ew25.out (Ext.trans Ew26.out Ew27.out))))))) Cd0.out.2.2.1
  have y3 : w27.cell? ⟨gMd, 3, none⟩ = _ := Ext.cellOf (Ext.trans Ew20.out (Ext.trans Ew21.out (Ext.trans Ew22.out (Ext.trans Ew23.out (Ext.trans Ew24.out (Ext.trans Ew25.out (Ext.trans Ew26.out Ew27.out))))))) Cd0.out.2.2.2
  have yz := World.block_lt_of_cell? _ _ y0
  go_wp2_with fail
  clear y0 y1 y2 y3 yz
  refine (is_any sd0 Ad0 nd0 cd0 td0 Bd0 md0 dd0 _ 0 w27 ((Qd0.out.ext (Ext.trans Ew20.out (Ext.trans Ew21.out (Ext.trans Ew22.out (Ext.trans Ew23.out (Ext.trans Ew24.out (Ext.trans Ew25.out (Ext.trans Ew26.out Ew27.out)))))))).arg (sz_small (z := 0) (by omega) (by omega)) (by omega)) (by omega)).mono ?_
  rintro e w28 ⟨rfl, hE⟩
  have Ew28 := Lib.hid hE
  clear hE
  rw [decide_eq_true rfl]
  have y0 : w28.cell? ⟨gMd, 4, none⟩ = _ := Ext.cellOf (Ext.trans Ew20.out (Ext.trans Ew21.out (Ext.trans Ew22.out (Ext.trans Ew23.out (Ext.trans Ew24.out (Ext.trans Ew25.out (Ext.trans Ew26.out (Ext.trans Ew27.out Ew28.out)))))))) Cd1.out.1
  have y1 : w28.cell? ⟨gMd, 5, none⟩ = _ := Ext.cellOf (Ext.trans Ew20.out (Ext.trans Ew21.out (Ext.trans Ew22.out (Ext.trans Ew23.out (Ext.trans Ew24.out (Ext.trans Ew25.out (Ext.trans Ew26.out (Ext.trans Ew27.out Ew28.out)))))))) Cd1.out.2.1
  have y2 : w28.cell? ⟨gMd, 6, none⟩ = _ := Ext.cellOf (Ext.trans Ew20.out (Ext.trans Ew21.out (Ext.trans Ew22.out (Ext.trans Ew23.out (Ext.trans Ew24.out (Ext.trans Ew25.out (Ext.trans Ew26.out (Ext.trans Ew27.out Ew28.out)))))))) Cd1.out.2.2.1
  have y3 : w28.cell? ⟨gMd, 7, none⟩ = _ := Ext.cellOf (Ext.trans Ew20.out (Ext.trans Ew21.out (Ext.trans Ew22.out (Ext.trans Ew23.out (Ext.trans Ew24.out (Ext.trans Ew25.out (Ext.trans Ew26.out (Ext.trans Ew27.out Ew28.out)))))))) Cd1.out.2.2.2
  have yz := World.block_lt_of_cell? _ _ y0
  go_wp2_with fail
  clear y0 y1 y2 y3 yz
  refine (is_any sd1 Ad1 nd1 cd1 td1 Bd1 md1 dd1 _ 0 w28 ((Qd1.out.ext (Ext.trans Ew20.out (Ext.trans Ew21.out (Ext.trans Ew22.out (Ext.trans Ew23.out (Ext.trans Ew24.out (Ext.trans Ew25.out (Ext.trans Ew26.out (Ext.trans Ew27.out Ew28.out))))))))).arg (sz_small (z := 0) (by omega) (by omega)) (by omega)) (by omega)).mono ?_
  rintro e w29 ⟨rfl, hE⟩
  have Ew29 := Lib.hid hE
  clear hE
  rw [decide_eq_true rfl]
  obtain ⟨⟨xf0, xf1, xf2, xf3⟩, -, zf⟩ := (Kf.out.ext (Ext.trans Ew21.out (Ext.trans Ew22.out (Ext.trans Ew23.out (Ext.trans Ew24.out (Ext.trans Ew25.out (Ext.trans Ew26.out (Ext.trans Ew27.out (Ext.trans Ew28.out Ew29.out)))))))))
  go_wp2_with fail
  clear xf0 xf1 xf2 xf3 zf
  refine (is_any sopd Aopd nopd copd topd Bopd mopd dopd _ 30 w29 ((Qopd.out.ext (Ext.trans Ew20.out (Ext.trans Ew21.out (Ext.trans Ew22.out (Ext.trans Ew23.out (Ext.trans Ew24.out (Ext.trans Ew25.out (Ext.trans Ew26.out (Ext.trans Ew27.out (Ext.trans Ew28.out Ew29.out)))))))))).arg (sz_small (z := 30) (by omega) (by omega)) (by omega)) (by omega)).mono ?_
  rintro e w30 ⟨rfl, hE⟩
  have Ew30 := Lib.hid hE
  clear hE
  rw [decide_eq_true rfl]
  go_wp2_with fail
  go_ret
  exact ⟨rfl, (Ext.trans Ew1.out (Ext.trans Ew2.out (Ext.trans Ew3.out (Ext.trans Ew4.out (Ext.trans Ew5.out (Ext.trans Ew6.out (Ext.trans Ew7.out (Ext.trans Ew8.out (Ext.trans Ew9.out (Ext.trans Ew10.out (Ext.trans Ew11.out (Ext.trans Ew12.out (Ext.trans Ew13.out (Ext.trans Ew14.out (Ext.trans Ew15.out (Ext.trans Ew16.out (Ext.trans Ew17.out (Ext.trans Ew18.out (Ext.trans Ew19.out (Ext.trans Ew20.out (Ext.trans Ew21.out (Ext.trans Ew22.out (Ext.trans Ew23.out (Ext.trans Ew24.out (Ext.trans Ew25.out (Ext.trans Ew26.out (Ext.trans Ew27.out (Ext.trans Ew28.out (Ext.trans Ew29.out Ew30.out)))))))))))))))))))))))))))))⟩
end Go.Proofs.Ytfokholpgakjpaa
