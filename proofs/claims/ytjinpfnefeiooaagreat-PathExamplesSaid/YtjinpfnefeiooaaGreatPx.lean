/- A part of the proof. -/
import Derived.Deep.Cut
import Derived.Test.YtjinpfnefeiooaaGreatPxF
namespace Go.Proofs.YtjinpfnefeiooaaGreat
open Go.RowKit

def pxA (x : Nat → Value) : Act := ⟨#[x 0, x 1, x 2, x 3, x 4, x 5, x 6, x 7, x 8, x 9, x 10, x 11, x 12, x 13, x 14, x 15, x 16, x 17, x 18, x 19, x 20, x 21, x 22, x 23, x 24, x 25, x 26, x 27, x 28, x 29, x 30, x 31, x 32, x 33, x 34, x 35, x 36, x 37, x 38, x 39, x 40, x 41, x 42, x 43, x 44, x 45, x 46, x 47, x 48, x 49, x 50, x 51, x 52, x 53, x 54, x 55, x 56, x 57, x 58, x 59, x 60, x 61, x 62, x 63, x 64, x 65, x 66, x 67, x 68, x 69, x 70, x 71, x 72, x 73, x 74, x 75, x 76, x 77, x 78, x 79, x 80, x 81, x 82, x 83, x 84, x 85, x 86, x 87, x 88, x 89, x 90, x 91, x 92, x 93, x 94, x 95, x 96, x 97, x 98, x 99, x 100, x 101, x 102, x 103, x 104, x 105, x 106, x 107, x 108, x 109, x 110, x 111, x 112, x 113, x 114, x 115, x 116, x 117, x 118, x 119, x 120, x 121, x 122, x 123, x 124, x 125, x 126, x 127, x 128, x 129, x 130, x 131, x 132, x 133, x 134, x 135, x 136, x 137, x 138, x 139, x 140, x 141, x 142, x 143, x 144, x 145, x 146, x 147, x 148, x 149, x 150, x 151, x 152, x 153, x 154, x 155, x 156, x 157, x 158, x 159, x 160, x 161, x 162, x 163, x 164, x 165, x 166, x 167, x 168, x 169, x 170, x 171, x 172, x 173, x 174, x 175, x 176, x 177, x 178, x 179, x 180, x 181, x 182, x 183], []⟩
set_option maxRecDepth 100000 in
set_option maxHeartbeats 64000000 in
theorem px_any (w : World) : Calls Tryz.prog 5 #[] w fun e w' => e = .returned (.bool true) ∧ Ext w w' := by
 obtain ⟨ux, hux⟩ : ∃ v, exU = v := ⟨_, rfl⟩
 obtain ⟨uo, huo⟩ : ∃ v, exU.pxOn = v := ⟨_, rfl⟩
 obtain ⟨uf, huf⟩ : ∃ v, exU.pxFree = v := ⟨_, rfl⟩
 have f1 := px_err
 have f2 := px_prof
 have f3 := px_ok
 have f4 := px_goes1
 have f5 := px_goes2
 have f6 := px_goes3
 have f7 := px_goes4
 have f8 := px_goes5
 have f9 := px_gives1
 rw [huo] at f3 f5
 rw [huf] at f3 f6 f7 f9
 rw [hux] at f1 f2 f3 f4 f8 f9 huo huf
 have HXU := LH hux
 have HUO := LH huo
 have HUF := LH huf
 have HERR := LH f1
 have HPRF := LH f2
 have HOKS := LH f3
 have HG1 := LH f4
 have HG2 := LH f5
 have HG3 := LH f6
 have HG4 := LH f7
 have HG5 := LH f8
 have HGV := LH f9
 clear hux huo huf f1 f2 f3 f4 f5 f6 f7 f8 f9
 go_enter Tryz.func5, Tryz.ntmps5
 go_wp2_with fail
 refine (awake_any w).mono ?_
 rintro e w1 ⟨rfl, hE⟩
 have Ew1 := LH hE
 clear hE
 go_wp2_with fail
 refine (ex_any w1).mono ?_
 rintro e w2 ⟨A1, rfl, hS, hE⟩
 have Ew2 := LH hE
 clear hE
 rw [HXU.out] at hS ⊢
 have HS1 := LH hS
 clear hS
 go_upto_region 4 with (fail)
 have k0 := UBox.new (w2) (w2.heap.size) (by simp) ux A1 2 2 24
 have hE : Ext w2 ((w2).alloc (.cells #[.int .i64 ux.bus, .int .i64 ux.mn, .slice A1 2 2, .int .i64 ux.up, .int .i64 ux.down, .int .i64 ux.start, .int .i64 ux.idle, .int .i64 ux.spin, .int .i64 ux.on] 24)) := (Ext.al Ext.rfl' _)
 have hsz : ((w2).alloc (.cells #[.int .i64 ux.bus, .int .i64 ux.mn, .slice A1 2 2, .int .i64 ux.up, .int .i64 ux.down, .int .i64 ux.start, .int .i64 ux.idle, .int .i64 ux.spin, .int .i64 ux.on] 24)).heap.size = w2.heap.size + 1 := by simp
 generalize (w2).alloc (.cells #[.int .i64 ux.bus, .int .i64 ux.mn, .slice A1 2 2, .int .i64 ux.up, .int .i64 ux.down, .int .i64 ux.start, .int .i64 ux.idle, .int .i64 ux.spin, .int .i64 ux.on] 24) = w3 at *
 have SZw3 := LH hsz
 clear hsz
 have Ew3 := LH hE
 clear hE
 have Ku1 := LH k0
 clear k0
 go_wp2_with fail
 refine (ex_any w3).mono ?_
 rintro e w4 ⟨A2, rfl, hS, hE⟩
 have Ew4 := LH hE
 clear hE
 rw [HXU.out] at hS ⊢
 have HS2 := LH hS
 clear hS
 go_upto_region 5 with (fail)
 have kv := UBox.new w4 (w4.heap.size) rfl ux A2 2 2 24
 have rv : RowN (w4.alloc (.cells #[.int .i64 ux.bus, .int .i64 ux.mn, .slice A2 2 2, .int .i64 ux.up, .int .i64 ux.down, .int .i64 ux.start, .int .i64 ux.idle, .int .i64 ux.spin, .int .i64 ux.on] 24)) w4.heap.size 9 := RowN.of_blk (Blk.new w4 24 #[.int .i64 ux.bus, .int .i64 ux.mn, .slice A2 2 2, .int .i64 ux.up, .int .i64 ux.down, .int .i64 ux.start, .int .i64 ux.idle, .int .i64 ux.spin, .int .i64 ux.on])
 have hE : Ext w4 (w4.alloc (.cells #[.int .i64 ux.bus, .int .i64 ux.mn, .slice A2 2 2, .int .i64 ux.up, .int .i64 ux.down, .int .i64 ux.start, .int .i64 ux.idle, .int .i64 ux.spin, .int .i64 ux.on] 24)) := Ext.al Ext.rfl' _
 generalize w4.alloc (.cells #[.int .i64 ux.bus, .int .i64 ux.mn, .slice A2 2 2, .int .i64 ux.up, .int .i64 ux.down, .int .i64 ux.start, .int .i64 ux.idle, .int .i64 ux.spin, .int .i64 ux.on] 24) = w5 at *
 obtain ⟨g2, hg2⟩ : ∃ g, w4.heap.size = g := ⟨_, rfl⟩
 have HGE2 : Hid (w4.heap.size ≤ g2) := by unfold Hid; rw [← hg2]; exact Nat.le_refl _
 rw [hg2] at kv rv ⊢
 clear hg2
 have Ku2 := LH kv
 have R2_0 := LH rv
 have E2_0 := LH hE
 clear kv rv
 have Ew5 := LH hE
 clear hE
 have HT2_0 : Hid (∀ ww, RowN ww g2 9 → ww.there g2 8 1) := fun ww h => h.there (o := 8) (k := 1) (by omega)
 have HT2_1 : Hid (∀ ww, RowN ww g2 9 → ww.there g2 3 1) := fun ww h => h.there (o := 3) (k := 1) (by omega)
 go_upto_region 6 with (first
  | (
   refine wpList_storeS rfl 3 _ _ rfl g2 8 (.int .i64 1) rfl rfl rfl (HT2_0.out _ R2_0.out) (by kernel_rfl) rfl ?_
   intro wv2_1 hpv
   have K2_1 : Hid (UBox wv2_1 g2 { ux with on := 1 } A2 2 2) := Ku2.out.st8 hpv
   have R2_1 : Hid (RowN wv2_1 g2 9) := R2_0.out.putVs hpv
   have E2_1 := LH (hpv.touch.ext w4 E2_0.out HGE2.out)
   clear hpv)
  | (
   refine wpList_storeS rfl 3 _ _ rfl g2 3 (.int .i64 3) rfl rfl rfl (HT2_1.out _ R2_1.out) (by kernel_rfl) rfl ?_
   intro wv2_2 hpv
   have K2_2 : Hid (UBox wv2_2 g2 { { ux with on := 1 } with up := 3 } A2 2 2) := K2_1.out.st3 hpv
   have R2_2 : Hid (RowN wv2_2 g2 9) := R2_1.out.putVs hpv
   have E2_2 := LH (hpv.touch.ext w4 E2_1.out HGE2.out)
   clear hpv)
 )
 have Ku2w : Hid (UBox wv2_2 g2 uo A2 2 2) := by have h := K2_2.out; unfold Hid; rw [← HUO.out]; exact h
 clear Ku2 K2_1 K2_2 R2_0 R2_1 R2_2 HT2_0 HT2_1
 go_wp2_with fail
 refine (ex_any wv2_2).mono ?_
 rintro e w6 ⟨A3, rfl, hS, hE⟩
 have Ew6 := LH hE
 clear hE
 rw [HXU.out] at hS ⊢
 have HS3 := LH hS
 clear hS
 go_upto_region 7 with (fail)
 have kv := UBox.new w6 (w6.heap.size) rfl ux A3 2 2 24
 have rv : RowN (w6.alloc (.cells #[.int .i64 ux.bus, .int .i64 ux.mn, .slice A3 2 2, .int .i64 ux.up, .int .i64 ux.down, .int .i64 ux.start, .int .i64 ux.idle, .int .i64 ux.spin, .int .i64 ux.on] 24)) w6.heap.size 9 := RowN.of_blk (Blk.new w6 24 #[.int .i64 ux.bus, .int .i64 ux.mn, .slice A3 2 2, .int .i64 ux.up, .int .i64 ux.down, .int .i64 ux.start, .int .i64 ux.idle, .int .i64 ux.spin, .int .i64 ux.on])
 have hE : Ext w6 (w6.alloc (.cells #[.int .i64 ux.bus, .int .i64 ux.mn, .slice A3 2 2, .int .i64 ux.up, .int .i64 ux.down, .int .i64 ux.start, .int .i64 ux.idle, .int .i64 ux.spin, .int .i64 ux.on] 24)) := Ext.al Ext.rfl' _
 generalize w6.alloc (.cells #[.int .i64 ux.bus, .int .i64 ux.mn, .slice A3 2 2, .int .i64 ux.up, .int .i64 ux.down, .int .i64 ux.start, .int .i64 ux.idle, .int .i64 ux.spin, .int .i64 ux.on] 24) = w7 at *
 obtain ⟨g3, hg3⟩ : ∃ g, w6.heap.size = g := ⟨_, rfl⟩
 have HGE3 : Hid (w6.heap.size ≤ g3) := by unfold Hid; rw [← hg3]; exact Nat.le_refl _
 rw [hg3] at kv rv ⊢
 clear hg3
 have Ku3 := LH kv
 have R3_0 := LH rv
 have E3_0 := LH hE
 clear kv rv
 have Ew7 := LH hE
 clear hE
 have HT3_0 : Hid (∀ ww, RowN ww g3 9 → ww.there g3 5 1) := fun ww h => h.there (o := 5) (k := 1) (by omega)
 have HT3_1 : Hid (∀ ww, RowN ww g3 9 → ww.there g3 6 1) := fun ww h => h.there (o := 6) (k := 1) (by omega)
 have HT3_2 : Hid (∀ ww, RowN ww g3 9 → ww.there g3 1 1) := fun ww h => h.there (o := 1) (k := 1) (by omega)
 have HT3_3 : Hid (∀ ww, RowN ww g3 9 → ww.there g3 3 1) := fun ww h => h.there (o := 3) (k := 1) (by omega)
 have HT3_4 : Hid (∀ ww, RowN ww g3 9 → ww.there g3 4 1) := fun ww h => h.there (o := 4) (k := 1) (by omega)
 go_upto_region 8 with (first
  | (
   refine wpList_storeS rfl 2 _ _ rfl g3 5 (.int .i64 0) rfl rfl rfl (HT3_0.out _ R3_0.out) (by kernel_rfl) rfl ?_
   intro wv3_1 hpv
   have K3_1 : Hid (UBox wv3_1 g3 { ux with start := 0 } A3 2 2) := Ku3.out.st5 hpv
   have R3_1 : Hid (RowN wv3_1 g3 9) := R3_0.out.putVs hpv
   have E3_1 := LH (hpv.touch.ext w6 E3_0.out HGE3.out)
   clear hpv)
  | (
   refine wpList_storeS rfl 2 _ _ rfl g3 6 (.int .i64 0) rfl rfl rfl (HT3_1.out _ R3_1.out) (by kernel_rfl) rfl ?_
   intro wv3_2 hpv
   have K3_2 : Hid (UBox wv3_2 g3 { { ux with start := 0 } with idle := 0 } A3 2 2) := K3_1.out.st6 hpv
   have R3_2 : Hid (RowN wv3_2 g3 9) := R3_1.out.putVs hpv
   have E3_2 := LH (hpv.touch.ext w6 E3_1.out HGE3.out)
   clear hpv)
  | (
   refine wpList_storeS rfl 2 _ _ rfl g3 1 (.int .i64 0) rfl rfl rfl (HT3_2.out _ R3_2.out) (by kernel_rfl) rfl ?_
   intro wv3_3 hpv
   have K3_3 : Hid (UBox wv3_3 g3 { { { ux with start := 0 } with idle := 0 } with mn := 0 } A3 2 2) := K3_2.out.st1 hpv
   have R3_3 : Hid (RowN wv3_3 g3 9) := R3_2.out.putVs hpv
   have E3_3 := LH (hpv.touch.ext w6 E3_2.out HGE3.out)
   clear hpv)
  | (
   refine wpList_storeS rfl 3 _ _ rfl g3 3 (.int .i64 1) rfl rfl rfl (HT3_3.out _ R3_3.out) (by kernel_rfl) rfl ?_
   intro wv3_4 hpv
   have K3_4 : Hid (UBox wv3_4 g3 { { { { ux with start := 0 } with idle := 0 } with mn := 0 } with up := 1 } A3 2 2) := K3_3.out.st3 hpv
   have R3_4 : Hid (RowN wv3_4 g3 9) := R3_3.out.putVs hpv
   have E3_4 := LH (hpv.touch.ext w6 E3_3.out HGE3.out)
   clear hpv)
  | (
   refine wpList_storeS rfl 3 _ _ rfl g3 4 (.int .i64 1) rfl rfl rfl (HT3_4.out _ R3_4.out) (by kernel_rfl) rfl ?_
   intro wv3_5 hpv
   have K3_5 : Hid (UBox wv3_5 g3 { { { { { ux with start := 0 } with idle := 0 } with mn := 0 } with up := 1 } with down := 1 } A3 2 2) := K3_4.out.st4 hpv
   have R3_5 : Hid (RowN wv3_5 g3 9) := R3_4.out.putVs hpv
   have E3_5 := LH (hpv.touch.ext w6 E3_4.out HGE3.out)
   clear hpv)
 )
 have Ku3w : Hid (UBox wv3_5 g3 uf A3 2 2) := by have h := K3_5.out; unfold Hid; rw [← HUF.out]; exact h
 clear Ku3 K3_1 K3_2 K3_3 K3_4 K3_5 R3_0 R3_1 R3_2 R3_3 R3_4 R3_5 HT3_0 HT3_1 HT3_2 HT3_3 HT3_4
 go_wp2_with fail
 refine (hour_any U.zero none 0 0 false none 0 0 false none 0 0 0 wv3_5 ⟨rfl, fun h => absurd h (by decide)⟩ (by simp [maxLen]) (qcan_zero wv3_5 0).is (by omega) (by omega)).mono ?_
 rintro e w8 ⟨sa, Aa, na, ca, ta, Ba, ma, da, rfl, -, hE⟩
 have Ew8 := LH hE
 clear hE
 rw [HERR.out.1]
 go_upto_region 9 with (fail)
 have hE : Ext w8 (w8.alloc (.cells #[.bool sa, .slice Aa na ca, .bool ta, .slice Ba ma da] 29)) := Ext.al Ext.rfl' _
 generalize w8.alloc (.cells #[.bool sa, .slice Aa na ca, .bool ta, .slice Ba ma da] 29) = w9 at *
 have Ew9 := LH hE
 clear hE
 go_wp2_with fail
 refine (pwhole_any _ 9 9 [1, 2, 3, 4, 5, 6, 7, 8, 9] _ (ints_litC w9 _ #[.int .i64 1, .int .i64 2, .int .i64 3, .int .i64 4, .int .i64 5, .int .i64 6, .int .i64 7, .int .i64 8, .int .i64 9] [1, 2, 3, 4, 5, 6, 7, 8, 9] rfl) (by omega) (by decide)).mono ?_
 rintro e w10 ⟨Pb, cb, rfl, hP, hE⟩
 have hE := ET (Ext.al (Ext.rfl' (w := w9)) _) hE
 have HPb := LH hP
 clear hP
 have Ew10 := LH hE
 clear hE
 go_wp2_with fail
 refine (profit_any U.zero none 0 0 Pb 9 cb (ratsOf [1, 2, 3, 4, 5, 6, 7, 8, 9]) none 0 0 [] w10 ⟨rfl, fun h => absurd h (by decide)⟩ (by simp [maxLen]) HPb.out (by simp [maxLen]) ⟨rfl, fun h => absurd h (by decide)⟩ (by simp [maxLen])).mono ?_
 rintro e w11 ⟨sb, Ab, nb, cb, tb, Bb, mb, db, rfl, -, hE⟩
 have Ew11 := LH hE
 clear hE
 rw [HERR.out.2.1]
 go_upto_region 10 with (fail)
 have hE : Ext w11 (w11.alloc (.cells #[.bool sb, .slice Ab nb cb, .bool tb, .slice Bb mb db] 29)) := Ext.al Ext.rfl' _
 generalize w11.alloc (.cells #[.bool sb, .slice Ab nb cb, .bool tb, .slice Bb mb db] 29) = w12 at *
 have Ew12 := LH hE
 clear hE
 have hE : Ext w12 w12.drew := Ext.rfl'.drew
 refine wp_region_freeS (fun i => ((([(.vk (.is (ux.val A1 2 2))), (.vk (.ints [1, 2, 3, 4, 5, 6, 7, 8, 9])), (.vk (.qs (ratsOf [1, 2, 3, 4, 5, 6, 7, 8, 9]))), (.tup (ux.profV (ratsOf [1, 2, 3, 4, 5, 6, 7, 8, 9]) []) 5), (.tup (ux.profV (ratsOf [1, 2, 3, 4, 5, 6, 7, 8, 9]) []) 5), (.vk (.q (ux.profV (ratsOf [1, 2, 3, 4, 5, 6, 7, 8, 9]) []))), (.vk (.is (.int .i64 5))), (.cell w12.drew.heap.size), (.vk .any), (.vk (.is (.int .i64 5)))] : List PK)).getD i (.vk .any)).holds) (PxS w12.drew) 8 9 60 [6, 9] (by kernel_rfl) (by kernel_rfl) (fun _ _ _ _ h hE => PK.mono h hE) ?_ ?_ ?_ ?_
 all_goals generalize w12.drew = w13 at *
 all_goals have Ew13 := LH hE
 all_goals clear hE
 ·intro i hi hne
  match i, hi, hne with
  | 0, _, _ =>
   refine ⟨fun o ho x wx hE hF hd => ?_⟩
   obtain rfl := Option.some.inj ho
   clear ho
   have ef1 : x 1 = (.pointer (some ⟨w2.heap.size, 0, none⟩)) := hF 1 (by decide +kernel)
   clear hd hF
   have HX := LH hE
   clear hE
   rw [show actOf _ x = pxA x from rfl, pxA]
   rw [ef1]
   clear ef1
   have zu1 := World.block_lt_of_cell? _ _ (Ku1.out.ext (ET Ew4.out (ET E2_2.out (ET Ew6.out (ET E3_5.out (ET Ew8.out (ET Ew9.out (ET Ew10.out (ET Ew11.out (ET Ew12.out (ET Ew13.out HX.out))))))))))).1
   have xu10 := (Ku1.out.ext (ET Ew4.out (ET E2_2.out (ET Ew6.out (ET E3_5.out (ET Ew8.out (ET Ew9.out (ET Ew10.out (ET Ew11.out (ET Ew12.out (ET Ew13.out HX.out))))))))))).1
   have xu11 := (Ku1.out.ext (ET Ew4.out (ET E2_2.out (ET Ew6.out (ET E3_5.out (ET Ew8.out (ET Ew9.out (ET Ew10.out (ET Ew11.out (ET Ew12.out (ET Ew13.out HX.out))))))))))).2.1
   have xu12 := (Ku1.out.ext (ET Ew4.out (ET E2_2.out (ET Ew6.out (ET E3_5.out (ET Ew8.out (ET Ew9.out (ET Ew10.out (ET Ew11.out (ET Ew12.out (ET Ew13.out HX.out))))))))))).2.2.1
   have xu13 := (Ku1.out.ext (ET Ew4.out (ET E2_2.out (ET Ew6.out (ET E3_5.out (ET Ew8.out (ET Ew9.out (ET Ew10.out (ET Ew11.out (ET Ew12.out (ET Ew13.out HX.out))))))))))).2.2.2.1
   have xu14 := (Ku1.out.ext (ET Ew4.out (ET E2_2.out (ET Ew6.out (ET E3_5.out (ET Ew8.out (ET Ew9.out (ET Ew10.out (ET Ew11.out (ET Ew12.out (ET Ew13.out HX.out))))))))))).2.2.2.2.1
   have xu15 := (Ku1.out.ext (ET Ew4.out (ET E2_2.out (ET Ew6.out (ET E3_5.out (ET Ew8.out (ET Ew9.out (ET Ew10.out (ET Ew11.out (ET Ew12.out (ET Ew13.out HX.out))))))))))).2.2.2.2.2.1
   have xu16 := (Ku1.out.ext (ET Ew4.out (ET E2_2.out (ET Ew6.out (ET E3_5.out (ET Ew8.out (ET Ew9.out (ET Ew10.out (ET Ew11.out (ET Ew12.out (ET Ew13.out HX.out))))))))))).2.2.2.2.2.2.1
   have xu17 := (Ku1.out.ext (ET Ew4.out (ET E2_2.out (ET Ew6.out (ET E3_5.out (ET Ew8.out (ET Ew9.out (ET Ew10.out (ET Ew11.out (ET Ew12.out (ET Ew13.out HX.out))))))))))).2.2.2.2.2.2.2.1
   have xu18 := (Ku1.out.ext (ET Ew4.out (ET E2_2.out (ET Ew6.out (ET E3_5.out (ET Ew8.out (ET Ew9.out (ET Ew10.out (ET Ew11.out (ET Ew12.out (ET Ew13.out HX.out))))))))))).2.2.2.2.2.2.2.2
   go_wp2_with fail
   exact ⟨ux.val A1 2 2, rfl, Ext.rfl', rfl⟩
  | 1, _, _ =>
   refine ⟨fun o ho x wx hE hF hd => ?_⟩
   obtain rfl := Option.some.inj ho
   clear ho
   clear hd hF
   have HX := LH hE
   clear hE
   rw [show actOf _ x = pxA x from rfl, pxA]
   go_wp2_with fail
   exact ⟨.slice (some ⟨wx.heap.size, 0, none⟩) 9 9, rfl, Ext.al Ext.rfl' _, ⟨_, 9, rfl, ints_lit wx [1, 2, 3, 4, 5, 6, 7, 8, 9] 2⟩⟩
  | 2, _, _ =>
   refine ⟨fun o ho x wx hE hF hd => ?_⟩
   obtain rfl := Option.some.inj ho
   clear ho
   obtain ⟨Ai, ci, eq57, qi⟩ : (PK.holds (.vk (.ints [1, 2, 3, 4, 5, 6, 7, 8, 9])) (x 57) wx) := hd 1 (by decide +kernel) _ _ rfl rfl
   have Hqi := LH qi
   clear qi
   clear hd hF
   have HX := LH hE
   clear hE
   rw [show actOf _ x = pxA x from rfl, pxA]
   rw [eq57]
   clear eq57
   simp only [List.length_cons, List.length_nil, Nat.zero_add, Nat.reduceAdd] at Hqi ⊢
   go_wp2_with fail
   refine (pwhole_any Ai 9 ci [1, 2, 3, 4, 5, 6, 7, 8, 9] wx Hqi.out (by omega) (by decide)).mono ?_
   rintro e wy ⟨PX, cX, rfl, hP, hE⟩
   have HP := LH hP
   clear hP
   go_wp2_with fail
   exact ⟨.slice PX 9 cX, rfl, hE, ⟨PX, cX, rfl, HP.out⟩⟩
  | 3, _, _ =>
   refine ⟨fun o ho x wx hE hF hd => ?_⟩
   obtain rfl := Option.some.inj ho
   clear ho
   have ed56 : x 56 = (ux.val A1 2 2) := hd 0 (by decide +kernel) _ _ rfl rfl
   obtain ⟨Pi, ci, eq58, qi⟩ : (PK.holds (.vk (.qs (ratsOf [1, 2, 3, 4, 5, 6, 7, 8, 9]))) (x 58) wx) := hd 2 (by decide +kernel) _ _ rfl rfl
   have Hqi := LH qi
   clear qi
   clear hd hF
   have HX := LH hE
   clear hE
   rw [show actOf _ x = pxA x from rfl, pxA]
   rw [ed56, eq58]
   clear ed56 eq58
   rw [show (ratsOf [1, 2, 3, 4, 5, 6, 7, 8, 9]).length = 9 from rfl]
   go_wp2_with fail
   refine (profit_any ux A1 2 2 Pi 9 ci (ratsOf [1, 2, 3, 4, 5, 6, 7, 8, 9]) none 0 0 [] wx (HS1.out.below (ET Ew3.out (ET Ew4.out (ET E2_2.out (ET Ew6.out (ET E3_5.out (ET Ew8.out (ET Ew9.out (ET Ew10.out (ET Ew11.out (ET Ew12.out (ET Ew13.out HX.out)))))))))))) (by simp [maxLen]) Hqi.out (by simp [maxLen]) ⟨rfl, fun h => absurd h (by decide)⟩ (by simp [maxLen])).mono ?_
   rintro e wy ⟨sq, Aq, nq, cq, tq, Bq, mq, dq, rfl, hQ, hE⟩
   rw [HERR.out.2.2.1]
   have HQ := LH (hQ.base (Nat.zero_le _))
   clear hQ
   go_wp2_with fail
   exact ⟨_, rfl, hE, ⟨_, _, _, _, _, _, _, _, rfl, HQ.out⟩⟩
  | 4, _, _ =>
   refine ⟨fun o ho x wx hE hF hd => ?_⟩
   obtain rfl := Option.some.inj ho
   clear ho
   obtain ⟨sq, Aq, nq, cq, tq, Bq, mq, dq, eq59, hq⟩ : (PK.holds (.tup (ux.profV (ratsOf [1, 2, 3, 4, 5, 6, 7, 8, 9]) []) 5) (x 59) wx) := hd 3 (by decide +kernel) _ _ rfl rfl
   have Hhq := LH hq
   clear hq
   clear hd hF
   have HX := LH hE
   clear hE
   rw [show actOf _ x = pxA x from rfl, pxA]
   rw [eq59]
   clear eq59
   go_wp2_with fail
   exact ⟨_, rfl, Ext.rfl', ⟨_, _, _, _, _, _, _, _, rfl, Hhq.out⟩⟩
  | 5, _, _ =>
   refine ⟨fun o ho x wx hE hF hd => ?_⟩
   obtain rfl := Option.some.inj ho
   clear ho
   obtain ⟨sq, Aq, nq, cq, tq, Bq, mq, dq, eq55, hq⟩ : (PK.holds (.tup (ux.profV (ratsOf [1, 2, 3, 4, 5, 6, 7, 8, 9]) []) 5) (x 55) wx) := hd 4 (by decide +kernel) _ _ rfl rfl
   have Hhq := LH hq
   clear hq
   clear hd hF
   have HX := LH hE
   clear hE
   rw [show actOf _ x = pxA x from rfl, pxA]
   rw [eq55]
   clear eq55
   go_wp2_with fail
   exact ⟨_, rfl, Ext.rfl', ⟨_, _, _, _, _, _, _, _, rfl, Hhq.out⟩⟩
  | 6, _, _ =>
   refine ⟨fun o ho x wx hE hF hd => ?_⟩
   obtain rfl := Option.some.inj ho
   clear ho
   obtain ⟨sq, Aq, nq, cq, tq, Bq, mq, dq, eq55, hq⟩ : (PK.holds (.tup (ux.profV (ratsOf [1, 2, 3, 4, 5, 6, 7, 8, 9]) []) 5) (x 55) wx) := hd 4 (by decide +kernel) _ _ rfl rfl
   have Hhq := LH hq
   clear hq
   clear hd hF
   have HX := LH hE
   clear hE
   rw [show actOf _ x = pxA x from rfl, pxA]
   rw [eq55]
   clear eq55
   go_wp2_with fail
   exact ⟨_, rfl, Ext.rfl', rfl⟩
  | 7, _, _ =>
   refine ⟨fun o ho x wx hE hF hd => ?_⟩
   obtain rfl := Option.some.inj ho
   clear ho
   clear hd hF
   have HX := LH hE
   clear hE
   rw [show actOf _ x = pxA x from rfl, pxA]
   have hsz := HX.out.size
   have hcn := Cell4.new wx _ rfl (.bool false) (.slice none 0 0) (.bool false) (.slice none 0 0) 29
   have HCN := LH hcn
   clear hcn
   go_wp2_with fail
   exact ⟨_, rfl, Ext.al Ext.rfl' _, _, rfl, hsz, HCN.out, 29, heap_alloc_new _ _⟩
  | 8, _, h => exact absurd rfl h
  | 9, _, _ =>
   refine ⟨fun o ho x wx hE hF hd => ?_⟩
   obtain rfl := Option.some.inj ho
   clear ho
   have ed61 : x 61 = (.int .i64 5) := hd 6 (by decide +kernel) _ _ rfl rfl
   clear hd hF
   have HX := LH hE
   clear hE
   rw [show actOf _ x = pxA x from rfl, pxA]
   rw [ed61]
   clear ed61
   go_wp2_with fail
   exact ⟨_, rfl, Ext.rfl', rfl⟩
  | q + 10, h, _ => exact absurd h (by simp)
 ·intro i hi
  simp only [List.mem_cons, List.not_mem_nil, or_false] at hi
  rcases hi with rfl | rfl
  ·skip
   refine ⟨fun o ho x wp wx hE hF hd => ?_⟩
   obtain rfl := Option.some.inj ho
   clear ho
   obtain ⟨sq, Aq, nq, cq, tq, Bq, mq, dq, eq55, hq⟩ : (PK.holds (.tup (ux.profV (ratsOf [1, 2, 3, 4, 5, 6, 7, 8, 9]) []) 5) (x 55) wp) := hd 4 (by decide +kernel) _ _ rfl rfl
   have Hhq := LH hq
   clear hq
   clear hd hF
   have HX := LH hE
   clear hE
   rw [show actOf _ x = pxA x from rfl, pxA]
   rw [eq55]
   clear eq55
   go_wp2_with fail
   exact ⟨_, rfl, rfl, rfl⟩
  ·skip
   refine ⟨fun o ho x wp wx hE hF hd => ?_⟩
   obtain rfl := Option.some.inj ho
   clear ho
   have ed61 : x 61 = (.int .i64 5) := hd 6 (by decide +kernel) _ _ rfl rfl
   clear hd hF
   have HX := LH hE
   clear hE
   rw [show actOf _ x = pxA x from rfl, pxA]
   rw [ed61]
   clear ed61
   go_wp2_with fail
   exact ⟨_, rfl, rfl, rfl⟩
 ·refine ⟨fun o ho x wx hE hF hd => ?_⟩
  obtain rfl := Option.some.inj ho
  clear ho
  obtain ⟨gz, eqc, hgz, hcz, tz, hbz⟩ : (PK.cell w13.heap.size).holds (x 9) wx := hd 7 _ _ (by decide) rfl rfl
  obtain ⟨sq, Aq, nq, cq, tq, Bq, mq, dq, eqq, hqq⟩ : PK.holds (.vk (.q (ux.profV (ratsOf [1, 2, 3, 4, 5, 6, 7, 8, 9]) []))) (x 60) wx := hd 5 _ _ (by decide) rfl rfl
  clear hd hF
  have HX := LH hE
  have HGE := LH hgz
  have HCZ := LH hcz
  have HBZ := LH hbz
  clear hE hgz hcz hbz
  have HQQ := LH hqq
  clear hqq
  have HPE : Hid (x 9 = .pointer (some ⟨gz, 0, none⟩)) := eqc
  obtain ⟨yc, hyc⟩ : ∃ v, x 9 = v := ⟨_, rfl⟩
  obtain ⟨yq, hyq⟩ : ∃ v, x 60 = v := ⟨_, rfl⟩
  rw [show actOf _ x = pxA x from rfl, pxA]
  rw [eqc, eqq]
  clear eqc eqq hyc hyq
  go_wp2_with (
   refine wpList_storeV rfl 29 _ _ rfl gz 0 [.bool sq, .slice Aq nq cq, .bool tq, .slice Bq mq dq] rfl rfl (there4 HCZ.out) (by kernel_rfl) rfl ?_
   intro wS hp
   have HPV := LH hp
   clear hp)
  exact ⟨rfl, gz, rfl, HPV.out.touch.ext w13 HX.out HGE.out⟩
 intro x wp w14 hE hF hV hS
 have ez10 : x 10 = .int .i64 5 := hV 9 _ _ rfl rfl
 have ez1 : x 1 = (.pointer (some ⟨w2.heap.size, 0, none⟩)) := hF 1 (by decide +kernel)
 have ez2 : x 2 = (.pointer (some ⟨g2, 0, none⟩)) := hF 2 (by decide +kernel)
 have ez3 : x 3 = (.pointer (some ⟨g3, 0, none⟩)) := hF 3 (by decide +kernel)
 have ez6 : x 6 = (.int .i64 4) := hF 6 (by decide +kernel)
 have ez8 : x 8 = (.int .i64 4) := hF 8 (by decide +kernel)
 obtain ⟨gz, -, hE3⟩ := hS
 clear hV hF hE
 have Ew14 := LH hE3
 clear hE3
 rw [show actOf _ x = pxA x from rfl, pxA, ez10, ez1, ez2, ez3, ez6, ez8]
 clear ez10 ez1 ez2 ez3 ez6 ez8
 go_upto_region 11 with (fail)
 have hE : Ext w14 w14.drew := Ext.rfl'.drew
 refine wp_region_freeS (fun i => ((([(.vk (.is (ux.val A1 2 2))), (.vk (.ints [1])), (.vk (.qs (ratsOf [1]))), (.tup (ux.profV (ratsOf [1]) []) 3), (.tup (ux.profV (ratsOf [1]) []) 3), (.vk (.q (ux.profV (ratsOf [1]) []))), (.vk (.is (.int .i64 3))), (.cell w14.drew.heap.size), (.vk .any), (.vk (.is (.int .i64 3)))] : List PK)).getD i (.vk .any)).holds) (PxS w14.drew) 8 11 67 [6, 9] (by kernel_rfl) (by kernel_rfl) (fun _ _ _ _ h hE => PK.mono h hE) ?_ ?_ ?_ ?_
 all_goals generalize w14.drew = w15 at *
 all_goals have Ew15 := LH hE
 all_goals clear hE
 ·intro i hi hne
  match i, hi, hne with
  | 0, _, _ =>
   refine ⟨fun o ho x wx hE hF hd => ?_⟩
   obtain rfl := Option.some.inj ho
   clear ho
   have ef1 : x 1 = (.pointer (some ⟨w2.heap.size, 0, none⟩)) := hF 1 (by decide +kernel)
   clear hd hF
   have HX := LH hE
   clear hE
   rw [show actOf _ x = pxA x from rfl, pxA]
   rw [ef1]
   clear ef1
   have zu1 := World.block_lt_of_cell? _ _ (Ku1.out.ext (ET Ew4.out (ET E2_2.out (ET Ew6.out (ET E3_5.out (ET Ew8.out (ET Ew9.out (ET Ew10.out (ET Ew11.out (ET Ew12.out (ET Ew13.out (ET Ew14.out (ET Ew15.out HX.out))))))))))))).1
   have xu10 := (Ku1.out.ext (ET Ew4.out (ET E2_2.out (ET Ew6.out (ET E3_5.out (ET Ew8.out (ET Ew9.out (ET Ew10.out (ET Ew11.out (ET Ew12.out (ET Ew13.out (ET Ew14.out (ET Ew15.out HX.out))))))))))))).1
   have xu11 := (Ku1.out.ext (ET Ew4.out (ET E2_2.out (ET Ew6.out (ET E3_5.out (ET Ew8.out (ET Ew9.out (ET Ew10.out (ET Ew11.out (ET Ew12.out (ET Ew13.out (ET Ew14.out (ET Ew15.out HX.out))))))))))))).2.1
   have xu12 := (Ku1.out.ext (ET Ew4.out (ET E2_2.out (ET Ew6.out (ET E3_5.out (ET Ew8.out (ET Ew9.out (ET Ew10.out (ET Ew11.out (ET Ew12.out (ET Ew13.out (ET Ew14.out (ET Ew15.out HX.out))))))))))))).2.2.1
   have xu13 := (Ku1.out.ext (ET Ew4.out (ET E2_2.out (ET Ew6.out (ET E3_5.out (ET Ew8.out (ET Ew9.out (ET Ew10.out (ET Ew11.out (ET Ew12.out (ET Ew13.out (ET Ew14.out (ET Ew15.out HX.out))))))))))))).2.2.2.1
   have xu14 := (Ku1.out.ext (ET Ew4.out (ET E2_2.out (ET Ew6.out (ET E3_5.out (ET Ew8.out (ET Ew9.out (ET Ew10.out (ET Ew11.out (ET Ew12.out (ET Ew13.out (ET Ew14.out (ET Ew15.out HX.out))))))))))))).2.2.2.2.1
   have xu15 := (Ku1.out.ext (ET Ew4.out (ET E2_2.out (ET Ew6.out (ET E3_5.out (ET Ew8.out (ET Ew9.out (ET Ew10.out (ET Ew11.out (ET Ew12.out (ET Ew13.out (ET Ew14.out (ET Ew15.out HX.out))))))))))))).2.2.2.2.2.1
   have xu16 := (Ku1.out.ext (ET Ew4.out (ET E2_2.out (ET Ew6.out (ET E3_5.out (ET Ew8.out (ET Ew9.out (ET Ew10.out (ET Ew11.out (ET Ew12.out (ET Ew13.out (ET Ew14.out (ET Ew15.out HX.out))))))))))))).2.2.2.2.2.2.1
   have xu17 := (Ku1.out.ext (ET Ew4.out (ET E2_2.out (ET Ew6.out (ET E3_5.out (ET Ew8.out (ET Ew9.out (ET Ew10.out (ET Ew11.out (ET Ew12.out (ET Ew13.out (ET Ew14.out (ET Ew15.out HX.out))))))))))))).2.2.2.2.2.2.2.1
   have xu18 := (Ku1.out.ext (ET Ew4.out (ET E2_2.out (ET Ew6.out (ET E3_5.out (ET Ew8.out (ET Ew9.out (ET Ew10.out (ET Ew11.out (ET Ew12.out (ET Ew13.out (ET Ew14.out (ET Ew15.out HX.out))))))))))))).2.2.2.2.2.2.2.2
   go_wp2_with fail
   exact ⟨ux.val A1 2 2, rfl, Ext.rfl', rfl⟩
  | 1, _, _ =>
   refine ⟨fun o ho x wx hE hF hd => ?_⟩
   obtain rfl := Option.some.inj ho
   clear ho
   clear hd hF
   have HX := LH hE
   clear hE
   rw [show actOf _ x = pxA x from rfl, pxA]
   go_wp2_with fail
   exact ⟨.slice (some ⟨wx.heap.size, 0, none⟩) 1 1, rfl, Ext.al Ext.rfl' _, ⟨_, 1, rfl, ints_lit wx [1] 2⟩⟩
  | 2, _, _ =>
   refine ⟨fun o ho x wx hE hF hd => ?_⟩
   obtain rfl := Option.some.inj ho
   clear ho
   obtain ⟨Ai, ci, eq64, qi⟩ : (PK.holds (.vk (.ints [1])) (x 64) wx) := hd 1 (by decide +kernel) _ _ rfl rfl
   have Hqi := LH qi
   clear qi
   clear hd hF
   have HX := LH hE
   clear hE
   rw [show actOf _ x = pxA x from rfl, pxA]
   rw [eq64]
   clear eq64
   simp only [List.length_cons, List.length_nil, Nat.zero_add] at Hqi ⊢
   go_wp2_with fail
   refine (pwhole_any Ai 1 ci [1] wx Hqi.out (by omega) (by decide)).mono ?_
   rintro e wy ⟨PX, cX, rfl, hP, hE⟩
   have HP := LH hP
   clear hP
   go_wp2_with fail
   exact ⟨.slice PX 1 cX, rfl, hE, ⟨PX, cX, rfl, HP.out⟩⟩
  | 3, _, _ =>
   refine ⟨fun o ho x wx hE hF hd => ?_⟩
   obtain rfl := Option.some.inj ho
   clear ho
   have ed63 : x 63 = (ux.val A1 2 2) := hd 0 (by decide +kernel) _ _ rfl rfl
   obtain ⟨Pi, ci, eq65, qi⟩ : (PK.holds (.vk (.qs (ratsOf [1]))) (x 65) wx) := hd 2 (by decide +kernel) _ _ rfl rfl
   have Hqi := LH qi
   clear qi
   clear hd hF
   have HX := LH hE
   clear hE
   rw [show actOf _ x = pxA x from rfl, pxA]
   rw [ed63, eq65]
   clear ed63 eq65
   rw [show (ratsOf [1]).length = 1 from rfl]
   go_wp2_with fail
   refine (profit_any ux A1 2 2 Pi 1 ci (ratsOf [1]) none 0 0 [] wx (HS1.out.below (ET Ew3.out (ET Ew4.out (ET E2_2.out (ET Ew6.out (ET E3_5.out (ET Ew8.out (ET Ew9.out (ET Ew10.out (ET Ew11.out (ET Ew12.out (ET Ew13.out (ET Ew14.out (ET Ew15.out HX.out)))))))))))))) (by simp [maxLen]) Hqi.out (by simp [maxLen]) ⟨rfl, fun h => absurd h (by decide)⟩ (by simp [maxLen])).mono ?_
   rintro e wy ⟨sq, Aq, nq, cq, tq, Bq, mq, dq, rfl, hQ, hE⟩
   rw [HERR.out.2.2.2.1]
   have HQ := LH (hQ.base (Nat.zero_le _))
   clear hQ
   go_wp2_with fail
   exact ⟨_, rfl, hE, ⟨_, _, _, _, _, _, _, _, rfl, HQ.out⟩⟩
  | 4, _, _ =>
   refine ⟨fun o ho x wx hE hF hd => ?_⟩
   obtain rfl := Option.some.inj ho
   clear ho
   obtain ⟨sq, Aq, nq, cq, tq, Bq, mq, dq, eq66, hq⟩ : (PK.holds (.tup (ux.profV (ratsOf [1]) []) 3) (x 66) wx) := hd 3 (by decide +kernel) _ _ rfl rfl
   have Hhq := LH hq
   clear hq
   clear hd hF
   have HX := LH hE
   clear hE
   rw [show actOf _ x = pxA x from rfl, pxA]
   rw [eq66]
   clear eq66
   go_wp2_with fail
   exact ⟨_, rfl, Ext.rfl', ⟨_, _, _, _, _, _, _, _, rfl, Hhq.out⟩⟩
  | 5, _, _ =>
   refine ⟨fun o ho x wx hE hF hd => ?_⟩
   obtain rfl := Option.some.inj ho
   clear ho
   obtain ⟨sq, Aq, nq, cq, tq, Bq, mq, dq, eq62, hq⟩ : (PK.holds (.tup (ux.profV (ratsOf [1]) []) 3) (x 62) wx) := hd 4 (by decide +kernel) _ _ rfl rfl
   have Hhq := LH hq
   clear hq
   clear hd hF
   have HX := LH hE
   clear hE
   rw [show actOf _ x = pxA x from rfl, pxA]
   rw [eq62]
   clear eq62
   go_wp2_with fail
   exact ⟨_, rfl, Ext.rfl', ⟨_, _, _, _, _, _, _, _, rfl, Hhq.out⟩⟩
  | 6, _, _ =>
   refine ⟨fun o ho x wx hE hF hd => ?_⟩
   obtain rfl := Option.some.inj ho
   clear ho
   obtain ⟨sq, Aq, nq, cq, tq, Bq, mq, dq, eq62, hq⟩ : (PK.holds (.tup (ux.profV (ratsOf [1]) []) 3) (x 62) wx) := hd 4 (by decide +kernel) _ _ rfl rfl
   have Hhq := LH hq
   clear hq
   clear hd hF
   have HX := LH hE
   clear hE
   rw [show actOf _ x = pxA x from rfl, pxA]
   rw [eq62]
   clear eq62
   go_wp2_with fail
   exact ⟨_, rfl, Ext.rfl', rfl⟩
  | 7, _, _ =>
   refine ⟨fun o ho x wx hE hF hd => ?_⟩
   obtain rfl := Option.some.inj ho
   clear ho
   clear hd hF
   have HX := LH hE
   clear hE
   rw [show actOf _ x = pxA x from rfl, pxA]
   have hsz := HX.out.size
   have hcn := Cell4.new wx _ rfl (.bool false) (.slice none 0 0) (.bool false) (.slice none 0 0) 29
   have HCN := LH hcn
   clear hcn
   go_wp2_with fail
   exact ⟨_, rfl, Ext.al Ext.rfl' _, _, rfl, hsz, HCN.out, 29, heap_alloc_new _ _⟩
  | 8, _, h => exact absurd rfl h
  | 9, _, _ =>
   refine ⟨fun o ho x wx hE hF hd => ?_⟩
   obtain rfl := Option.some.inj ho
   clear ho
   have ed68 : x 68 = (.int .i64 3) := hd 6 (by decide +kernel) _ _ rfl rfl
   clear hd hF
   have HX := LH hE
   clear hE
   rw [show actOf _ x = pxA x from rfl, pxA]
   rw [ed68]
   clear ed68
   go_wp2_with fail
   exact ⟨_, rfl, Ext.rfl', rfl⟩
  | q + 10, h, _ => exact absurd h (by simp)
 ·intro i hi
  simp only [List.mem_cons, List.not_mem_nil, or_false] at hi
  rcases hi with rfl | rfl
  ·skip
   refine ⟨fun o ho x wp wx hE hF hd => ?_⟩
   obtain rfl := Option.some.inj ho
   clear ho
   obtain ⟨sq, Aq, nq, cq, tq, Bq, mq, dq, eq62, hq⟩ : (PK.holds (.tup (ux.profV (ratsOf [1]) []) 3) (x 62) wp) := hd 4 (by decide +kernel) _ _ rfl rfl
   have Hhq := LH hq
   clear hq
   clear hd hF
   have HX := LH hE
   clear hE
   rw [show actOf _ x = pxA x from rfl, pxA]
   rw [eq62]
   clear eq62
   go_wp2_with fail
   exact ⟨_, rfl, rfl, rfl⟩
  ·skip
   refine ⟨fun o ho x wp wx hE hF hd => ?_⟩
   obtain rfl := Option.some.inj ho
   clear ho
   have ed68 : x 68 = (.int .i64 3) := hd 6 (by decide +kernel) _ _ rfl rfl
   clear hd hF
   have HX := LH hE
   clear hE
   rw [show actOf _ x = pxA x from rfl, pxA]
   rw [ed68]
   clear ed68
   go_wp2_with fail
   exact ⟨_, rfl, rfl, rfl⟩
 ·refine ⟨fun o ho x wx hE hF hd => ?_⟩
  obtain rfl := Option.some.inj ho
  clear ho
  obtain ⟨gz, eqc, hgz, hcz, tz, hbz⟩ : (PK.cell w15.heap.size).holds (x 11) wx := hd 7 _ _ (by decide) rfl rfl
  obtain ⟨sq, Aq, nq, cq, tq, Bq, mq, dq, eqq, hqq⟩ : PK.holds (.vk (.q (ux.profV (ratsOf [1]) []))) (x 67) wx := hd 5 _ _ (by decide) rfl rfl
  clear hd hF
  have HX := LH hE
  have HGE := LH hgz
  have HCZ := LH hcz
  have HBZ := LH hbz
  clear hE hgz hcz hbz
  have HQQ := LH hqq
  clear hqq
  have HPE : Hid (x 11 = .pointer (some ⟨gz, 0, none⟩)) := eqc
  obtain ⟨yc, hyc⟩ : ∃ v, x 11 = v := ⟨_, rfl⟩
  obtain ⟨yq, hyq⟩ : ∃ v, x 67 = v := ⟨_, rfl⟩
  rw [show actOf _ x = pxA x from rfl, pxA]
  rw [eqc, eqq]
  clear eqc eqq hyc hyq
  go_wp2_with (
   refine wpList_storeV rfl 29 _ _ rfl gz 0 [.bool sq, .slice Aq nq cq, .bool tq, .slice Bq mq dq] rfl rfl (there4 HCZ.out) (by kernel_rfl) rfl ?_
   intro wS hp
   have HPV := LH hp
   clear hp)
  exact ⟨rfl, gz, rfl, HPV.out.touch.ext w15 HX.out HGE.out⟩
 intro x wp w16 hE hF hV hS
 have ez12 : x 12 = .int .i64 3 := hV 9 _ _ rfl rfl
 have ez1 : x 1 = (.pointer (some ⟨w2.heap.size, 0, none⟩)) := hF 1 (by decide +kernel)
 have ez2 : x 2 = (.pointer (some ⟨g2, 0, none⟩)) := hF 2 (by decide +kernel)
 have ez3 : x 3 = (.pointer (some ⟨g3, 0, none⟩)) := hF 3 (by decide +kernel)
 have ez6 : x 6 = (.int .i64 4) := hF 6 (by decide +kernel)
 have ez8 : x 8 = (.int .i64 4) := hF 8 (by decide +kernel)
 have ez10 : x 10 = (.int .i64 5) := hF 10 (by decide +kernel)
 obtain ⟨gz, -, hE3⟩ := hS
 clear hV hF hE
 have Ew16 := LH hE3
 clear hE3
 rw [show actOf _ x = pxA x from rfl, pxA, ez12, ez1, ez2, ez3, ez6, ez8, ez10]
 clear ez12 ez1 ez2 ez3 ez6 ez8 ez10
 go_upto_region 12 with (fail)
 have hE : Ext w16 w16.drew := Ext.rfl'.drew
 refine wp_region_freeS (fun i => ((([(.vk (.is (ux.val A1 2 2))), (.vk (.ints [1, 1, 1])), (.vk (.qs (ratsOf [1, 1, 1]))), (.vk (.bools [true, false, true])), (.tup (ux.profV (ratsOf [1, 1, 1]) [true, false, true]) 3), (.tup (ux.profV (ratsOf [1, 1, 1]) [true, false, true]) 3), (.vk (.q (ux.profV (ratsOf [1, 1, 1]) [true, false, true]))), (.vk (.is (.int .i64 3))), (.cell w16.drew.heap.size), (.vk .any), (.vk (.is (.int .i64 3)))] : List PK)).getD i (.vk .any)).holds) (PxS w16.drew) 9 13 75 [7, 10] (by kernel_rfl) (by kernel_rfl) (fun _ _ _ _ h hE => PK.mono h hE) ?_ ?_ ?_ ?_
 all_goals generalize w16.drew = w17 at *
 all_goals have Ew17 := LH hE
 all_goals clear hE
 ·intro i hi hne
  match i, hi, hne with
  | 0, _, _ =>
   refine ⟨fun o ho x wx hE hF hd => ?_⟩
   obtain rfl := Option.some.inj ho
   clear ho
   have ef1 : x 1 = (.pointer (some ⟨w2.heap.size, 0, none⟩)) := hF 1 (by decide +kernel)
   clear hd hF
   have HX := LH hE
   clear hE
   rw [show actOf _ x = pxA x from rfl, pxA]
   rw [ef1]
   clear ef1
   have zu1 := World.block_lt_of_cell? _ _ (Ku1.out.ext (ET Ew4.out (ET E2_2.out (ET Ew6.out (ET E3_5.out (ET Ew8.out (ET Ew9.out (ET Ew10.out (ET Ew11.out (ET Ew12.out (ET Ew13.out (ET Ew14.out (ET Ew15.out (ET Ew16.out (ET Ew17.out HX.out))))))))))))))).1
   have xu10 := (Ku1.out.ext (ET Ew4.out (ET E2_2.out (ET Ew6.out (ET E3_5.out (ET Ew8.out (ET Ew9.out (ET Ew10.out (ET Ew11.out (ET Ew12.out (ET Ew13.out (ET Ew14.out (ET Ew15.out (ET Ew16.out (ET Ew17.out HX.out))))))))))))))).1
   have xu11 := (Ku1.out.ext (ET Ew4.out (ET E2_2.out (ET Ew6.out (ET E3_5.out (ET Ew8.out (ET Ew9.out (ET Ew10.out (ET Ew11.out (ET Ew12.out (ET Ew13.out (ET Ew14.out (ET Ew15.out (ET Ew16.out (ET Ew17.out HX.out))))))))))))))).2.1
   have xu12 := (Ku1.out.ext (ET Ew4.out (ET E2_2.out (ET Ew6.out (ET E3_5.out (ET Ew8.out (ET Ew9.out (ET Ew10.out (ET Ew11.out (ET Ew12.out (ET Ew13.out (ET Ew14.out (ET Ew15.out (ET Ew16.out (ET Ew17.out HX.out))))))))))))))).2.2.1
   have xu13 := (Ku1.out.ext (ET Ew4.out (ET E2_2.out (ET Ew6.out (ET E3_5.out (ET Ew8.out (ET Ew9.out (ET Ew10.out (ET Ew11.out (ET Ew12.out (ET Ew13.out (ET Ew14.out (ET Ew15.out (ET Ew16.out (ET Ew17.out HX.out))))))))))))))).2.2.2.1
   have xu14 := (Ku1.out.ext (ET Ew4.out (ET E2_2.out (ET Ew6.out (ET E3_5.out (ET Ew8.out (ET Ew9.out (ET Ew10.out (ET Ew11.out (ET Ew12.out (ET Ew13.out (ET Ew14.out (ET Ew15.out (ET Ew16.out (ET Ew17.out HX.out))))))))))))))).2.2.2.2.1
   have xu15 := (Ku1.out.ext (ET Ew4.out (ET E2_2.out (ET Ew6.out (ET E3_5.out (ET Ew8.out (ET Ew9.out (ET Ew10.out (ET Ew11.out (ET Ew12.out (ET Ew13.out (ET Ew14.out (ET Ew15.out (ET Ew16.out (ET Ew17.out HX.out))))))))))))))).2.2.2.2.2.1
   have xu16 := (Ku1.out.ext (ET Ew4.out (ET E2_2.out (ET Ew6.out (ET E3_5.out (ET Ew8.out (ET Ew9.out (ET Ew10.out (ET Ew11.out (ET Ew12.out (ET Ew13.out (ET Ew14.out (ET Ew15.out (ET Ew16.out (ET Ew17.out HX.out))))))))))))))).2.2.2.2.2.2.1
   have xu17 := (Ku1.out.ext (ET Ew4.out (ET E2_2.out (ET Ew6.out (ET E3_5.out (ET Ew8.out (ET Ew9.out (ET Ew10.out (ET Ew11.out (ET Ew12.out (ET Ew13.out (ET Ew14.out (ET Ew15.out (ET Ew16.out (ET Ew17.out HX.out))))))))))))))).2.2.2.2.2.2.2.1
   have xu18 := (Ku1.out.ext (ET Ew4.out (ET E2_2.out (ET Ew6.out (ET E3_5.out (ET Ew8.out (ET Ew9.out (ET Ew10.out (ET Ew11.out (ET Ew12.out (ET Ew13.out (ET Ew14.out (ET Ew15.out (ET Ew16.out (ET Ew17.out HX.out))))))))))))))).2.2.2.2.2.2.2.2
   go_wp2_with fail
   exact ⟨ux.val A1 2 2, rfl, Ext.rfl', rfl⟩
  | 1, _, _ =>
   refine ⟨fun o ho x wx hE hF hd => ?_⟩
   obtain rfl := Option.some.inj ho
   clear ho
   clear hd hF
   have HX := LH hE
   clear hE
   rw [show actOf _ x = pxA x from rfl, pxA]
   go_wp2_with fail
   exact ⟨.slice (some ⟨wx.heap.size, 0, none⟩) 3 3, rfl, Ext.al Ext.rfl' _, ⟨_, 3, rfl, ints_lit wx [1, 1, 1] 2⟩⟩
  | 2, _, _ =>
   refine ⟨fun o ho x wx hE hF hd => ?_⟩
   obtain rfl := Option.some.inj ho
   clear ho
   obtain ⟨Ai, ci, eq71, qi⟩ : (PK.holds (.vk (.ints [1, 1, 1])) (x 71) wx) := hd 1 (by decide +kernel) _ _ rfl rfl
   have Hqi := LH qi
   clear qi
   clear hd hF
   have HX := LH hE
   clear hE
   rw [show actOf _ x = pxA x from rfl, pxA]
   rw [eq71]
   clear eq71
   simp only [List.length_cons, List.length_nil, Nat.zero_add, Nat.reduceAdd] at Hqi ⊢
   go_wp2_with fail
   refine (pwhole_any Ai 3 ci [1, 1, 1] wx Hqi.out (by omega) (by decide)).mono ?_
   rintro e wy ⟨PX, cX, rfl, hP, hE⟩
   have HP := LH hP
   clear hP
   go_wp2_with fail
   exact ⟨.slice PX 3 cX, rfl, hE, ⟨PX, cX, rfl, HP.out⟩⟩
  | 3, _, _ =>
   refine ⟨fun o ho x wx hE hF hd => ?_⟩
   obtain rfl := Option.some.inj ho
   clear ho
   clear hd hF
   have HX := LH hE
   clear hE
   rw [show actOf _ x = pxA x from rfl, pxA]
   go_wp2_with fail
   exact ⟨.slice (some ⟨wx.heap.size, 0, none⟩) 3 3, rfl, Ext.al Ext.rfl' _, ⟨_, 3, rfl, bools_lit wx [true, false, true] 4⟩⟩
  | 4, _, _ =>
   refine ⟨fun o ho x wx hE hF hd => ?_⟩
   obtain rfl := Option.some.inj ho
   clear ho
   have ed70 : x 70 = (ux.val A1 2 2) := hd 0 (by decide +kernel) _ _ rfl rfl
   obtain ⟨Pi, ci, eq72, qi⟩ : (PK.holds (.vk (.qs (ratsOf [1, 1, 1]))) (x 72) wx) := hd 2 (by decide +kernel) _ _ rfl rfl
   have Hqi := LH qi
   clear qi
   obtain ⟨Ri, di, eq73, ri⟩ : (PK.holds (.vk (.bools [true, false, true])) (x 73) wx) := hd 3 (by decide +kernel) _ _ rfl rfl
   have Hri := LH ri
   clear ri
   clear hd hF
   have HX := LH hE
   clear hE
   rw [show actOf _ x = pxA x from rfl, pxA]
   rw [ed70, eq72, eq73]
   clear ed70 eq72 eq73
   rw [show (ratsOf [1, 1, 1]).length = 3 from rfl]
   rw [show ([true, false, true] : List Bool).length = 3 from rfl]
   go_wp2_with fail
   refine (profit_any ux A1 2 2 Pi 3 ci (ratsOf [1, 1, 1]) Ri 3 di [true, false, true] wx (HS1.out.below (ET Ew3.out (ET Ew4.out (ET E2_2.out (ET Ew6.out (ET E3_5.out (ET Ew8.out (ET Ew9.out (ET Ew10.out (ET Ew11.out (ET Ew12.out (ET Ew13.out (ET Ew14.out (ET Ew15.out (ET Ew16.out (ET Ew17.out HX.out)))))))))))))))) (by simp [maxLen]) Hqi.out (by simp [maxLen]) Hri.out (by simp [maxLen])).mono ?_
   rintro e wy ⟨sq, Aq, nq, cq, tq, Bq, mq, dq, rfl, hQ, hE⟩
   rw [HERR.out.2.2.2.2.1]
   have HQ := LH (hQ.base (Nat.zero_le _))
   clear hQ
   go_wp2_with fail
   exact ⟨_, rfl, hE, ⟨_, _, _, _, _, _, _, _, rfl, HQ.out⟩⟩
  | 5, _, _ =>
   refine ⟨fun o ho x wx hE hF hd => ?_⟩
   obtain rfl := Option.some.inj ho
   clear ho
   obtain ⟨sq, Aq, nq, cq, tq, Bq, mq, dq, eq74, hq⟩ : (PK.holds (.tup (ux.profV (ratsOf [1, 1, 1]) [true, false, true]) 3) (x 74) wx) := hd 4 (by decide +kernel) _ _ rfl rfl
   have Hhq := LH hq
   clear hq
   clear hd hF
   have HX := LH hE
   clear hE
   rw [show actOf _ x = pxA x from rfl, pxA]
   rw [eq74]
   clear eq74
   go_wp2_with fail
   exact ⟨_, rfl, Ext.rfl', ⟨_, _, _, _, _, _, _, _, rfl, Hhq.out⟩⟩
  | 6, _, _ =>
   refine ⟨fun o ho x wx hE hF hd => ?_⟩
   obtain rfl := Option.some.inj ho
   clear ho
   obtain ⟨sq, Aq, nq, cq, tq, Bq, mq, dq, eq69, hq⟩ : (PK.holds (.tup (ux.profV (ratsOf [1, 1, 1]) [true, false, true]) 3) (x 69) wx) := hd 5 (by decide +kernel) _ _ rfl rfl
   have Hhq := LH hq
   clear hq
   clear hd hF
   have HX := LH hE
   clear hE
   rw [show actOf _ x = pxA x from rfl, pxA]
   rw [eq69]
   clear eq69
   go_wp2_with fail
   exact ⟨_, rfl, Ext.rfl', ⟨_, _, _, _, _, _, _, _, rfl, Hhq.out⟩⟩
  | 7, _, _ =>
   refine ⟨fun o ho x wx hE hF hd => ?_⟩
   obtain rfl := Option.some.inj ho
   clear ho
   obtain ⟨sq, Aq, nq, cq, tq, Bq, mq, dq, eq69, hq⟩ : (PK.holds (.tup (ux.profV (ratsOf [1, 1, 1]) [true, false, true]) 3) (x 69) wx) := hd 5 (by decide +kernel) _ _ rfl rfl
   have Hhq := LH hq
   clear hq
   clear hd hF
   have HX := LH hE
   clear hE
   rw [show actOf _ x = pxA x from rfl, pxA]
   rw [eq69]
   clear eq69
   go_wp2_with fail
   exact ⟨_, rfl, Ext.rfl', rfl⟩
  | 8, _, _ =>
   refine ⟨fun o ho x wx hE hF hd => ?_⟩
   obtain rfl := Option.some.inj ho
   clear ho
   clear hd hF
   have HX := LH hE
   clear hE
   rw [show actOf _ x = pxA x from rfl, pxA]
   have hsz := HX.out.size
   have hcn := Cell4.new wx _ rfl (.bool false) (.slice none 0 0) (.bool false) (.slice none 0 0) 29
   have HCN := LH hcn
   clear hcn
   go_wp2_with fail
   exact ⟨_, rfl, Ext.al Ext.rfl' _, _, rfl, hsz, HCN.out, 29, heap_alloc_new _ _⟩
  | 9, _, h => exact absurd rfl h
  | 10, _, _ =>
   refine ⟨fun o ho x wx hE hF hd => ?_⟩
   obtain rfl := Option.some.inj ho
   clear ho
   have ed76 : x 76 = (.int .i64 3) := hd 7 (by decide +kernel) _ _ rfl rfl
   clear hd hF
   have HX := LH hE
   clear hE
   rw [show actOf _ x = pxA x from rfl, pxA]
   rw [ed76]
   clear ed76
   go_wp2_with fail
   exact ⟨_, rfl, Ext.rfl', rfl⟩
  | q + 11, h, _ => exact absurd h (by simp)
 ·intro i hi
  simp only [List.mem_cons, List.not_mem_nil, or_false] at hi
  rcases hi with rfl | rfl
  ·skip
   refine ⟨fun o ho x wp wx hE hF hd => ?_⟩
   obtain rfl := Option.some.inj ho
   clear ho
   obtain ⟨sq, Aq, nq, cq, tq, Bq, mq, dq, eq69, hq⟩ : (PK.holds (.tup (ux.profV (ratsOf [1, 1, 1]) [true, false, true]) 3) (x 69) wp) := hd 5 (by decide +kernel) _ _ rfl rfl
   have Hhq := LH hq
   clear hq
   clear hd hF
   have HX := LH hE
   clear hE
   rw [show actOf _ x = pxA x from rfl, pxA]
   rw [eq69]
   clear eq69
   go_wp2_with fail
   exact ⟨_, rfl, rfl, rfl⟩
  ·skip
   refine ⟨fun o ho x wp wx hE hF hd => ?_⟩
   obtain rfl := Option.some.inj ho
   clear ho
   have ed76 : x 76 = (.int .i64 3) := hd 7 (by decide +kernel) _ _ rfl rfl
   clear hd hF
   have HX := LH hE
   clear hE
   rw [show actOf _ x = pxA x from rfl, pxA]
   rw [ed76]
   clear ed76
   go_wp2_with fail
   exact ⟨_, rfl, rfl, rfl⟩
 ·refine ⟨fun o ho x wx hE hF hd => ?_⟩
  obtain rfl := Option.some.inj ho
  clear ho
  obtain ⟨gz, eqc, hgz, hcz, tz, hbz⟩ : (PK.cell w17.heap.size).holds (x 13) wx := hd 8 _ _ (by decide) rfl rfl
  obtain ⟨sq, Aq, nq, cq, tq, Bq, mq, dq, eqq, hqq⟩ : PK.holds (.vk (.q (ux.profV (ratsOf [1, 1, 1]) [true, false, true]))) (x 75) wx := hd 6 _ _ (by decide) rfl rfl
  clear hd hF
  have HX := LH hE
  have HGE := LH hgz
  have HCZ := LH hcz
  have HBZ := LH hbz
  clear hE hgz hcz hbz
  have HQQ := LH hqq
  clear hqq
  have HPE : Hid (x 13 = .pointer (some ⟨gz, 0, none⟩)) := eqc
  obtain ⟨yc, hyc⟩ : ∃ v, x 13 = v := ⟨_, rfl⟩
  obtain ⟨yq, hyq⟩ : ∃ v, x 75 = v := ⟨_, rfl⟩
  rw [show actOf _ x = pxA x from rfl, pxA]
  rw [eqc, eqq]
  clear eqc eqq hyc hyq
  go_wp2_with (
   refine wpList_storeV rfl 29 _ _ rfl gz 0 [.bool sq, .slice Aq nq cq, .bool tq, .slice Bq mq dq] rfl rfl (there4 HCZ.out) (by kernel_rfl) rfl ?_
   intro wS hp
   have HPV := LH hp
   clear hp)
  exact ⟨rfl, gz, rfl, HPV.out.touch.ext w17 HX.out HGE.out⟩
 intro x wp w18 hE hF hV hS
 have ez14 : x 14 = .int .i64 3 := hV 10 _ _ rfl rfl
 have ez1 : x 1 = (.pointer (some ⟨w2.heap.size, 0, none⟩)) := hF 1 (by decide +kernel)
 have ez2 : x 2 = (.pointer (some ⟨g2, 0, none⟩)) := hF 2 (by decide +kernel)
 have ez3 : x 3 = (.pointer (some ⟨g3, 0, none⟩)) := hF 3 (by decide +kernel)
 have ez6 : x 6 = (.int .i64 4) := hF 6 (by decide +kernel)
 have ez8 : x 8 = (.int .i64 4) := hF 8 (by decide +kernel)
 have ez10 : x 10 = (.int .i64 5) := hF 10 (by decide +kernel)
 have ez12 : x 12 = (.int .i64 3) := hF 12 (by decide +kernel)
 obtain ⟨gz, -, hE3⟩ := hS
 clear hV hF hE
 have Ew18 := LH hE3
 clear hE3
 rw [show actOf _ x = pxA x from rfl, pxA, ez14, ez1, ez2, ez3, ez6, ez8, ez10, ez12]
 clear ez14 ez1 ez2 ez3 ez6 ez8 ez10 ez12
 go_upto_region 13 with (fail)
 have hE : Ext w18 w18.drew := Ext.rfl'.drew
 refine wp_region_freeS (fun i => ((([(.vk (.is (ux.val A1 2 2))), (.vk (.ints [1, 2, 3, 4, 5, 6, 7, 8, 9])), (.vk (.qs (ratsOf [1, 2, 3, 4, 5, 6, 7, 8, 9]))), (.tup3 5), (.tup3 5), (.vk .any), .aggv, (.vk (.is (.int .i64 5))), (.cell w18.drew.heap.size), (.vk .any), (.vk .any), (.vk (.is (.int .i64 5)))] : List PK)).getD i (.vk .any)).holds) (PxS w18.drew) 10 16 83 [5, 7, 9, 11] (by kernel_rfl) (by kernel_rfl) (fun _ _ _ _ h hE => PK.mono h hE) ?_ ?_ ?_ ?_
 all_goals generalize w18.drew = w19 at *
 all_goals have Ew19 := LH hE
 all_goals clear hE
 ·intro i hi hne
  match i, hi, hne with
  | 0, _, _ =>
   refine ⟨fun o ho x wx hE hF hd => ?_⟩
   obtain rfl := Option.some.inj ho
   clear ho
   have ef1 : x 1 = (.pointer (some ⟨w2.heap.size, 0, none⟩)) := hF 1 (by decide +kernel)
   clear hd hF
   have HX := LH hE
   clear hE
   rw [show actOf _ x = pxA x from rfl, pxA]
   rw [ef1]
   clear ef1
   have zu1 := World.block_lt_of_cell? _ _ (Ku1.out.ext (ET Ew4.out (ET E2_2.out (ET Ew6.out (ET E3_5.out (ET Ew8.out (ET Ew9.out (ET Ew10.out (ET Ew11.out (ET Ew12.out (ET Ew13.out (ET Ew14.out (ET Ew15.out (ET Ew16.out (ET Ew17.out (ET Ew18.out (ET Ew19.out HX.out))))))))))))))))).1
   have xu10 := (Ku1.out.ext (ET Ew4.out (ET E2_2.out (ET Ew6.out (ET E3_5.out (ET Ew8.out (ET Ew9.out (ET Ew10.out (ET Ew11.out (ET Ew12.out (ET Ew13.out (ET Ew14.out (ET Ew15.out (ET Ew16.out (ET Ew17.out (ET Ew18.out (ET Ew19.out HX.out))))))))))))))))).1
   have xu11 := (Ku1.out.ext (ET Ew4.out (ET E2_2.out (ET Ew6.out (ET E3_5.out (ET Ew8.out (ET Ew9.out (ET Ew10.out (ET Ew11.out (ET Ew12.out (ET Ew13.out (ET Ew14.out (ET Ew15.out (ET Ew16.out (ET Ew17.out (ET Ew18.out (ET Ew19.out HX.out))))))))))))))))).2.1
   have xu12 := (Ku1.out.ext (ET Ew4.out (ET E2_2.out (ET Ew6.out (ET E3_5.out (ET Ew8.out (ET Ew9.out (ET Ew10.out (ET Ew11.out (ET Ew12.out (ET Ew13.out (ET Ew14.out (ET Ew15.out (ET Ew16.out (ET Ew17.out (ET Ew18.out (ET Ew19.out HX.out))))))))))))))))).2.2.1
   have xu13 := (Ku1.out.ext (ET Ew4.out (ET E2_2.out (ET Ew6.out (ET E3_5.out (ET Ew8.out (ET Ew9.out (ET Ew10.out (ET Ew11.out (ET Ew12.out (ET Ew13.out (ET Ew14.out (ET Ew15.out (ET Ew16.out (ET Ew17.out (ET Ew18.out (ET Ew19.out HX.out))))))))))))))))).2.2.2.1
   have xu14 := (Ku1.out.ext (ET Ew4.out (ET E2_2.out (ET Ew6.out (ET E3_5.out (ET Ew8.out (ET Ew9.out (ET Ew10.out (ET Ew11.out (ET Ew12.out (ET Ew13.out (ET Ew14.out (ET Ew15.out (ET Ew16.out (ET Ew17.out (ET Ew18.out (ET Ew19.out HX.out))))))))))))))))).2.2.2.2.1
   have xu15 := (Ku1.out.ext (ET Ew4.out (ET E2_2.out (ET Ew6.out (ET E3_5.out (ET Ew8.out (ET Ew9.out (ET Ew10.out (ET Ew11.out (ET Ew12.out (ET Ew13.out (ET Ew14.out (ET Ew15.out (ET Ew16.out (ET Ew17.out (ET Ew18.out (ET Ew19.out HX.out))))))))))))))))).2.2.2.2.2.1
   have xu16 := (Ku1.out.ext (ET Ew4.out (ET E2_2.out (ET Ew6.out (ET E3_5.out (ET Ew8.out (ET Ew9.out (ET Ew10.out (ET Ew11.out (ET Ew12.out (ET Ew13.out (ET Ew14.out (ET Ew15.out (ET Ew16.out (ET Ew17.out (ET Ew18.out (ET Ew19.out HX.out))))))))))))))))).2.2.2.2.2.2.1
   have xu17 := (Ku1.out.ext (ET Ew4.out (ET E2_2.out (ET Ew6.out (ET E3_5.out (ET Ew8.out (ET Ew9.out (ET Ew10.out (ET Ew11.out (ET Ew12.out (ET Ew13.out (ET Ew14.out (ET Ew15.out (ET Ew16.out (ET Ew17.out (ET Ew18.out (ET Ew19.out HX.out))))))))))))))))).2.2.2.2.2.2.2.1
   have xu18 := (Ku1.out.ext (ET Ew4.out (ET E2_2.out (ET Ew6.out (ET E3_5.out (ET Ew8.out (ET Ew9.out (ET Ew10.out (ET Ew11.out (ET Ew12.out (ET Ew13.out (ET Ew14.out (ET Ew15.out (ET Ew16.out (ET Ew17.out (ET Ew18.out (ET Ew19.out HX.out))))))))))))))))).2.2.2.2.2.2.2.2
   go_wp2_with fail
   exact ⟨ux.val A1 2 2, rfl, Ext.rfl', rfl⟩
  | 1, _, _ =>
   refine ⟨fun o ho x wx hE hF hd => ?_⟩
   obtain rfl := Option.some.inj ho
   clear ho
   clear hd hF
   have HX := LH hE
   clear hE
   rw [show actOf _ x = pxA x from rfl, pxA]
   go_wp2_with fail
   exact ⟨.slice (some ⟨wx.heap.size, 0, none⟩) 9 9, rfl, Ext.al Ext.rfl' _, ⟨_, 9, rfl, ints_lit wx [1, 2, 3, 4, 5, 6, 7, 8, 9] 2⟩⟩
  | 2, _, _ =>
   refine ⟨fun o ho x wx hE hF hd => ?_⟩
   obtain rfl := Option.some.inj ho
   clear ho
   obtain ⟨Ai, ci, eq79, qi⟩ : (PK.holds (.vk (.ints [1, 2, 3, 4, 5, 6, 7, 8, 9])) (x 79) wx) := hd 1 (by decide +kernel) _ _ rfl rfl
   have Hqi := LH qi
   clear qi
   clear hd hF
   have HX := LH hE
   clear hE
   rw [show actOf _ x = pxA x from rfl, pxA]
   rw [eq79]
   clear eq79
   simp only [List.length_cons, List.length_nil, Nat.zero_add, Nat.reduceAdd] at Hqi ⊢
   go_wp2_with fail
   refine (pwhole_any Ai 9 ci [1, 2, 3, 4, 5, 6, 7, 8, 9] wx Hqi.out (by omega) (by decide)).mono ?_
   rintro e wy ⟨PX, cX, rfl, hP, hE⟩
   have HP := LH hP
   clear hP
   go_wp2_with fail
   exact ⟨.slice PX 9 cX, rfl, hE, ⟨PX, cX, rfl, HP.out⟩⟩
  | 3, _, _ =>
   refine ⟨fun o ho x wx hE hF hd => ?_⟩
   obtain rfl := Option.some.inj ho
   clear ho
   have ed78 : x 78 = (ux.val A1 2 2) := hd 0 (by decide +kernel) _ _ rfl rfl
   obtain ⟨Pi, ci, eq80, qi⟩ : (PK.holds (.vk (.qs (ratsOf [1, 2, 3, 4, 5, 6, 7, 8, 9]))) (x 80) wx) := hd 2 (by decide +kernel) _ _ rfl rfl
   have Hqi := LH qi
   clear qi
   clear hd hF
   have HX := LH hE
   clear hE
   rw [show actOf _ x = pxA x from rfl, pxA]
   rw [ed78, eq80]
   clear ed78 eq80
   rw [show (ratsOf [1, 2, 3, 4, 5, 6, 7, 8, 9]).length = 9 from rfl]
   go_wp2_with fail
   refine (best_any ux A1 2 2 Pi 9 ci (ratsOf [1, 2, 3, 4, 5, 6, 7, 8, 9]) wx (HS1.out.below (ET Ew3.out (ET Ew4.out (ET E2_2.out (ET Ew6.out (ET E3_5.out (ET Ew8.out (ET Ew9.out (ET Ew10.out (ET Ew11.out (ET Ew12.out (ET Ew13.out (ET Ew14.out (ET Ew15.out (ET Ew16.out (ET Ew17.out (ET Ew18.out (ET Ew19.out HX.out)))))))))))))))))) (by simp [maxLen]) Hqi.out (by simp [maxLen])).mono ?_
   rintro e wy ⟨v0, sq, Aq, nq, cq, tq, Bq, mq, dq, rfl, -, hE, -⟩
   rw [HERR.out.2.2.2.2.2.1]
   go_wp2_with fail
   exact ⟨_, rfl, hE, ⟨_, _, _, _, _, _, _, _, _, rfl⟩⟩
  | 4, _, _ =>
   refine ⟨fun o ho x wx hE hF hd => ?_⟩
   obtain rfl := Option.some.inj ho
   clear ho
   obtain ⟨v0, sq, Aq, nq, cq, tq, Bq, mq, dq, eq81⟩ : (PK.holds (.tup3 5) (x 81) wx) := hd 3 (by decide +kernel) _ _ rfl rfl
   clear hd hF
   have HX := LH hE
   clear hE
   rw [show actOf _ x = pxA x from rfl, pxA]
   rw [eq81]
   clear eq81
   go_wp2_with fail
   exact ⟨_, rfl, Ext.rfl', ⟨_, _, _, _, _, _, _, _, _, rfl⟩⟩
  | 5, _, _ =>
   refine ⟨fun o ho x wx hE hF hd => ?_⟩
   obtain rfl := Option.some.inj ho
   clear ho
   obtain ⟨v0, sq, Aq, nq, cq, tq, Bq, mq, dq, eq77⟩ : (PK.holds (.tup3 5) (x 77) wx) := hd 4 (by decide +kernel) _ _ rfl rfl
   clear hd hF
   have HX := LH hE
   clear hE
   rw [show actOf _ x = pxA x from rfl, pxA]
   rw [eq77]
   clear eq77
   go_wp2_with fail
   exact ⟨_, rfl, Ext.rfl', trivial⟩
  | 6, _, _ =>
   refine ⟨fun o ho x wx hE hF hd => ?_⟩
   obtain rfl := Option.some.inj ho
   clear ho
   obtain ⟨v0, sq, Aq, nq, cq, tq, Bq, mq, dq, eq77⟩ : (PK.holds (.tup3 5) (x 77) wx) := hd 4 (by decide +kernel) _ _ rfl rfl
   clear hd hF
   have HX := LH hE
   clear hE
   rw [show actOf _ x = pxA x from rfl, pxA]
   rw [eq77]
   clear eq77
   go_wp2_with fail
   exact ⟨_, rfl, Ext.rfl', ⟨_, _, _, _, _, _, _, _, rfl⟩⟩
  | 7, _, _ =>
   refine ⟨fun o ho x wx hE hF hd => ?_⟩
   obtain rfl := Option.some.inj ho
   clear ho
   obtain ⟨v0, sq, Aq, nq, cq, tq, Bq, mq, dq, eq77⟩ : (PK.holds (.tup3 5) (x 77) wx) := hd 4 (by decide +kernel) _ _ rfl rfl
   clear hd hF
   have HX := LH hE
   clear hE
   rw [show actOf _ x = pxA x from rfl, pxA]
   rw [eq77]
   clear eq77
   go_wp2_with fail
   exact ⟨_, rfl, Ext.rfl', rfl⟩
  | 8, _, _ =>
   refine ⟨fun o ho x wx hE hF hd => ?_⟩
   obtain rfl := Option.some.inj ho
   clear ho
   clear hd hF
   have HX := LH hE
   clear hE
   rw [show actOf _ x = pxA x from rfl, pxA]
   have hsz := HX.out.size
   have hcn := Cell4.new wx _ rfl (.bool false) (.slice none 0 0) (.bool false) (.slice none 0 0) 29
   have HCN := LH hcn
   clear hcn
   go_wp2_with fail
   exact ⟨_, rfl, Ext.al Ext.rfl' _, _, rfl, hsz, HCN.out, 29, heap_alloc_new _ _⟩
  | 9, _, _ =>
   refine ⟨fun o ho x wx hE hF hd => ?_⟩
   obtain rfl := Option.some.inj ho
   clear ho
   clear hd hF
   have HX := LH hE
   clear hE
   rw [show actOf _ x = pxA x from rfl, pxA]
   go_wp2_with fail
   exact ⟨_, rfl, Ext.rfl', trivial⟩
  | 10, _, h => exact absurd rfl h
  | 11, _, _ =>
   refine ⟨fun o ho x wx hE hF hd => ?_⟩
   obtain rfl := Option.some.inj ho
   clear ho
   have ed84 : x 84 = (.int .i64 5) := hd 7 (by decide +kernel) _ _ rfl rfl
   clear hd hF
   have HX := LH hE
   clear hE
   rw [show actOf _ x = pxA x from rfl, pxA]
   rw [ed84]
   clear ed84
   go_wp2_with fail
   exact ⟨_, rfl, Ext.rfl', rfl⟩
  | q + 12, h, _ => exact absurd h (by simp)
 ·intro i hi
  simp only [List.mem_cons, List.not_mem_nil, or_false] at hi
  rcases hi with rfl | rfl | rfl | rfl
  ·skip
   refine ⟨fun o ho x wp wx hE hF hd => ?_⟩
   obtain rfl := Option.some.inj ho
   clear ho
   obtain ⟨v0, sq, Aq, nq, cq, tq, Bq, mq, dq, eq77⟩ : (PK.holds (.tup3 5) (x 77) wp) := hd 4 (by decide +kernel) _ _ rfl rfl
   clear hd hF
   have HX := LH hE
   clear hE
   rw [show actOf _ x = pxA x from rfl, pxA]
   rw [eq77]
   clear eq77
   go_wp2_with fail
   exact ⟨_, rfl, rfl, trivial⟩
  ·skip
   refine ⟨fun o ho x wp wx hE hF hd => ?_⟩
   obtain rfl := Option.some.inj ho
   clear ho
   obtain ⟨v0, sq, Aq, nq, cq, tq, Bq, mq, dq, eq77⟩ : (PK.holds (.tup3 5) (x 77) wp) := hd 4 (by decide +kernel) _ _ rfl rfl
   clear hd hF
   have HX := LH hE
   clear hE
   rw [show actOf _ x = pxA x from rfl, pxA]
   rw [eq77]
   clear eq77
   go_wp2_with fail
   exact ⟨_, rfl, rfl, rfl⟩
  ·skip
   refine ⟨fun o ho x wp wx hE hF hd => ?_⟩
   obtain rfl := Option.some.inj ho
   clear ho
   clear hd hF
   have HX := LH hE
   clear hE
   rw [show actOf _ x = pxA x from rfl, pxA]
   go_wp2_with fail
   exact ⟨_, rfl, rfl, trivial⟩
  ·skip
   refine ⟨fun o ho x wp wx hE hF hd => ?_⟩
   obtain rfl := Option.some.inj ho
   clear ho
   have ed84 : x 84 = (.int .i64 5) := hd 7 (by decide +kernel) _ _ rfl rfl
   clear hd hF
   have HX := LH hE
   clear hE
   rw [show actOf _ x = pxA x from rfl, pxA]
   rw [ed84]
   clear ed84
   go_wp2_with fail
   exact ⟨_, rfl, rfl, rfl⟩
 ·refine ⟨fun o ho x wx hE hF hd => ?_⟩
  obtain rfl := Option.some.inj ho
  clear ho
  obtain ⟨gz, eqc, hgz, hcz, tz, hbz⟩ : (PK.cell w19.heap.size).holds (x 16) wx := hd 8 _ _ (by decide) rfl rfl
  obtain ⟨sq, Aq, nq, cq, tq, Bq, mq, dq, eqq⟩ : PK.holds .aggv (x 83) wx := hd 6 _ _ (by decide) rfl rfl
  clear hd hF
  have HX := LH hE
  have HGE := LH hgz
  have HCZ := LH hcz
  have HBZ := LH hbz
  clear hE hgz hcz hbz
  have HPE : Hid (x 16 = .pointer (some ⟨gz, 0, none⟩)) := eqc
  obtain ⟨yc, hyc⟩ : ∃ v, x 16 = v := ⟨_, rfl⟩
  obtain ⟨yq, hyq⟩ : ∃ v, x 83 = v := ⟨_, rfl⟩
  rw [show actOf _ x = pxA x from rfl, pxA]
  rw [eqc, eqq]
  clear eqc eqq hyc hyq
  go_wp2_with (
   refine wpList_storeV rfl 29 _ _ rfl gz 0 [.bool sq, .slice Aq nq cq, .bool tq, .slice Bq mq dq] rfl rfl (there4 HCZ.out) (by kernel_rfl) rfl ?_
   intro wS hp
   have HPV := LH hp
   clear hp)
  exact ⟨rfl, gz, rfl, HPV.out.touch.ext w19 HX.out HGE.out⟩
 intro x wp w20 hE hF hV hS
 have ez17 : x 17 = .int .i64 5 := hV 11 _ _ rfl rfl
 have ez1 : x 1 = (.pointer (some ⟨w2.heap.size, 0, none⟩)) := hF 1 (by decide +kernel)
 have ez2 : x 2 = (.pointer (some ⟨g2, 0, none⟩)) := hF 2 (by decide +kernel)
 have ez3 : x 3 = (.pointer (some ⟨g3, 0, none⟩)) := hF 3 (by decide +kernel)
 have ez6 : x 6 = (.int .i64 4) := hF 6 (by decide +kernel)
 have ez8 : x 8 = (.int .i64 4) := hF 8 (by decide +kernel)
 have ez10 : x 10 = (.int .i64 5) := hF 10 (by decide +kernel)
 have ez12 : x 12 = (.int .i64 3) := hF 12 (by decide +kernel)
 have ez14 : x 14 = (.int .i64 3) := hF 14 (by decide +kernel)
 obtain ⟨gz, -, hE3⟩ := hS
 clear hV hF hE
 have Ew20 := LH hE3
 clear hE3
 rw [show actOf _ x = pxA x from rfl, pxA, ez17, ez1, ez2, ez3, ez6, ez8, ez10, ez12, ez14]
 clear ez17 ez1 ez2 ez3 ez6 ez8 ez10 ez12 ez14
 go_upto_region 14 with (fail)
 go_wp2_with fail
 refine (best_any U.six none 0 0 none 0 0 [] w20 ⟨rfl, fun h => absurd h (by decide)⟩ (by simp [maxLen]) ⟨rfl, fun h => absurd h (by decide)⟩ (by simp [maxLen])).mono ?_
 rintro e w21 ⟨vg, sg, Ag, ng, cg, tg, Bg, mg, dg, rfl, -, hE, -⟩
 have Ew21 := LH hE
 clear hE
 rw [HERR.out.2.2.2.2.2.2]
 go_upto_region 15 with (fail)
 have hE : Ext w21 (w21.alloc (.cells #[.bool sg, .slice Ag ng cg, .bool tg, .slice Bg mg dg] 29)) := Ext.al Ext.rfl' _
 generalize w21.alloc (.cells #[.bool sg, .slice Ag ng cg, .bool tg, .slice Bg mg dg] 29) = w22 at *
 have Ew22 := LH hE
 clear hE
 have hE : Ext w22 w22.drew := Ext.rfl'.drew
 refine wp_region_freeS (fun i => ((([(.vk (.is (ux.val A1 2 2))), (.vk (.ints [2, 4, 1])), (.vk (.qs (ratsOf [2, 4, 1]))), (.vk (.bools [false, true, true])), (.tup (ux.profV (ratsOf [2, 4, 1]) [false, true, true]) 0), (.tup (ux.profV (ratsOf [2, 4, 1]) [false, true, true]) 0), (.vk (.q (ux.profV (ratsOf [2, 4, 1]) [false, true, true]))), (.vk (.is (.int .i64 0))), (.cell w22.drew.heap.size), (.vk .any), (.vk (.is (.int .i64 0)))] : List PK)).getD i (.vk .any)).holds) (PxT w22.drew ((8 : Int) : Rat)) 9 21 97 [7, 10] (by kernel_rfl) (by kernel_rfl) (fun _ _ _ _ h hE => PK.mono h hE) ?_ ?_ ?_ ?_
 all_goals generalize w22.drew = w23 at *
 all_goals have Ew23 := LH hE
 all_goals clear hE
 ·intro i hi hne
  match i, hi, hne with
  | 0, _, _ =>
   refine ⟨fun o ho x wx hE hF hd => ?_⟩
   obtain rfl := Option.some.inj ho
   clear ho
   have ef1 : x 1 = (.pointer (some ⟨w2.heap.size, 0, none⟩)) := hF 1 (by decide +kernel)
   clear hd hF
   have HX := LH hE
   clear hE
   rw [show actOf _ x = pxA x from rfl, pxA]
   rw [ef1]
   clear ef1
   have zu1 := World.block_lt_of_cell? _ _ (Ku1.out.ext (ET Ew4.out (ET E2_2.out (ET Ew6.out (ET E3_5.out (ET Ew8.out (ET Ew9.out (ET Ew10.out (ET Ew11.out (ET Ew12.out (ET Ew13.out (ET Ew14.out (ET Ew15.out (ET Ew16.out (ET Ew17.out (ET Ew18.out (ET Ew19.out (ET Ew20.out (ET Ew21.out (ET Ew22.out (ET Ew23.out HX.out))))))))))))))))))))).1
   have xu10 := (Ku1.out.ext (ET Ew4.out (ET E2_2.out (ET Ew6.out (ET E3_5.out (ET Ew8.out (ET Ew9.out (ET Ew10.out (ET Ew11.out (ET Ew12.out (ET Ew13.out (ET Ew14.out (ET Ew15.out (ET Ew16.out (ET Ew17.out (ET Ew18.out (ET Ew19.out (ET Ew20.out (ET Ew21.out (ET Ew22.out (ET Ew23.out HX.out))))))))))))))))))))).1
   have xu11 := (Ku1.out.ext (ET Ew4.out (ET E2_2.out (ET Ew6.out (ET E3_5.out (ET Ew8.out (ET Ew9.out (ET Ew10.out (ET Ew11.out (ET Ew12.out (ET Ew13.out (ET Ew14.out (ET Ew15.out (ET Ew16.out (ET Ew17.out (ET Ew18.out (ET Ew19.out (ET Ew20.out (ET Ew21.out (ET Ew22.out (ET Ew23.out HX.out))))))))))))))))))))).2.1
   have xu12 := (Ku1.out.ext (ET Ew4.out (ET E2_2.out (ET Ew6.out (ET E3_5.out (ET Ew8.out (ET Ew9.out (ET Ew10.out (ET Ew11.out (ET Ew12.out (ET Ew13.out (ET Ew14.out (ET Ew15.out (ET Ew16.out (ET Ew17.out (ET Ew18.out (ET Ew19.out (ET Ew20.out (ET Ew21.out (ET Ew22.out (ET Ew23.out HX.out))))))))))))))))))))).2.2.1
   have xu13 := (Ku1.out.ext (ET Ew4.out (ET E2_2.out (ET Ew6.out (ET E3_5.out (ET Ew8.out (ET Ew9.out (ET Ew10.out (ET Ew11.out (ET Ew12.out (ET Ew13.out (ET Ew14.out (ET Ew15.out (ET Ew16.out (ET Ew17.out (ET Ew18.out (ET Ew19.out (ET Ew20.out (ET Ew21.out (ET Ew22.out (ET Ew23.out HX.out))))))))))))))))))))).2.2.2.1
   have xu14 := (Ku1.out.ext (ET Ew4.out (ET E2_2.out (ET Ew6.out (ET E3_5.out (ET Ew8.out (ET Ew9.out (ET Ew10.out (ET Ew11.out (ET Ew12.out (ET Ew13.out (ET Ew14.out (ET Ew15.out (ET Ew16.out (ET Ew17.out (ET Ew18.out (ET Ew19.out (ET Ew20.out (ET Ew21.out (ET Ew22.out (ET Ew23.out HX.out))))))))))))))))))))).2.2.2.2.1
   have xu15 := (Ku1.out.ext (ET Ew4.out (ET E2_2.out (ET Ew6.out (ET E3_5.out (ET Ew8.out (ET Ew9.out (ET Ew10.out (ET Ew11.out (ET Ew12.out (ET Ew13.out (ET Ew14.out (ET Ew15.out (ET Ew16.out (ET Ew17.out (ET Ew18.out (ET Ew19.out (ET Ew20.out (ET Ew21.out (ET Ew22.out (ET Ew23.out HX.out))))))))))))))))))))).2.2.2.2.2.1
   have xu16 := (Ku1.out.ext (ET Ew4.out (ET E2_2.out (ET Ew6.out (ET E3_5.out (ET Ew8.out (ET Ew9.out (ET Ew10.out (ET Ew11.out (ET Ew12.out (ET Ew13.out (ET Ew14.out (ET Ew15.out (ET Ew16.out (ET Ew17.out (ET Ew18.out (ET Ew19.out (ET Ew20.out (ET Ew21.out (ET Ew22.out (ET Ew23.out HX.out))))))))))))))))))))).2.2.2.2.2.2.1
   have xu17 := (Ku1.out.ext (ET Ew4.out (ET E2_2.out (ET Ew6.out (ET E3_5.out (ET Ew8.out (ET Ew9.out (ET Ew10.out (ET Ew11.out (ET Ew12.out (ET Ew13.out (ET Ew14.out (ET Ew15.out (ET Ew16.out (ET Ew17.out (ET Ew18.out (ET Ew19.out (ET Ew20.out (ET Ew21.out (ET Ew22.out (ET Ew23.out HX.out))))))))))))))))))))).2.2.2.2.2.2.2.1
   have xu18 := (Ku1.out.ext (ET Ew4.out (ET E2_2.out (ET Ew6.out (ET E3_5.out (ET Ew8.out (ET Ew9.out (ET Ew10.out (ET Ew11.out (ET Ew12.out (ET Ew13.out (ET Ew14.out (ET Ew15.out (ET Ew16.out (ET Ew17.out (ET Ew18.out (ET Ew19.out (ET Ew20.out (ET Ew21.out (ET Ew22.out (ET Ew23.out HX.out))))))))))))))))))))).2.2.2.2.2.2.2.2
   go_wp2_with fail
   exact ⟨ux.val A1 2 2, rfl, Ext.rfl', rfl⟩
  | 1, _, _ =>
   refine ⟨fun o ho x wx hE hF hd => ?_⟩
   obtain rfl := Option.some.inj ho
   clear ho
   clear hd hF
   have HX := LH hE
   clear hE
   rw [show actOf _ x = pxA x from rfl, pxA]
   go_wp2_with fail
   exact ⟨.slice (some ⟨wx.heap.size, 0, none⟩) 3 3, rfl, Ext.al Ext.rfl' _, ⟨_, 3, rfl, ints_lit wx [2, 4, 1] 2⟩⟩
  | 2, _, _ =>
   refine ⟨fun o ho x wx hE hF hd => ?_⟩
   obtain rfl := Option.some.inj ho
   clear ho
   obtain ⟨Ai, ci, eq93, qi⟩ : (PK.holds (.vk (.ints [2, 4, 1])) (x 93) wx) := hd 1 (by decide +kernel) _ _ rfl rfl
   have Hqi := LH qi
   clear qi
   clear hd hF
   have HX := LH hE
   clear hE
   rw [show actOf _ x = pxA x from rfl, pxA]
   rw [eq93]
   clear eq93
   simp only [List.length_cons, List.length_nil, Nat.zero_add, Nat.reduceAdd] at Hqi ⊢
   go_wp2_with fail
   refine (pwhole_any Ai 3 ci [2, 4, 1] wx Hqi.out (by omega) (by decide)).mono ?_
   rintro e wy ⟨PX, cX, rfl, hP, hE⟩
   have HP := LH hP
   clear hP
   go_wp2_with fail
   exact ⟨.slice PX 3 cX, rfl, hE, ⟨PX, cX, rfl, HP.out⟩⟩
  | 3, _, _ =>
   refine ⟨fun o ho x wx hE hF hd => ?_⟩
   obtain rfl := Option.some.inj ho
   clear ho
   clear hd hF
   have HX := LH hE
   clear hE
   rw [show actOf _ x = pxA x from rfl, pxA]
   go_wp2_with fail
   exact ⟨.slice (some ⟨wx.heap.size, 0, none⟩) 3 3, rfl, Ext.al Ext.rfl' _, ⟨_, 3, rfl, bools_lit wx [false, true, true] 4⟩⟩
  | 4, _, _ =>
   refine ⟨fun o ho x wx hE hF hd => ?_⟩
   obtain rfl := Option.some.inj ho
   clear ho
   have ed92 : x 92 = (ux.val A1 2 2) := hd 0 (by decide +kernel) _ _ rfl rfl
   obtain ⟨Pi, ci, eq94, qi⟩ : (PK.holds (.vk (.qs (ratsOf [2, 4, 1]))) (x 94) wx) := hd 2 (by decide +kernel) _ _ rfl rfl
   have Hqi := LH qi
   clear qi
   obtain ⟨Ri, di, eq95, ri⟩ : (PK.holds (.vk (.bools [false, true, true])) (x 95) wx) := hd 3 (by decide +kernel) _ _ rfl rfl
   have Hri := LH ri
   clear ri
   clear hd hF
   have HX := LH hE
   clear hE
   rw [show actOf _ x = pxA x from rfl, pxA]
   rw [ed92, eq94, eq95]
   clear ed92 eq94 eq95
   rw [show (ratsOf [2, 4, 1]).length = 3 from rfl]
   rw [show ([false, true, true] : List Bool).length = 3 from rfl]
   go_wp2_with fail
   refine (profit_any ux A1 2 2 Pi 3 ci (ratsOf [2, 4, 1]) Ri 3 di [false, true, true] wx (HS1.out.below (ET Ew3.out (ET Ew4.out (ET E2_2.out (ET Ew6.out (ET E3_5.out (ET Ew8.out (ET Ew9.out (ET Ew10.out (ET Ew11.out (ET Ew12.out (ET Ew13.out (ET Ew14.out (ET Ew15.out (ET Ew16.out (ET Ew17.out (ET Ew18.out (ET Ew19.out (ET Ew20.out (ET Ew21.out (ET Ew22.out (ET Ew23.out HX.out)))))))))))))))))))))) (by simp [maxLen]) Hqi.out (by simp [maxLen]) Hri.out (by simp [maxLen])).mono ?_
   rintro e wy ⟨sq, Aq, nq, cq, tq, Bq, mq, dq, rfl, hQ, hE⟩
   rw [HPRF.out.1]
   have HQ := LH (hQ.base (Nat.zero_le _))
   clear hQ
   go_wp2_with fail
   exact ⟨_, rfl, hE, ⟨_, _, _, _, _, _, _, _, rfl, HQ.out⟩⟩
  | 5, _, _ =>
   refine ⟨fun o ho x wx hE hF hd => ?_⟩
   obtain rfl := Option.some.inj ho
   clear ho
   obtain ⟨sq, Aq, nq, cq, tq, Bq, mq, dq, eq96, hq⟩ : (PK.holds (.tup (ux.profV (ratsOf [2, 4, 1]) [false, true, true]) 0) (x 96) wx) := hd 4 (by decide +kernel) _ _ rfl rfl
   have Hhq := LH hq
   clear hq
   clear hd hF
   have HX := LH hE
   clear hE
   rw [show actOf _ x = pxA x from rfl, pxA]
   rw [eq96]
   clear eq96
   go_wp2_with fail
   exact ⟨_, rfl, Ext.rfl', ⟨_, _, _, _, _, _, _, _, rfl, Hhq.out⟩⟩
  | 6, _, _ =>
   refine ⟨fun o ho x wx hE hF hd => ?_⟩
   obtain rfl := Option.some.inj ho
   clear ho
   obtain ⟨sq, Aq, nq, cq, tq, Bq, mq, dq, eq91, hq⟩ : (PK.holds (.tup (ux.profV (ratsOf [2, 4, 1]) [false, true, true]) 0) (x 91) wx) := hd 5 (by decide +kernel) _ _ rfl rfl
   have Hhq := LH hq
   clear hq
   clear hd hF
   have HX := LH hE
   clear hE
   rw [show actOf _ x = pxA x from rfl, pxA]
   rw [eq91]
   clear eq91
   go_wp2_with fail
   exact ⟨_, rfl, Ext.rfl', ⟨_, _, _, _, _, _, _, _, rfl, Hhq.out⟩⟩
  | 7, _, _ =>
   refine ⟨fun o ho x wx hE hF hd => ?_⟩
   obtain rfl := Option.some.inj ho
   clear ho
   obtain ⟨sq, Aq, nq, cq, tq, Bq, mq, dq, eq91, hq⟩ : (PK.holds (.tup (ux.profV (ratsOf [2, 4, 1]) [false, true, true]) 0) (x 91) wx) := hd 5 (by decide +kernel) _ _ rfl rfl
   have Hhq := LH hq
   clear hq
   clear hd hF
   have HX := LH hE
   clear hE
   rw [show actOf _ x = pxA x from rfl, pxA]
   rw [eq91]
   clear eq91
   go_wp2_with fail
   exact ⟨_, rfl, Ext.rfl', rfl⟩
  | 8, _, _ =>
   refine ⟨fun o ho x wx hE hF hd => ?_⟩
   obtain rfl := Option.some.inj ho
   clear ho
   clear hd hF
   have HX := LH hE
   clear hE
   rw [show actOf _ x = pxA x from rfl, pxA]
   have hsz := HX.out.size
   have hcn := Cell4.new wx _ rfl (.bool false) (.slice none 0 0) (.bool false) (.slice none 0 0) 29
   have HCN := LH hcn
   clear hcn
   go_wp2_with fail
   exact ⟨_, rfl, Ext.al Ext.rfl' _, _, rfl, hsz, HCN.out, 29, heap_alloc_new _ _⟩
  | 9, _, h => exact absurd rfl h
  | 10, _, _ =>
   refine ⟨fun o ho x wx hE hF hd => ?_⟩
   obtain rfl := Option.some.inj ho
   clear ho
   have ed98 : x 98 = (.int .i64 0) := hd 7 (by decide +kernel) _ _ rfl rfl
   clear hd hF
   have HX := LH hE
   clear hE
   rw [show actOf _ x = pxA x from rfl, pxA]
   rw [ed98]
   clear ed98
   go_wp2_with fail
   exact ⟨_, rfl, Ext.rfl', rfl⟩
  | q + 11, h, _ => exact absurd h (by simp)
 ·intro i hi
  simp only [List.mem_cons, List.not_mem_nil, or_false] at hi
  rcases hi with rfl | rfl
  ·skip
   refine ⟨fun o ho x wp wx hE hF hd => ?_⟩
   obtain rfl := Option.some.inj ho
   clear ho
   obtain ⟨sq, Aq, nq, cq, tq, Bq, mq, dq, eq91, hq⟩ : (PK.holds (.tup (ux.profV (ratsOf [2, 4, 1]) [false, true, true]) 0) (x 91) wp) := hd 5 (by decide +kernel) _ _ rfl rfl
   have Hhq := LH hq
   clear hq
   clear hd hF
   have HX := LH hE
   clear hE
   rw [show actOf _ x = pxA x from rfl, pxA]
   rw [eq91]
   clear eq91
   go_wp2_with fail
   exact ⟨_, rfl, rfl, rfl⟩
  ·skip
   refine ⟨fun o ho x wp wx hE hF hd => ?_⟩
   obtain rfl := Option.some.inj ho
   clear ho
   have ed98 : x 98 = (.int .i64 0) := hd 7 (by decide +kernel) _ _ rfl rfl
   clear hd hF
   have HX := LH hE
   clear hE
   rw [show actOf _ x = pxA x from rfl, pxA]
   rw [ed98]
   clear ed98
   go_wp2_with fail
   exact ⟨_, rfl, rfl, rfl⟩
 ·refine ⟨fun o ho x wx hE hF hd => ?_⟩
  obtain rfl := Option.some.inj ho
  clear ho
  obtain ⟨gz, eqc, hgz, hcz, tz, hbz⟩ : (PK.cell w23.heap.size).holds (x 21) wx := hd 8 _ _ (by decide) rfl rfl
  obtain ⟨sq, Aq, nq, cq, tq, Bq, mq, dq, eqq, hqq⟩ : PK.holds (.vk (.q (ux.profV (ratsOf [2, 4, 1]) [false, true, true]))) (x 97) wx := hd 6 _ _ (by decide) rfl rfl
  clear hd hF
  have HX := LH hE
  have HGE := LH hgz
  have HCZ := LH hcz
  have HBZ := LH hbz
  clear hE hgz hcz hbz
  have HQQ := LH hqq
  clear hqq
  have HPE : Hid (x 21 = .pointer (some ⟨gz, 0, none⟩)) := eqc
  obtain ⟨yc, hyc⟩ : ∃ v, x 21 = v := ⟨_, rfl⟩
  obtain ⟨yq, hyq⟩ : ∃ v, x 97 = v := ⟨_, rfl⟩
  rw [show actOf _ x = pxA x from rfl, pxA]
  rw [eqc, eqq]
  clear eqc eqq hyc hyq
  go_wp2_with (
   refine wpList_storeV rfl 29 _ _ rfl gz 0 [.bool sq, .slice Aq nq cq, .bool tq, .slice Bq mq dq] rfl rfl (there4 HCZ.out) (by kernel_rfl) rfl ?_
   intro wS hp
   have HPV := LH hp
   clear hp)
  exact ⟨rfl, gz, _, _, _, _, _, _, _, _, rfl, HPV.out.touch.ext w23 HX.out HGE.out, put4c HCZ.out HPV.out, by rw [show (8 : Rat) = ((8 : Int) : Rat) from by decide +kernel, ← HPRF.out.2]; exact HQQ.out.touch HPV.out.touch ⟨words_off HBZ.out HQQ.out.1.2.1, words_off HBZ.out HQQ.out.2.2.1⟩⟩
 intro x wp w24 hE hF hV hS
 have ez22 : x 22 = .int .i64 0 := hV 10 _ _ rfl rfl
 have ez1 : x 1 = (.pointer (some ⟨w2.heap.size, 0, none⟩)) := hF 1 (by decide +kernel)
 have ez2 : x 2 = (.pointer (some ⟨g2, 0, none⟩)) := hF 2 (by decide +kernel)
 have ez3 : x 3 = (.pointer (some ⟨g3, 0, none⟩)) := hF 3 (by decide +kernel)
 have ez6 : x 6 = (.int .i64 4) := hF 6 (by decide +kernel)
 have ez8 : x 8 = (.int .i64 4) := hF 8 (by decide +kernel)
 have ez10 : x 10 = (.int .i64 5) := hF 10 (by decide +kernel)
 have ez12 : x 12 = (.int .i64 3) := hF 12 (by decide +kernel)
 have ez14 : x 14 = (.int .i64 3) := hF 14 (by decide +kernel)
 have ez17 : x 17 = (.int .i64 5) := hF 17 (by decide +kernel)
 have ez20 : x 20 = (.int .i64 1) := hF 20 (by decide +kernel)
 obtain ⟨gs, ss, As, ns, cs, ts, Bs, ms, ds, ez21, hE3, hC, hQ⟩ := hS
 have HCS := LH hC
 have HQS := LH hQ
 clear hV hF hE hC hQ
 have Ew24 := LH hE3
 clear hE3
 rw [show actOf _ x = pxA x from rfl, pxA, ez22, ez1, ez2, ez3, ez6, ez8, ez10, ez12, ez14, ez17, ez20, ez21]
 clear ez22 ez1 ez2 ez3 ez6 ez8 ez10 ez12 ez14 ez17 ez20 ez21
 go_upto_region 16 with (fail)
 have hE : Ext w24 w24.drew := Ext.rfl'.drew
 refine wp_region_free (fun i => ((([(.vk (.is (.int .i64 4))), (.vk (.is (.bool true))), (.vk (.is (.bool true))), (.vk (.is (.int .i64 4))), (.vk (.is (.bool true))), (.vk (.is (.bool true))), (.vk (.is (.bool true))), (.vk (.is (.int .i64 5))), (.vk (.is (.bool true))), (.vk (.is (.bool true))), (.vk (.is (.bool true))), (.vk (.is (.int .i64 3))), (.vk (.is (.bool true))), (.vk (.is (.bool true))), (.vk (.is (.bool true))), (.vk (.is (.int .i64 3))), (.vk (.is (.bool true))), (.vk (.is (.bool true))), (.vk (.is (.bool true))), (.vk (.is (.int .i64 5))), (.vk (.is (.bool true))), (.vk (.is (.bool true))), (.vk (.is (.bool true))), (.vk (.is (.int .i64 1))), (.vk (.is (.bool true))), (.vk (.is (.bool true))), (.vk (.is (.bool true))), (.vk (.is (.int .i64 0))), (.vk (.is (.bool true))), (.vk (.is (.bool true))), (.vk (.is (.bool true))), (.vk (.q ((8 : Int) : Rat))), (.vk (.q ((8 : Int) : Rat))), (.vk (.is (.bool true))), (.vk (.is (.bool true))), (.vk (.is (.bool true))), (.vk (.is (ux.val A1 2 2))), (.vk (.is (.bool true))), (.vk (.is (.bool true))), (.vk (.is (.bool true))), (.vk (.is (uo.val A2 2 2))), (.vk (.ints [(-9), (-9), (-9)])), (.vk (.qs (ratsOf [(-9), (-9), (-9)]))), (.vk (.bools [true, true, false])), (.vk (.is (.bool true))), (.vk (.is (.bool true))), (.vk (.is (.bool true))), (.vk (.is (uf.val A3 2 2))), (.vk (.ints [1, 1, 1])), (.vk (.qs (ratsOf [1, 1, 1]))), (.vk (.bools [false, false, false])), (.vk (.is (.bool true))), (.vk (.is (.bool true))), (.vk (.is (.bool true))), (.vk (.is (uf.val A3 2 2))), (.vk (.ints [2, 0, 2])), (.vk (.qs (ratsOf [2, 0, 2]))), (.vk (.bools [true, false, true])), (.vk (.is (.bool true))), (.vk (.is (.bool true))), (.vk (.is (.bool true))), (.vk (.is (ux.val A1 2 2))), (.vk (.q (qOf 7 2))), (.vk (.q (qOf 23 2))), (.vk (.is (.bool true))), (.vk (.is (.bool true))), (.vk (.is (.bool true))), (.vk (.is (ux.val A1 2 2))), (.vk (.q (qOf 1 2))), (.vk (.q ((-4 : Int) : Rat))), (.vk (.is (.bool true))), (.vk (.is (.bool true))), (.vk (.is (.bool true))), (.vk (.is (uf.val A3 2 2))), (.vk (.q ((1 : Int) : Rat))), (.vk (.q (0 : Rat))), (.vk (.is (.bool true))), (.vk (.is (.bool true))), (.vk (.is (.bool true))), (.vk (.is (ux.val A1 2 2))), (.vk (.ints [9, 9, 9, 9, 9, 9, 9, 9])), (.vk (.qs (ratsOf [9, 9, 9, 9, 9, 9, 9, 9]))), (.vk (.bools [true, true, true, true, true, true, true, true])), (.vk (.is (.bool true))), (.vk (.is (.bool true))), (.vk (.is (.bool true)))] : List PK)).getD i (.vk .any)).holds) (by kernel_rfl) (by kernel_rfl) (fun _ _ _ _ h hE => PK.mono h hE) ?_ ?_
 all_goals generalize w24.drew = w25 at *
 all_goals have Ew25 := LH hE
 all_goals clear hE
 ·intro i hi
  match i, hi with
  | 0, _ =>
   refine ⟨fun o ho x wx hE hF hd => ?_⟩
   obtain rfl := Option.some.inj ho
   clear ho
   have ef6 : x 6 = (.int .i64 4) := hF 6 (by decide +kernel)
   clear hd hF
   have HX := LH hE
   clear hE
   rw [show actOf _ x = pxA x from rfl, pxA]
   rw [ef6]
   clear ef6
   go_wp2_with fail
   exact ⟨_, rfl, Ext.rfl', rfl⟩
  | 1, _ =>
   refine ⟨fun o ho x wx hE hF hd => ?_⟩
   obtain rfl := Option.some.inj ho
   clear ho
   have ed99 : x 99 = (.int .i64 4) := hd 0 (by decide +kernel) _ _ rfl rfl
   clear hd hF
   have HX := LH hE
   clear hE
   rw [show actOf _ x = pxA x from rfl, pxA]
   rw [ed99]
   clear ed99
   go_wp2_with fail
   exact ⟨_, rfl, Ext.rfl', rfl⟩
  | 2, _ =>
   refine ⟨fun o ho x wx hE hF hd => ?_⟩
   obtain rfl := Option.some.inj ho
   clear ho
   have ed100 : x 100 = (.bool true) := hd 1 (by decide +kernel) _ _ rfl rfl
   clear hd hF
   have HX := LH hE
   clear hE
   rw [show actOf _ x = pxA x from rfl, pxA]
   rw [ed100]
   clear ed100
   go_wp2_with fail
   exact ⟨_, rfl, Ext.rfl', rfl⟩
  | 3, _ =>
   refine ⟨fun o ho x wx hE hF hd => ?_⟩
   obtain rfl := Option.some.inj ho
   clear ho
   have ef8 : x 8 = (.int .i64 4) := hF 8 (by decide +kernel)
   have ed101 : x 101 = (.bool true) := hd 2 (by decide +kernel) _ _ rfl rfl
   clear hd hF
   have HX := LH hE
   clear hE
   rw [show actOf _ x = pxA x from rfl, pxA]
   rw [ef8, ed101]
   clear ef8 ed101
   go_wp2_with fail
   exact ⟨_, rfl, Ext.rfl', rfl⟩
  | 4, _ =>
   refine ⟨fun o ho x wx hE hF hd => ?_⟩
   obtain rfl := Option.some.inj ho
   clear ho
   have ed102 : x 102 = (.int .i64 4) := hd 3 (by decide +kernel) _ _ rfl rfl
   have ed101 : x 101 = (.bool true) := hd 2 (by decide +kernel) _ _ rfl rfl
   clear hd hF
   have HX := LH hE
   clear hE
   rw [show actOf _ x = pxA x from rfl, pxA]
   rw [ed102, ed101]
   clear ed102 ed101
   go_wp2_with fail
   exact ⟨_, rfl, Ext.rfl', rfl⟩
  | 5, _ =>
   refine ⟨fun o ho x wx hE hF hd => ?_⟩
   obtain rfl := Option.some.inj ho
   clear ho
   have ed101 : x 101 = (.bool true) := hd 2 (by decide +kernel) _ _ rfl rfl
   have ed103 : x 103 = (.bool true) := hd 4 (by decide +kernel) _ _ rfl rfl
   clear hd hF
   have HX := LH hE
   clear hE
   rw [show actOf _ x = pxA x from rfl, pxA]
   rw [ed101, ed103]
   clear ed101 ed103
   go_wp2_with fail
   exact ⟨_, rfl, Ext.rfl', rfl⟩
  | 6, _ =>
   refine ⟨fun o ho x wx hE hF hd => ?_⟩
   obtain rfl := Option.some.inj ho
   clear ho
   have ed104 : x 104 = (.bool true) := hd 5 (by decide +kernel) _ _ rfl rfl
   clear hd hF
   have HX := LH hE
   clear hE
   rw [show actOf _ x = pxA x from rfl, pxA]
   rw [ed104]
   clear ed104
   go_wp2_with fail
   exact ⟨_, rfl, Ext.rfl', rfl⟩
  | 7, _ =>
   refine ⟨fun o ho x wx hE hF hd => ?_⟩
   obtain rfl := Option.some.inj ho
   clear ho
   have ef10 : x 10 = (.int .i64 5) := hF 10 (by decide +kernel)
   have ed105 : x 105 = (.bool true) := hd 6 (by decide +kernel) _ _ rfl rfl
   clear hd hF
   have HX := LH hE
   clear hE
   rw [show actOf _ x = pxA x from rfl, pxA]
   rw [ef10, ed105]
   clear ef10 ed105
   go_wp2_with fail
   exact ⟨_, rfl, Ext.rfl', rfl⟩
  | 8, _ =>
   refine ⟨fun o ho x wx hE hF hd => ?_⟩
   obtain rfl := Option.some.inj ho
   clear ho
   have ed106 : x 106 = (.int .i64 5) := hd 7 (by decide +kernel) _ _ rfl rfl
   have ed105 : x 105 = (.bool true) := hd 6 (by decide +kernel) _ _ rfl rfl
   clear hd hF
   have HX := LH hE
   clear hE
   rw [show actOf _ x = pxA x from rfl, pxA]
   rw [ed106, ed105]
   clear ed106 ed105
   go_wp2_with fail
   exact ⟨_, rfl, Ext.rfl', rfl⟩
  | 9, _ =>
   refine ⟨fun o ho x wx hE hF hd => ?_⟩
   obtain rfl := Option.some.inj ho
   clear ho
   have ed105 : x 105 = (.bool true) := hd 6 (by decide +kernel) _ _ rfl rfl
   have ed107 : x 107 = (.bool true) := hd 8 (by decide +kernel) _ _ rfl rfl
   clear hd hF
   have HX := LH hE
   clear hE
   rw [show actOf _ x = pxA x from rfl, pxA]
   rw [ed105, ed107]
   clear ed105 ed107
   go_wp2_with fail
   exact ⟨_, rfl, Ext.rfl', rfl⟩
  | 10, _ =>
   refine ⟨fun o ho x wx hE hF hd => ?_⟩
   obtain rfl := Option.some.inj ho
   clear ho
   have ed108 : x 108 = (.bool true) := hd 9 (by decide +kernel) _ _ rfl rfl
   clear hd hF
   have HX := LH hE
   clear hE
   rw [show actOf _ x = pxA x from rfl, pxA]
   rw [ed108]
   clear ed108
   go_wp2_with fail
   exact ⟨_, rfl, Ext.rfl', rfl⟩
  | 11, _ =>
   refine ⟨fun o ho x wx hE hF hd => ?_⟩
   obtain rfl := Option.some.inj ho
   clear ho
   have ef12 : x 12 = (.int .i64 3) := hF 12 (by decide +kernel)
   have ed109 : x 109 = (.bool true) := hd 10 (by decide +kernel) _ _ rfl rfl
   clear hd hF
   have HX := LH hE
   clear hE
   rw [show actOf _ x = pxA x from rfl, pxA]
   rw [ef12, ed109]
   clear ef12 ed109
   go_wp2_with fail
   exact ⟨_, rfl, Ext.rfl', rfl⟩
  | 12, _ =>
   refine ⟨fun o ho x wx hE hF hd => ?_⟩
   obtain rfl := Option.some.inj ho
   clear ho
   have ed110 : x 110 = (.int .i64 3) := hd 11 (by decide +kernel) _ _ rfl rfl
   have ed109 : x 109 = (.bool true) := hd 10 (by decide +kernel) _ _ rfl rfl
   clear hd hF
   have HX := LH hE
   clear hE
   rw [show actOf _ x = pxA x from rfl, pxA]
   rw [ed110, ed109]
   clear ed110 ed109
   go_wp2_with fail
   exact ⟨_, rfl, Ext.rfl', rfl⟩
  | 13, _ =>
   refine ⟨fun o ho x wx hE hF hd => ?_⟩
   obtain rfl := Option.some.inj ho
   clear ho
   have ed109 : x 109 = (.bool true) := hd 10 (by decide +kernel) _ _ rfl rfl
   have ed111 : x 111 = (.bool true) := hd 12 (by decide +kernel) _ _ rfl rfl
   clear hd hF
   have HX := LH hE
   clear hE
   rw [show actOf _ x = pxA x from rfl, pxA]
   rw [ed109, ed111]
   clear ed109 ed111
   go_wp2_with fail
   exact ⟨_, rfl, Ext.rfl', rfl⟩
  | 14, _ =>
   refine ⟨fun o ho x wx hE hF hd => ?_⟩
   obtain rfl := Option.some.inj ho
   clear ho
   have ed112 : x 112 = (.bool true) := hd 13 (by decide +kernel) _ _ rfl rfl
   clear hd hF
   have HX := LH hE
   clear hE
   rw [show actOf _ x = pxA x from rfl, pxA]
   rw [ed112]
   clear ed112
   go_wp2_with fail
   exact ⟨_, rfl, Ext.rfl', rfl⟩
  | 15, _ =>
   refine ⟨fun o ho x wx hE hF hd => ?_⟩
   obtain rfl := Option.some.inj ho
   clear ho
   have ef14 : x 14 = (.int .i64 3) := hF 14 (by decide +kernel)
   have ed113 : x 113 = (.bool true) := hd 14 (by decide +kernel) _ _ rfl rfl
   clear hd hF
   have HX := LH hE
   clear hE
   rw [show actOf _ x = pxA x from rfl, pxA]
   rw [ef14, ed113]
   clear ef14 ed113
   go_wp2_with fail
   exact ⟨_, rfl, Ext.rfl', rfl⟩
  | 16, _ =>
   refine ⟨fun o ho x wx hE hF hd => ?_⟩
   obtain rfl := Option.some.inj ho
   clear ho
   have ed114 : x 114 = (.int .i64 3) := hd 15 (by decide +kernel) _ _ rfl rfl
   have ed113 : x 113 = (.bool true) := hd 14 (by decide +kernel) _ _ rfl rfl
   clear hd hF
   have HX := LH hE
   clear hE
   rw [show actOf _ x = pxA x from rfl, pxA]
   rw [ed114, ed113]
   clear ed114 ed113
   go_wp2_with fail
   exact ⟨_, rfl, Ext.rfl', rfl⟩
  | 17, _ =>
   refine ⟨fun o ho x wx hE hF hd => ?_⟩
   obtain rfl := Option.some.inj ho
   clear ho
   have ed113 : x 113 = (.bool true) := hd 14 (by decide +kernel) _ _ rfl rfl
   have ed115 : x 115 = (.bool true) := hd 16 (by decide +kernel) _ _ rfl rfl
   clear hd hF
   have HX := LH hE
   clear hE
   rw [show actOf _ x = pxA x from rfl, pxA]
   rw [ed113, ed115]
   clear ed113 ed115
   go_wp2_with fail
   exact ⟨_, rfl, Ext.rfl', rfl⟩
  | 18, _ =>
   refine ⟨fun o ho x wx hE hF hd => ?_⟩
   obtain rfl := Option.some.inj ho
   clear ho
   have ed116 : x 116 = (.bool true) := hd 17 (by decide +kernel) _ _ rfl rfl
   clear hd hF
   have HX := LH hE
   clear hE
   rw [show actOf _ x = pxA x from rfl, pxA]
   rw [ed116]
   clear ed116
   go_wp2_with fail
   exact ⟨_, rfl, Ext.rfl', rfl⟩
  | 19, _ =>
   refine ⟨fun o ho x wx hE hF hd => ?_⟩
   obtain rfl := Option.some.inj ho
   clear ho
   have ef17 : x 17 = (.int .i64 5) := hF 17 (by decide +kernel)
   have ed117 : x 117 = (.bool true) := hd 18 (by decide +kernel) _ _ rfl rfl
   clear hd hF
   have HX := LH hE
   clear hE
   rw [show actOf _ x = pxA x from rfl, pxA]
   rw [ef17, ed117]
   clear ef17 ed117
   go_wp2_with fail
   exact ⟨_, rfl, Ext.rfl', rfl⟩
  | 20, _ =>
   refine ⟨fun o ho x wx hE hF hd => ?_⟩
   obtain rfl := Option.some.inj ho
   clear ho
   have ed118 : x 118 = (.int .i64 5) := hd 19 (by decide +kernel) _ _ rfl rfl
   have ed117 : x 117 = (.bool true) := hd 18 (by decide +kernel) _ _ rfl rfl
   clear hd hF
   have HX := LH hE
   clear hE
   rw [show actOf _ x = pxA x from rfl, pxA]
   rw [ed118, ed117]
   clear ed118 ed117
   go_wp2_with fail
   exact ⟨_, rfl, Ext.rfl', rfl⟩
  | 21, _ =>
   refine ⟨fun o ho x wx hE hF hd => ?_⟩
   obtain rfl := Option.some.inj ho
   clear ho
   have ed117 : x 117 = (.bool true) := hd 18 (by decide +kernel) _ _ rfl rfl
   have ed119 : x 119 = (.bool true) := hd 20 (by decide +kernel) _ _ rfl rfl
   clear hd hF
   have HX := LH hE
   clear hE
   rw [show actOf _ x = pxA x from rfl, pxA]
   rw [ed117, ed119]
   clear ed117 ed119
   go_wp2_with fail
   exact ⟨_, rfl, Ext.rfl', rfl⟩
  | 22, _ =>
   refine ⟨fun o ho x wx hE hF hd => ?_⟩
   obtain rfl := Option.some.inj ho
   clear ho
   have ed120 : x 120 = (.bool true) := hd 21 (by decide +kernel) _ _ rfl rfl
   clear hd hF
   have HX := LH hE
   clear hE
   rw [show actOf _ x = pxA x from rfl, pxA]
   rw [ed120]
   clear ed120
   go_wp2_with fail
   exact ⟨_, rfl, Ext.rfl', rfl⟩
  | 23, _ =>
   refine ⟨fun o ho x wx hE hF hd => ?_⟩
   obtain rfl := Option.some.inj ho
   clear ho
   have ef20 : x 20 = (.int .i64 1) := hF 20 (by decide +kernel)
   have ed121 : x 121 = (.bool true) := hd 22 (by decide +kernel) _ _ rfl rfl
   clear hd hF
   have HX := LH hE
   clear hE
   rw [show actOf _ x = pxA x from rfl, pxA]
   rw [ef20, ed121]
   clear ef20 ed121
   go_wp2_with fail
   exact ⟨_, rfl, Ext.rfl', rfl⟩
  | 24, _ =>
   refine ⟨fun o ho x wx hE hF hd => ?_⟩
   obtain rfl := Option.some.inj ho
   clear ho
   have ed122 : x 122 = (.int .i64 1) := hd 23 (by decide +kernel) _ _ rfl rfl
   have ed121 : x 121 = (.bool true) := hd 22 (by decide +kernel) _ _ rfl rfl
   clear hd hF
   have HX := LH hE
   clear hE
   rw [show actOf _ x = pxA x from rfl, pxA]
   rw [ed122, ed121]
   clear ed122 ed121
   go_wp2_with fail
   exact ⟨_, rfl, Ext.rfl', rfl⟩
  | 25, _ =>
   refine ⟨fun o ho x wx hE hF hd => ?_⟩
   obtain rfl := Option.some.inj ho
   clear ho
   have ed121 : x 121 = (.bool true) := hd 22 (by decide +kernel) _ _ rfl rfl
   have ed123 : x 123 = (.bool true) := hd 24 (by decide +kernel) _ _ rfl rfl
   clear hd hF
   have HX := LH hE
   clear hE
   rw [show actOf _ x = pxA x from rfl, pxA]
   rw [ed121, ed123]
   clear ed121 ed123
   go_wp2_with fail
   exact ⟨_, rfl, Ext.rfl', rfl⟩
  | 26, _ =>
   refine ⟨fun o ho x wx hE hF hd => ?_⟩
   obtain rfl := Option.some.inj ho
   clear ho
   have ed124 : x 124 = (.bool true) := hd 25 (by decide +kernel) _ _ rfl rfl
   clear hd hF
   have HX := LH hE
   clear hE
   rw [show actOf _ x = pxA x from rfl, pxA]
   rw [ed124]
   clear ed124
   go_wp2_with fail
   exact ⟨_, rfl, Ext.rfl', rfl⟩
  | 27, _ =>
   refine ⟨fun o ho x wx hE hF hd => ?_⟩
   obtain rfl := Option.some.inj ho
   clear ho
   have ef22 : x 22 = (.int .i64 0) := hF 22 (by decide +kernel)
   have ed125 : x 125 = (.bool true) := hd 26 (by decide +kernel) _ _ rfl rfl
   clear hd hF
   have HX := LH hE
   clear hE
   rw [show actOf _ x = pxA x from rfl, pxA]
   rw [ef22, ed125]
   clear ef22 ed125
   go_wp2_with fail
   exact ⟨_, rfl, Ext.rfl', rfl⟩
  | 28, _ =>
   refine ⟨fun o ho x wx hE hF hd => ?_⟩
   obtain rfl := Option.some.inj ho
   clear ho
   have ed126 : x 126 = (.int .i64 0) := hd 27 (by decide +kernel) _ _ rfl rfl
   have ed125 : x 125 = (.bool true) := hd 26 (by decide +kernel) _ _ rfl rfl
   clear hd hF
   have HX := LH hE
   clear hE
   rw [show actOf _ x = pxA x from rfl, pxA]
   rw [ed126, ed125]
   clear ed126 ed125
   go_wp2_with fail
   exact ⟨_, rfl, Ext.rfl', rfl⟩
  | 29, _ =>
   refine ⟨fun o ho x wx hE hF hd => ?_⟩
   obtain rfl := Option.some.inj ho
   clear ho
   have ed125 : x 125 = (.bool true) := hd 26 (by decide +kernel) _ _ rfl rfl
   have ed127 : x 127 = (.bool true) := hd 28 (by decide +kernel) _ _ rfl rfl
   clear hd hF
   have HX := LH hE
   clear hE
   rw [show actOf _ x = pxA x from rfl, pxA]
   rw [ed125, ed127]
   clear ed125 ed127
   go_wp2_with fail
   exact ⟨_, rfl, Ext.rfl', rfl⟩
  | 30, _ =>
   refine ⟨fun o ho x wx hE hF hd => ?_⟩
   obtain rfl := Option.some.inj ho
   clear ho
   have ed128 : x 128 = (.bool true) := hd 29 (by decide +kernel) _ _ rfl rfl
   clear hd hF
   have HX := LH hE
   clear hE
   rw [show actOf _ x = pxA x from rfl, pxA]
   rw [ed128]
   clear ed128
   go_wp2_with fail
   exact ⟨_, rfl, Ext.rfl', rfl⟩
  | 31, _ =>
   refine ⟨fun o ho x wx hE hF hd => ?_⟩
   obtain rfl := Option.some.inj ho
   clear ho
   have ef21 : x 21 = (.pointer (some ⟨gs, 0, none⟩)) := hF 21 (by decide +kernel)
   have ed129 : x 129 = (.bool true) := hd 30 (by decide +kernel) _ _ rfl rfl
   clear hd hF
   have HX := LH hE
   clear hE
   rw [show actOf _ x = pxA x from rfl, pxA]
   rw [ef21, ed129]
   clear ef21 ed129
   obtain ⟨⟨l0, l1, l2, l3⟩, -, lz⟩ := (HCS.out.ext (ET Ew25.out HX.out))
   have HQS2 := LH (HQS.out.ext (ET Ew25.out HX.out))
   go_wp2_with fail
   exact ⟨_, rfl, Ext.rfl', ⟨_, _, _, _, _, _, _, _, rfl, HQS2.out⟩⟩
  | 32, _ =>
   refine ⟨fun o ho x wx hE hF hd => ?_⟩
   obtain rfl := Option.some.inj ho
   clear ho
   have ed129 : x 129 = (.bool true) := hd 30 (by decide +kernel) _ _ rfl rfl
   clear hd hF
   have HX := LH hE
   clear hE
   rw [show actOf _ x = pxA x from rfl, pxA]
   rw [ed129]
   clear ed129
   go_wp2_with fail
   refine (rint_any 8 wx ⟨by omega, by omega⟩).mono ?_
   rintro e wy ⟨sq, Aq, nq, cq, tq, Bq, mq, dq, rfl, hQ, hE⟩
   have HQ := LH (holds_q hQ)
   clear hQ
   go_wp2_with fail
   exact ⟨.agg #[.bool sq, .slice Aq nq cq, .bool tq, .slice Bq mq dq], rfl, hE, HQ.out⟩
  | 33, _ =>
   refine ⟨fun o ho x wx hE hF hd => ?_⟩
   obtain rfl := Option.some.inj ho
   clear ho
   have ed129 : x 129 = (.bool true) := hd 30 (by decide +kernel) _ _ rfl rfl
   obtain ⟨si, Ai, ni, ci, ti, Bi, mi, di, eq130, qi⟩ : (PK.holds (.vk (.q ((8 : Int) : Rat))) (x 130) wx) := hd 31 (by decide +kernel) _ _ rfl rfl
   have Hqi := LH qi
   clear qi
   obtain ⟨sj, Aj, nj, cj, tj, Bj, mj, dj, eq131, qj⟩ : (PK.holds (.vk (.q ((8 : Int) : Rat))) (x 131) wx) := hd 32 (by decide +kernel) _ _ rfl rfl
   have Hqj := LH qj
   clear qj
   clear hd hF
   have HX := LH hE
   clear hE
   rw [show actOf _ x = pxA x from rfl, pxA]
   rw [ed129, eq130, eq131]
   clear ed129 eq130 eq131
   go_wp2_with fail
   refine (ris_any si Ai ni ci ti Bi mi di _ sj Aj nj cj tj Bj mj dj _ _ _ wx Hqi.out Hqj.out (Nat.le_trans (Hqi.out.len (sz_int (z := 8) (k := 2) (by omega) (by decide))).1 (by omega)) (Nat.le_trans (Hqi.out.len (sz_int (z := 8) (k := 2) (by omega) (by decide))).2 (by omega))).mono ?_
   rintro e wy ⟨rfl, hE⟩
   rw [decide_eq_true rfl]
   go_wp2_with fail
   exact ⟨.bool true, rfl, hE, rfl⟩
  | 34, _ =>
   refine ⟨fun o ho x wx hE hF hd => ?_⟩
   obtain rfl := Option.some.inj ho
   clear ho
   have ed129 : x 129 = (.bool true) := hd 30 (by decide +kernel) _ _ rfl rfl
   have ed132 : x 132 = (.bool true) := hd 33 (by decide +kernel) _ _ rfl rfl
   clear hd hF
   have HX := LH hE
   clear hE
   rw [show actOf _ x = pxA x from rfl, pxA]
   rw [ed129, ed132]
   clear ed129 ed132
   go_wp2_with fail
   exact ⟨_, rfl, Ext.rfl', rfl⟩
  | 35, _ =>
   refine ⟨fun o ho x wx hE hF hd => ?_⟩
   obtain rfl := Option.some.inj ho
   clear ho
   have ed133 : x 133 = (.bool true) := hd 34 (by decide +kernel) _ _ rfl rfl
   clear hd hF
   have HX := LH hE
   clear hE
   rw [show actOf _ x = pxA x from rfl, pxA]
   rw [ed133]
   clear ed133
   go_wp2_with fail
   exact ⟨_, rfl, Ext.rfl', rfl⟩
  | 36, _ =>
   refine ⟨fun o ho x wx hE hF hd => ?_⟩
   obtain rfl := Option.some.inj ho
   clear ho
   have ef1 : x 1 = (.pointer (some ⟨w2.heap.size, 0, none⟩)) := hF 1 (by decide +kernel)
   have ed134 : x 134 = (.bool true) := hd 35 (by decide +kernel) _ _ rfl rfl
   clear hd hF
   have HX := LH hE
   clear hE
   rw [show actOf _ x = pxA x from rfl, pxA]
   rw [ef1, ed134]
   clear ef1 ed134
   have zu1 := World.block_lt_of_cell? _ _ (Ku1.out.ext (ET Ew4.out (ET E2_2.out (ET Ew6.out (ET E3_5.out (ET Ew8.out (ET Ew9.out (ET Ew10.out (ET Ew11.out (ET Ew12.out (ET Ew13.out (ET Ew14.out (ET Ew15.out (ET Ew16.out (ET Ew17.out (ET Ew18.out (ET Ew19.out (ET Ew20.out (ET Ew21.out (ET Ew22.out (ET Ew23.out (ET Ew24.out (ET Ew25.out HX.out))))))))))))))))))))))).1
   have xu10 := (Ku1.out.ext (ET Ew4.out (ET E2_2.out (ET Ew6.out (ET E3_5.out (ET Ew8.out (ET Ew9.out (ET Ew10.out (ET Ew11.out (ET Ew12.out (ET Ew13.out (ET Ew14.out (ET Ew15.out (ET Ew16.out (ET Ew17.out (ET Ew18.out (ET Ew19.out (ET Ew20.out (ET Ew21.out (ET Ew22.out (ET Ew23.out (ET Ew24.out (ET Ew25.out HX.out))))))))))))))))))))))).1
   have xu11 := (Ku1.out.ext (ET Ew4.out (ET E2_2.out (ET Ew6.out (ET E3_5.out (ET Ew8.out (ET Ew9.out (ET Ew10.out (ET Ew11.out (ET Ew12.out (ET Ew13.out (ET Ew14.out (ET Ew15.out (ET Ew16.out (ET Ew17.out (ET Ew18.out (ET Ew19.out (ET Ew20.out (ET Ew21.out (ET Ew22.out (ET Ew23.out (ET Ew24.out (ET Ew25.out HX.out))))))))))))))))))))))).2.1
   have xu12 := (Ku1.out.ext (ET Ew4.out (ET E2_2.out (ET Ew6.out (ET E3_5.out (ET Ew8.out (ET Ew9.out (ET Ew10.out (ET Ew11.out (ET Ew12.out (ET Ew13.out (ET Ew14.out (ET Ew15.out (ET Ew16.out (ET Ew17.out (ET Ew18.out (ET Ew19.out (ET Ew20.out (ET Ew21.out (ET Ew22.out (ET Ew23.out (ET Ew24.out (ET Ew25.out HX.out))))))))))))))))))))))).2.2.1
   have xu13 := (Ku1.out.ext (ET Ew4.out (ET E2_2.out (ET Ew6.out (ET E3_5.out (ET Ew8.out (ET Ew9.out (ET Ew10.out (ET Ew11.out (ET Ew12.out (ET Ew13.out (ET Ew14.out (ET Ew15.out (ET Ew16.out (ET Ew17.out (ET Ew18.out (ET Ew19.out (ET Ew20.out (ET Ew21.out (ET Ew22.out (ET Ew23.out (ET Ew24.out (ET Ew25.out HX.out))))))))))))))))))))))).2.2.2.1
   have xu14 := (Ku1.out.ext (ET Ew4.out (ET E2_2.out (ET Ew6.out (ET E3_5.out (ET Ew8.out (ET Ew9.out (ET Ew10.out (ET Ew11.out (ET Ew12.out (ET Ew13.out (ET Ew14.out (ET Ew15.out (ET Ew16.out (ET Ew17.out (ET Ew18.out (ET Ew19.out (ET Ew20.out (ET Ew21.out (ET Ew22.out (ET Ew23.out (ET Ew24.out (ET Ew25.out HX.out))))))))))))))))))))))).2.2.2.2.1
   have xu15 := (Ku1.out.ext (ET Ew4.out (ET E2_2.out (ET Ew6.out (ET E3_5.out (ET Ew8.out (ET Ew9.out (ET Ew10.out (ET Ew11.out (ET Ew12.out (ET Ew13.out (ET Ew14.out (ET Ew15.out (ET Ew16.out (ET Ew17.out (ET Ew18.out (ET Ew19.out (ET Ew20.out (ET Ew21.out (ET Ew22.out (ET Ew23.out (ET Ew24.out (ET Ew25.out HX.out))))))))))))))))))))))).2.2.2.2.2.1
   have xu16 := (Ku1.out.ext (ET Ew4.out (ET E2_2.out (ET Ew6.out (ET E3_5.out (ET Ew8.out (ET Ew9.out (ET Ew10.out (ET Ew11.out (ET Ew12.out (ET Ew13.out (ET Ew14.out (ET Ew15.out (ET Ew16.out (ET Ew17.out (ET Ew18.out (ET Ew19.out (ET Ew20.out (ET Ew21.out (ET Ew22.out (ET Ew23.out (ET Ew24.out (ET Ew25.out HX.out))))))))))))))))))))))).2.2.2.2.2.2.1
   have xu17 := (Ku1.out.ext (ET Ew4.out (ET E2_2.out (ET Ew6.out (ET E3_5.out (ET Ew8.out (ET Ew9.out (ET Ew10.out (ET Ew11.out (ET Ew12.out (ET Ew13.out (ET Ew14.out (ET Ew15.out (ET Ew16.out (ET Ew17.out (ET Ew18.out (ET Ew19.out (ET Ew20.out (ET Ew21.out (ET Ew22.out (ET Ew23.out (ET Ew24.out (ET Ew25.out HX.out))))))))))))))))))))))).2.2.2.2.2.2.2.1
   have xu18 := (Ku1.out.ext (ET Ew4.out (ET E2_2.out (ET Ew6.out (ET E3_5.out (ET Ew8.out (ET Ew9.out (ET Ew10.out (ET Ew11.out (ET Ew12.out (ET Ew13.out (ET Ew14.out (ET Ew15.out (ET Ew16.out (ET Ew17.out (ET Ew18.out (ET Ew19.out (ET Ew20.out (ET Ew21.out (ET Ew22.out (ET Ew23.out (ET Ew24.out (ET Ew25.out HX.out))))))))))))))))))))))).2.2.2.2.2.2.2.2
   go_wp2_with fail
   exact ⟨ux.val A1 2 2, rfl, Ext.rfl', rfl⟩
  | 37, _ =>
   refine ⟨fun o ho x wx hE hF hd => ?_⟩
   obtain rfl := Option.some.inj ho
   clear ho
   have ed134 : x 134 = (.bool true) := hd 35 (by decide +kernel) _ _ rfl rfl
   have ed135 : x 135 = (ux.val A1 2 2) := hd 36 (by decide +kernel) _ _ rfl rfl
   clear hd hF
   have HX := LH hE
   clear hE
   rw [show actOf _ x = pxA x from rfl, pxA]
   rw [ed134, ed135]
   clear ed134 ed135
   go_wp2_with fail
   refine (goes_any ux A1 2 2 none 0 0 (ratsOf []) 0 none 0 0 [] wx (HS1.out.below (ET Ew3.out (ET Ew4.out (ET E2_2.out (ET Ew6.out (ET E3_5.out (ET Ew8.out (ET Ew9.out (ET Ew10.out (ET Ew11.out (ET Ew12.out (ET Ew13.out (ET Ew14.out (ET Ew15.out (ET Ew16.out (ET Ew17.out (ET Ew18.out (ET Ew19.out (ET Ew20.out (ET Ew21.out (ET Ew22.out (ET Ew23.out (ET Ew24.out (ET Ew25.out HX.out)))))))))))))))))))))))) (by simp [maxLen]) ⟨rfl, fun h => absurd h (by decide)⟩ (by omega) ⟨rfl, fun h => absurd h (by decide)⟩ (by simp [maxLen]) HOKS.out.1 (by omega) HG1.out.1 HG1.out.2).mono ?_
   rintro e wy ⟨rfl, hE⟩
   go_wp2_with fail
   exact ⟨.bool true, rfl, hE, rfl⟩
  | 38, _ =>
   refine ⟨fun o ho x wx hE hF hd => ?_⟩
   obtain rfl := Option.some.inj ho
   clear ho
   have ed134 : x 134 = (.bool true) := hd 35 (by decide +kernel) _ _ rfl rfl
   have ed136 : x 136 = (.bool true) := hd 37 (by decide +kernel) _ _ rfl rfl
   clear hd hF
   have HX := LH hE
   clear hE
   rw [show actOf _ x = pxA x from rfl, pxA]
   rw [ed134, ed136]
   clear ed134 ed136
   go_wp2_with fail
   exact ⟨_, rfl, Ext.rfl', rfl⟩
  | 39, _ =>
   refine ⟨fun o ho x wx hE hF hd => ?_⟩
   obtain rfl := Option.some.inj ho
   clear ho
   have ed137 : x 137 = (.bool true) := hd 38 (by decide +kernel) _ _ rfl rfl
   clear hd hF
   have HX := LH hE
   clear hE
   rw [show actOf _ x = pxA x from rfl, pxA]
   rw [ed137]
   clear ed137
   go_wp2_with fail
   exact ⟨_, rfl, Ext.rfl', rfl⟩
  | 40, _ =>
   refine ⟨fun o ho x wx hE hF hd => ?_⟩
   obtain rfl := Option.some.inj ho
   clear ho
   have ef2 : x 2 = (.pointer (some ⟨g2, 0, none⟩)) := hF 2 (by decide +kernel)
   have ed138 : x 138 = (.bool true) := hd 39 (by decide +kernel) _ _ rfl rfl
   clear hd hF
   have HX := LH hE
   clear hE
   rw [show actOf _ x = pxA x from rfl, pxA]
   rw [ef2, ed138]
   clear ef2 ed138
   have zu2 := World.block_lt_of_cell? _ _ (Ku2w.out.ext (ET Ew6.out (ET E3_5.out (ET Ew8.out (ET Ew9.out (ET Ew10.out (ET Ew11.out (ET Ew12.out (ET Ew13.out (ET Ew14.out (ET Ew15.out (ET Ew16.out (ET Ew17.out (ET Ew18.out (ET Ew19.out (ET Ew20.out (ET Ew21.out (ET Ew22.out (ET Ew23.out (ET Ew24.out (ET Ew25.out HX.out))))))))))))))))))))).1
   have xu20 := (Ku2w.out.ext (ET Ew6.out (ET E3_5.out (ET Ew8.out (ET Ew9.out (ET Ew10.out (ET Ew11.out (ET Ew12.out (ET Ew13.out (ET Ew14.out (ET Ew15.out (ET Ew16.out (ET Ew17.out (ET Ew18.out (ET Ew19.out (ET Ew20.out (ET Ew21.out (ET Ew22.out (ET Ew23.out (ET Ew24.out (ET Ew25.out HX.out))))))))))))))))))))).1
   have xu21 := (Ku2w.out.ext (ET Ew6.out (ET E3_5.out (ET Ew8.out (ET Ew9.out (ET Ew10.out (ET Ew11.out (ET Ew12.out (ET Ew13.out (ET Ew14.out (ET Ew15.out (ET Ew16.out (ET Ew17.out (ET Ew18.out (ET Ew19.out (ET Ew20.out (ET Ew21.out (ET Ew22.out (ET Ew23.out (ET Ew24.out (ET Ew25.out HX.out))))))))))))))))))))).2.1
   have xu22 := (Ku2w.out.ext (ET Ew6.out (ET E3_5.out (ET Ew8.out (ET Ew9.out (ET Ew10.out (ET Ew11.out (ET Ew12.out (ET Ew13.out (ET Ew14.out (ET Ew15.out (ET Ew16.out (ET Ew17.out (ET Ew18.out (ET Ew19.out (ET Ew20.out (ET Ew21.out (ET Ew22.out (ET Ew23.out (ET Ew24.out (ET Ew25.out HX.out))))))))))))))))))))).2.2.1
   have xu23 := (Ku2w.out.ext (ET Ew6.out (ET E3_5.out (ET Ew8.out (ET Ew9.out (ET Ew10.out (ET Ew11.out (ET Ew12.out (ET Ew13.out (ET Ew14.out (ET Ew15.out (ET Ew16.out (ET Ew17.out (ET Ew18.out (ET Ew19.out (ET Ew20.out (ET Ew21.out (ET Ew22.out (ET Ew23.out (ET Ew24.out (ET Ew25.out HX.out))))))))))))))))))))).2.2.2.1
   have xu24 := (Ku2w.out.ext (ET Ew6.out (ET E3_5.out (ET Ew8.out (ET Ew9.out (ET Ew10.out (ET Ew11.out (ET Ew12.out (ET Ew13.out (ET Ew14.out (ET Ew15.out (ET Ew16.out (ET Ew17.out (ET Ew18.out (ET Ew19.out (ET Ew20.out (ET Ew21.out (ET Ew22.out (ET Ew23.out (ET Ew24.out (ET Ew25.out HX.out))))))))))))))))))))).2.2.2.2.1
   have xu25 := (Ku2w.out.ext (ET Ew6.out (ET E3_5.out (ET Ew8.out (ET Ew9.out (ET Ew10.out (ET Ew11.out (ET Ew12.out (ET Ew13.out (ET Ew14.out (ET Ew15.out (ET Ew16.out (ET Ew17.out (ET Ew18.out (ET Ew19.out (ET Ew20.out (ET Ew21.out (ET Ew22.out (ET Ew23.out (ET Ew24.out (ET Ew25.out HX.out))))))))))))))))))))).2.2.2.2.2.1
   have xu26 := (Ku2w.out.ext (ET Ew6.out (ET E3_5.out (ET Ew8.out (ET Ew9.out (ET Ew10.out (ET Ew11.out (ET Ew12.out (ET Ew13.out (ET Ew14.out (ET Ew15.out (ET Ew16.out (ET Ew17.out (ET Ew18.out (ET Ew19.out (ET Ew20.out (ET Ew21.out (ET Ew22.out (ET Ew23.out (ET Ew24.out (ET Ew25.out HX.out))))))))))))))))))))).2.2.2.2.2.2.1
   have xu27 := (Ku2w.out.ext (ET Ew6.out (ET E3_5.out (ET Ew8.out (ET Ew9.out (ET Ew10.out (ET Ew11.out (ET Ew12.out (ET Ew13.out (ET Ew14.out (ET Ew15.out (ET Ew16.out (ET Ew17.out (ET Ew18.out (ET Ew19.out (ET Ew20.out (ET Ew21.out (ET Ew22.out (ET Ew23.out (ET Ew24.out (ET Ew25.out HX.out))))))))))))))))))))).2.2.2.2.2.2.2.1
   have xu28 := (Ku2w.out.ext (ET Ew6.out (ET E3_5.out (ET Ew8.out (ET Ew9.out (ET Ew10.out (ET Ew11.out (ET Ew12.out (ET Ew13.out (ET Ew14.out (ET Ew15.out (ET Ew16.out (ET Ew17.out (ET Ew18.out (ET Ew19.out (ET Ew20.out (ET Ew21.out (ET Ew22.out (ET Ew23.out (ET Ew24.out (ET Ew25.out HX.out))))))))))))))))))))).2.2.2.2.2.2.2.2
   go_wp2_with fail
   exact ⟨uo.val A2 2 2, rfl, Ext.rfl', rfl⟩
  | 41, _ =>
   refine ⟨fun o ho x wx hE hF hd => ?_⟩
   obtain rfl := Option.some.inj ho
   clear ho
   have ed138 : x 138 = (.bool true) := hd 39 (by decide +kernel) _ _ rfl rfl
   clear hd hF
   have HX := LH hE
   clear hE
   rw [show actOf _ x = pxA x from rfl, pxA]
   rw [ed138]
   clear ed138
   go_wp2_with fail
   exact ⟨.slice (some ⟨wx.heap.size, 0, none⟩) 3 3, rfl, Ext.al Ext.rfl' _, ⟨_, 3, rfl, ints_lit wx [(-9), (-9), (-9)] 2⟩⟩
  | 42, _ =>
   refine ⟨fun o ho x wx hE hF hd => ?_⟩
   obtain rfl := Option.some.inj ho
   clear ho
   have ed138 : x 138 = (.bool true) := hd 39 (by decide +kernel) _ _ rfl rfl
   obtain ⟨Ai, ci, eq140, qi⟩ : (PK.holds (.vk (.ints [(-9), (-9), (-9)])) (x 140) wx) := hd 41 (by decide +kernel) _ _ rfl rfl
   have Hqi := LH qi
   clear qi
   clear hd hF
   have HX := LH hE
   clear hE
   rw [show actOf _ x = pxA x from rfl, pxA]
   rw [ed138, eq140]
   clear ed138 eq140
   simp only [List.length_cons, List.length_nil, Nat.zero_add, Nat.reduceAdd] at Hqi ⊢
   go_wp2_with fail
   refine (pwhole_any Ai 3 ci [(-9), (-9), (-9)] wx Hqi.out (by omega) (by decide)).mono ?_
   rintro e wy ⟨PX, cX, rfl, hP, hE⟩
   have HP := LH hP
   clear hP
   go_wp2_with fail
   exact ⟨.slice PX 3 cX, rfl, hE, ⟨PX, cX, rfl, HP.out⟩⟩
  | 43, _ =>
   refine ⟨fun o ho x wx hE hF hd => ?_⟩
   obtain rfl := Option.some.inj ho
   clear ho
   have ed138 : x 138 = (.bool true) := hd 39 (by decide +kernel) _ _ rfl rfl
   clear hd hF
   have HX := LH hE
   clear hE
   rw [show actOf _ x = pxA x from rfl, pxA]
   rw [ed138]
   clear ed138
   go_wp2_with fail
   exact ⟨.slice (some ⟨wx.heap.size, 0, none⟩) 3 3, rfl, Ext.al Ext.rfl' _, ⟨_, 3, rfl, bools_lit wx [true, true, false] 4⟩⟩
  | 44, _ =>
   refine ⟨fun o ho x wx hE hF hd => ?_⟩
   obtain rfl := Option.some.inj ho
   clear ho
   have ed138 : x 138 = (.bool true) := hd 39 (by decide +kernel) _ _ rfl rfl
   have ed139 : x 139 = (uo.val A2 2 2) := hd 40 (by decide +kernel) _ _ rfl rfl
   obtain ⟨Pi, ci, eq141, qi⟩ : (PK.holds (.vk (.qs (ratsOf [(-9), (-9), (-9)]))) (x 141) wx) := hd 42 (by decide +kernel) _ _ rfl rfl
   have Hqi := LH qi
   clear qi
   obtain ⟨Rj, cj, eq142, qj⟩ : (PK.holds (.vk (.bools [true, true, false])) (x 142) wx) := hd 43 (by decide +kernel) _ _ rfl rfl
   have Hqj := LH qj
   clear qj
   clear hd hF
   have HX := LH hE
   clear hE
   rw [show actOf _ x = pxA x from rfl, pxA]
   rw [ed138, ed139, eq141, eq142]
   clear ed138 ed139 eq141 eq142
   rw [show (ratsOf [(-9), (-9), (-9)]).length = 3 from rfl, show ([true, true, false] : List Bool).length = 3 from rfl]
   go_wp2_with fail
   refine (goes_any uo A2 2 2 Pi 3 ci (ratsOf [(-9), (-9), (-9)]) (-46) Rj 3 cj [true, true, false] wx (by have h := (HS2.out.below (ET E2_2.out (ET Ew6.out (ET E3_5.out (ET Ew8.out (ET Ew9.out (ET Ew10.out (ET Ew11.out (ET Ew12.out (ET Ew13.out (ET Ew14.out (ET Ew15.out (ET Ew16.out (ET Ew17.out (ET Ew18.out (ET Ew19.out (ET Ew20.out (ET Ew21.out (ET Ew22.out (ET Ew23.out (ET Ew24.out (ET Ew25.out HX.out)))))))))))))))))))))); have e := HUO.out; rw [← e]; exact h) (by simp [maxLen]) Hqi.out (by omega) Hqj.out (by simp [maxLen]) HOKS.out.2.1 (by omega) HG2.out.1 HG2.out.2).mono ?_
   rintro e wy ⟨rfl, hE⟩
   go_wp2_with fail
   exact ⟨.bool true, rfl, hE, rfl⟩
  | 45, _ =>
   refine ⟨fun o ho x wx hE hF hd => ?_⟩
   obtain rfl := Option.some.inj ho
   clear ho
   have ed138 : x 138 = (.bool true) := hd 39 (by decide +kernel) _ _ rfl rfl
   have ed143 : x 143 = (.bool true) := hd 44 (by decide +kernel) _ _ rfl rfl
   clear hd hF
   have HX := LH hE
   clear hE
   rw [show actOf _ x = pxA x from rfl, pxA]
   rw [ed138, ed143]
   clear ed138 ed143
   go_wp2_with fail
   exact ⟨_, rfl, Ext.rfl', rfl⟩
  | 46, _ =>
   refine ⟨fun o ho x wx hE hF hd => ?_⟩
   obtain rfl := Option.some.inj ho
   clear ho
   have ed144 : x 144 = (.bool true) := hd 45 (by decide +kernel) _ _ rfl rfl
   clear hd hF
   have HX := LH hE
   clear hE
   rw [show actOf _ x = pxA x from rfl, pxA]
   rw [ed144]
   clear ed144
   go_wp2_with fail
   exact ⟨_, rfl, Ext.rfl', rfl⟩
  | 47, _ =>
   refine ⟨fun o ho x wx hE hF hd => ?_⟩
   obtain rfl := Option.some.inj ho
   clear ho
   have ef3 : x 3 = (.pointer (some ⟨g3, 0, none⟩)) := hF 3 (by decide +kernel)
   have ed145 : x 145 = (.bool true) := hd 46 (by decide +kernel) _ _ rfl rfl
   clear hd hF
   have HX := LH hE
   clear hE
   rw [show actOf _ x = pxA x from rfl, pxA]
   rw [ef3, ed145]
   clear ef3 ed145
   have zu3 := World.block_lt_of_cell? _ _ (Ku3w.out.ext (ET Ew8.out (ET Ew9.out (ET Ew10.out (ET Ew11.out (ET Ew12.out (ET Ew13.out (ET Ew14.out (ET Ew15.out (ET Ew16.out (ET Ew17.out (ET Ew18.out (ET Ew19.out (ET Ew20.out (ET Ew21.out (ET Ew22.out (ET Ew23.out (ET Ew24.out (ET Ew25.out HX.out))))))))))))))))))).1
   have xu30 := (Ku3w.out.ext (ET Ew8.out (ET Ew9.out (ET Ew10.out (ET Ew11.out (ET Ew12.out (ET Ew13.out (ET Ew14.out (ET Ew15.out (ET Ew16.out (ET Ew17.out (ET Ew18.out (ET Ew19.out (ET Ew20.out (ET Ew21.out (ET Ew22.out (ET Ew23.out (ET Ew24.out (ET Ew25.out HX.out))))))))))))))))))).1
   have xu31 := (Ku3w.out.ext (ET Ew8.out (ET Ew9.out (ET Ew10.out (ET Ew11.out (ET Ew12.out (ET Ew13.out (ET Ew14.out (ET Ew15.out (ET Ew16.out (ET Ew17.out (ET Ew18.out (ET Ew19.out (ET Ew20.out (ET Ew21.out (ET Ew22.out (ET Ew23.out (ET Ew24.out (ET Ew25.out HX.out))))))))))))))))))).2.1
   have xu32 := (Ku3w.out.ext (ET Ew8.out (ET Ew9.out (ET Ew10.out (ET Ew11.out (ET Ew12.out (ET Ew13.out (ET Ew14.out (ET Ew15.out (ET Ew16.out (ET Ew17.out (ET Ew18.out (ET Ew19.out (ET Ew20.out (ET Ew21.out (ET Ew22.out (ET Ew23.out (ET Ew24.out (ET Ew25.out HX.out))))))))))))))))))).2.2.1
   have xu33 := (Ku3w.out.ext (ET Ew8.out (ET Ew9.out (ET Ew10.out (ET Ew11.out (ET Ew12.out (ET Ew13.out (ET Ew14.out (ET Ew15.out (ET Ew16.out (ET Ew17.out (ET Ew18.out (ET Ew19.out (ET Ew20.out (ET Ew21.out (ET Ew22.out (ET Ew23.out (ET Ew24.out (ET Ew25.out HX.out))))))))))))))))))).2.2.2.1
   have xu34 := (Ku3w.out.ext (ET Ew8.out (ET Ew9.out (ET Ew10.out (ET Ew11.out (ET Ew12.out (ET Ew13.out (ET Ew14.out (ET Ew15.out (ET Ew16.out (ET Ew17.out (ET Ew18.out (ET Ew19.out (ET Ew20.out (ET Ew21.out (ET Ew22.out (ET Ew23.out (ET Ew24.out (ET Ew25.out HX.out))))))))))))))))))).2.2.2.2.1
   have xu35 := (Ku3w.out.ext (ET Ew8.out (ET Ew9.out (ET Ew10.out (ET Ew11.out (ET Ew12.out (ET Ew13.out (ET Ew14.out (ET Ew15.out (ET Ew16.out (ET Ew17.out (ET Ew18.out (ET Ew19.out (ET Ew20.out (ET Ew21.out (ET Ew22.out (ET Ew23.out (ET Ew24.out (ET Ew25.out HX.out))))))))))))))))))).2.2.2.2.2.1
   have xu36 := (Ku3w.out.ext (ET Ew8.out (ET Ew9.out (ET Ew10.out (ET Ew11.out (ET Ew12.out (ET Ew13.out (ET Ew14.out (ET Ew15.out (ET Ew16.out (ET Ew17.out (ET Ew18.out (ET Ew19.out (ET Ew20.out (ET Ew21.out (ET Ew22.out (ET Ew23.out (ET Ew24.out (ET Ew25.out HX.out))))))))))))))))))).2.2.2.2.2.2.1
   have xu37 := (Ku3w.out.ext (ET Ew8.out (ET Ew9.out (ET Ew10.out (ET Ew11.out (ET Ew12.out (ET Ew13.out (ET Ew14.out (ET Ew15.out (ET Ew16.out (ET Ew17.out (ET Ew18.out (ET Ew19.out (ET Ew20.out (ET Ew21.out (ET Ew22.out (ET Ew23.out (ET Ew24.out (ET Ew25.out HX.out))))))))))))))))))).2.2.2.2.2.2.2.1
   have xu38 := (Ku3w.out.ext (ET Ew8.out (ET Ew9.out (ET Ew10.out (ET Ew11.out (ET Ew12.out (ET Ew13.out (ET Ew14.out (ET Ew15.out (ET Ew16.out (ET Ew17.out (ET Ew18.out (ET Ew19.out (ET Ew20.out (ET Ew21.out (ET Ew22.out (ET Ew23.out (ET Ew24.out (ET Ew25.out HX.out))))))))))))))))))).2.2.2.2.2.2.2.2
   go_wp2_with fail
   exact ⟨uf.val A3 2 2, rfl, Ext.rfl', rfl⟩
  | 48, _ =>
   refine ⟨fun o ho x wx hE hF hd => ?_⟩
   obtain rfl := Option.some.inj ho
   clear ho
   have ed145 : x 145 = (.bool true) := hd 46 (by decide +kernel) _ _ rfl rfl
   clear hd hF
   have HX := LH hE
   clear hE
   rw [show actOf _ x = pxA x from rfl, pxA]
   rw [ed145]
   clear ed145
   go_wp2_with fail
   exact ⟨.slice (some ⟨wx.heap.size, 0, none⟩) 3 3, rfl, Ext.al Ext.rfl' _, ⟨_, 3, rfl, ints_lit wx [1, 1, 1] 2⟩⟩
  | 49, _ =>
   refine ⟨fun o ho x wx hE hF hd => ?_⟩
   obtain rfl := Option.some.inj ho
   clear ho
   have ed145 : x 145 = (.bool true) := hd 46 (by decide +kernel) _ _ rfl rfl
   obtain ⟨Ai, ci, eq147, qi⟩ : (PK.holds (.vk (.ints [1, 1, 1])) (x 147) wx) := hd 48 (by decide +kernel) _ _ rfl rfl
   have Hqi := LH qi
   clear qi
   clear hd hF
   have HX := LH hE
   clear hE
   rw [show actOf _ x = pxA x from rfl, pxA]
   rw [ed145, eq147]
   clear ed145 eq147
   simp only [List.length_cons, List.length_nil, Nat.zero_add, Nat.reduceAdd] at Hqi ⊢
   go_wp2_with fail
   refine (pwhole_any Ai 3 ci [1, 1, 1] wx Hqi.out (by omega) (by decide)).mono ?_
   rintro e wy ⟨PX, cX, rfl, hP, hE⟩
   have HP := LH hP
   clear hP
   go_wp2_with fail
   exact ⟨.slice PX 3 cX, rfl, hE, ⟨PX, cX, rfl, HP.out⟩⟩
  | 50, _ =>
   refine ⟨fun o ho x wx hE hF hd => ?_⟩
   obtain rfl := Option.some.inj ho
   clear ho
   have ed145 : x 145 = (.bool true) := hd 46 (by decide +kernel) _ _ rfl rfl
   clear hd hF
   have HX := LH hE
   clear hE
   rw [show actOf _ x = pxA x from rfl, pxA]
   rw [ed145]
   clear ed145
   go_wp2_with fail
   exact ⟨.slice (some ⟨wx.heap.size, 0, none⟩) 3 3, rfl, Ext.al Ext.rfl' _, ⟨_, 3, rfl, bools_lit wx [false, false, false] 4⟩⟩
  | 51, _ =>
   refine ⟨fun o ho x wx hE hF hd => ?_⟩
   obtain rfl := Option.some.inj ho
   clear ho
   have ed145 : x 145 = (.bool true) := hd 46 (by decide +kernel) _ _ rfl rfl
   have ed146 : x 146 = (uf.val A3 2 2) := hd 47 (by decide +kernel) _ _ rfl rfl
   obtain ⟨Pi, ci, eq148, qi⟩ : (PK.holds (.vk (.qs (ratsOf [1, 1, 1]))) (x 148) wx) := hd 49 (by decide +kernel) _ _ rfl rfl
   have Hqi := LH qi
   clear qi
   obtain ⟨Rj, cj, eq149, qj⟩ : (PK.holds (.vk (.bools [false, false, false])) (x 149) wx) := hd 50 (by decide +kernel) _ _ rfl rfl
   have Hqj := LH qj
   clear qj
   clear hd hF
   have HX := LH hE
   clear hE
   rw [show actOf _ x = pxA x from rfl, pxA]
   rw [ed145, ed146, eq148, eq149]
   clear ed145 ed146 eq148 eq149
   rw [show (ratsOf [1, 1, 1]).length = 3 from rfl, show ([false, false, false] : List Bool).length = 3 from rfl]
   go_wp2_with fail
   refine (goes_any uf A3 2 2 Pi 3 ci (ratsOf [1, 1, 1]) 0 Rj 3 cj [false, false, false] wx (by have h := (HS3.out.below (ET E3_5.out (ET Ew8.out (ET Ew9.out (ET Ew10.out (ET Ew11.out (ET Ew12.out (ET Ew13.out (ET Ew14.out (ET Ew15.out (ET Ew16.out (ET Ew17.out (ET Ew18.out (ET Ew19.out (ET Ew20.out (ET Ew21.out (ET Ew22.out (ET Ew23.out (ET Ew24.out (ET Ew25.out HX.out)))))))))))))))))))); have e := HUF.out; rw [← e]; exact h) (by simp [maxLen]) Hqi.out (by omega) Hqj.out (by simp [maxLen]) HOKS.out.2.2 (by omega) HG3.out.1 HG3.out.2).mono ?_
   rintro e wy ⟨rfl, hE⟩
   go_wp2_with fail
   exact ⟨.bool true, rfl, hE, rfl⟩
  | 52, _ =>
   refine ⟨fun o ho x wx hE hF hd => ?_⟩
   obtain rfl := Option.some.inj ho
   clear ho
   have ed145 : x 145 = (.bool true) := hd 46 (by decide +kernel) _ _ rfl rfl
   have ed150 : x 150 = (.bool true) := hd 51 (by decide +kernel) _ _ rfl rfl
   clear hd hF
   have HX := LH hE
   clear hE
   rw [show actOf _ x = pxA x from rfl, pxA]
   rw [ed145, ed150]
   clear ed145 ed150
   go_wp2_with fail
   exact ⟨_, rfl, Ext.rfl', rfl⟩
  | 53, _ =>
   refine ⟨fun o ho x wx hE hF hd => ?_⟩
   obtain rfl := Option.some.inj ho
   clear ho
   have ed151 : x 151 = (.bool true) := hd 52 (by decide +kernel) _ _ rfl rfl
   clear hd hF
   have HX := LH hE
   clear hE
   rw [show actOf _ x = pxA x from rfl, pxA]
   rw [ed151]
   clear ed151
   go_wp2_with fail
   exact ⟨_, rfl, Ext.rfl', rfl⟩
  | 54, _ =>
   refine ⟨fun o ho x wx hE hF hd => ?_⟩
   obtain rfl := Option.some.inj ho
   clear ho
   have ef3 : x 3 = (.pointer (some ⟨g3, 0, none⟩)) := hF 3 (by decide +kernel)
   have ed152 : x 152 = (.bool true) := hd 53 (by decide +kernel) _ _ rfl rfl
   clear hd hF
   have HX := LH hE
   clear hE
   rw [show actOf _ x = pxA x from rfl, pxA]
   rw [ef3, ed152]
   clear ef3 ed152
   have zu3 := World.block_lt_of_cell? _ _ (Ku3w.out.ext (ET Ew8.out (ET Ew9.out (ET Ew10.out (ET Ew11.out (ET Ew12.out (ET Ew13.out (ET Ew14.out (ET Ew15.out (ET Ew16.out (ET Ew17.out (ET Ew18.out (ET Ew19.out (ET Ew20.out (ET Ew21.out (ET Ew22.out (ET Ew23.out (ET Ew24.out (ET Ew25.out HX.out))))))))))))))))))).1
   have xu30 := (Ku3w.out.ext (ET Ew8.out (ET Ew9.out (ET Ew10.out (ET Ew11.out (ET Ew12.out (ET Ew13.out (ET Ew14.out (ET Ew15.out (ET Ew16.out (ET Ew17.out (ET Ew18.out (ET Ew19.out (ET Ew20.out (ET Ew21.out (ET Ew22.out (ET Ew23.out (ET Ew24.out (ET Ew25.out HX.out))))))))))))))))))).1
   have xu31 := (Ku3w.out.ext (ET Ew8.out (ET Ew9.out (ET Ew10.out (ET Ew11.out (ET Ew12.out (ET Ew13.out (ET Ew14.out (ET Ew15.out (ET Ew16.out (ET Ew17.out (ET Ew18.out (ET Ew19.out (ET Ew20.out (ET Ew21.out (ET Ew22.out (ET Ew23.out (ET Ew24.out (ET Ew25.out HX.out))))))))))))))))))).2.1
   have xu32 := (Ku3w.out.ext (ET Ew8.out (ET Ew9.out (ET Ew10.out (ET Ew11.out (ET Ew12.out (ET Ew13.out (ET Ew14.out (ET Ew15.out (ET Ew16.out (ET Ew17.out (ET Ew18.out (ET Ew19.out (ET Ew20.out (ET Ew21.out (ET Ew22.out (ET Ew23.out (ET Ew24.out (ET Ew25.out HX.out))))))))))))))))))).2.2.1
   have xu33 := (Ku3w.out.ext (ET Ew8.out (ET Ew9.out (ET Ew10.out (ET Ew11.out (ET Ew12.out (ET Ew13.out (ET Ew14.out (ET Ew15.out (ET Ew16.out (ET Ew17.out (ET Ew18.out (ET Ew19.out (ET Ew20.out (ET Ew21.out (ET Ew22.out (ET Ew23.out (ET Ew24.out (ET Ew25.out HX.out))))))))))))))))))).2.2.2.1
   have xu34 := (Ku3w.out.ext (ET Ew8.out (ET Ew9.out (ET Ew10.out (ET Ew11.out (ET Ew12.out (ET Ew13.out (ET Ew14.out (ET Ew15.out (ET Ew16.out (ET Ew17.out (ET Ew18.out (ET Ew19.out (ET Ew20.out (ET Ew21.out (ET Ew22.out (ET Ew23.out (ET Ew24.out (ET Ew25.out HX.out))))))))))))))))))).2.2.2.2.1
   have xu35 := (Ku3w.out.ext (ET Ew8.out (ET Ew9.out (ET Ew10.out (ET Ew11.out (ET Ew12.out (ET Ew13.out (ET Ew14.out (ET Ew15.out (ET Ew16.out (ET Ew17.out (ET Ew18.out (ET Ew19.out (ET Ew20.out (ET Ew21.out (ET Ew22.out (ET Ew23.out (ET Ew24.out (ET Ew25.out HX.out))))))))))))))))))).2.2.2.2.2.1
   have xu36 := (Ku3w.out.ext (ET Ew8.out (ET Ew9.out (ET Ew10.out (ET Ew11.out (ET Ew12.out (ET Ew13.out (ET Ew14.out (ET Ew15.out (ET Ew16.out (ET Ew17.out (ET Ew18.out (ET Ew19.out (ET Ew20.out (ET Ew21.out (ET Ew22.out (ET Ew23.out (ET Ew24.out (ET Ew25.out HX.out))))))))))))))))))).2.2.2.2.2.2.1
   have xu37 := (Ku3w.out.ext (ET Ew8.out (ET Ew9.out (ET Ew10.out (ET Ew11.out (ET Ew12.out (ET Ew13.out (ET Ew14.out (ET Ew15.out (ET Ew16.out (ET Ew17.out (ET Ew18.out (ET Ew19.out (ET Ew20.out (ET Ew21.out (ET Ew22.out (ET Ew23.out (ET Ew24.out (ET Ew25.out HX.out))))))))))))))))))).2.2.2.2.2.2.2.1
   have xu38 := (Ku3w.out.ext (ET Ew8.out (ET Ew9.out (ET Ew10.out (ET Ew11.out (ET Ew12.out (ET Ew13.out (ET Ew14.out (ET Ew15.out (ET Ew16.out (ET Ew17.out (ET Ew18.out (ET Ew19.out (ET Ew20.out (ET Ew21.out (ET Ew22.out (ET Ew23.out (ET Ew24.out (ET Ew25.out HX.out))))))))))))))))))).2.2.2.2.2.2.2.2
   go_wp2_with fail
   exact ⟨uf.val A3 2 2, rfl, Ext.rfl', rfl⟩
  | 55, _ =>
   refine ⟨fun o ho x wx hE hF hd => ?_⟩
   obtain rfl := Option.some.inj ho
   clear ho
   have ed152 : x 152 = (.bool true) := hd 53 (by decide +kernel) _ _ rfl rfl
   clear hd hF
   have HX := LH hE
   clear hE
   rw [show actOf _ x = pxA x from rfl, pxA]
   rw [ed152]
   clear ed152
   go_wp2_with fail
   exact ⟨.slice (some ⟨wx.heap.size, 0, none⟩) 3 3, rfl, Ext.al Ext.rfl' _, ⟨_, 3, rfl, ints_lit wx [2, 0, 2] 2⟩⟩
  | 56, _ =>
   refine ⟨fun o ho x wx hE hF hd => ?_⟩
   obtain rfl := Option.some.inj ho
   clear ho
   have ed152 : x 152 = (.bool true) := hd 53 (by decide +kernel) _ _ rfl rfl
   obtain ⟨Ai, ci, eq154, qi⟩ : (PK.holds (.vk (.ints [2, 0, 2])) (x 154) wx) := hd 55 (by decide +kernel) _ _ rfl rfl
   have Hqi := LH qi
   clear qi
   clear hd hF
   have HX := LH hE
   clear hE
   rw [show actOf _ x = pxA x from rfl, pxA]
   rw [ed152, eq154]
   clear ed152 eq154
   simp only [List.length_cons, List.length_nil, Nat.zero_add, Nat.reduceAdd] at Hqi ⊢
   go_wp2_with fail
   refine (pwhole_any Ai 3 ci [2, 0, 2] wx Hqi.out (by omega) (by decide)).mono ?_
   rintro e wy ⟨PX, cX, rfl, hP, hE⟩
   have HP := LH hP
   clear hP
   go_wp2_with fail
   exact ⟨.slice PX 3 cX, rfl, hE, ⟨PX, cX, rfl, HP.out⟩⟩
  | 57, _ =>
   refine ⟨fun o ho x wx hE hF hd => ?_⟩
   obtain rfl := Option.some.inj ho
   clear ho
   have ed152 : x 152 = (.bool true) := hd 53 (by decide +kernel) _ _ rfl rfl
   clear hd hF
   have HX := LH hE
   clear hE
   rw [show actOf _ x = pxA x from rfl, pxA]
   rw [ed152]
   clear ed152
   go_wp2_with fail
   exact ⟨.slice (some ⟨wx.heap.size, 0, none⟩) 3 3, rfl, Ext.al Ext.rfl' _, ⟨_, 3, rfl, bools_lit wx [true, false, true] 4⟩⟩
  | 58, _ =>
   refine ⟨fun o ho x wx hE hF hd => ?_⟩
   obtain rfl := Option.some.inj ho
   clear ho
   have ed152 : x 152 = (.bool true) := hd 53 (by decide +kernel) _ _ rfl rfl
   have ed153 : x 153 = (uf.val A3 2 2) := hd 54 (by decide +kernel) _ _ rfl rfl
   obtain ⟨Pi, ci, eq155, qi⟩ : (PK.holds (.vk (.qs (ratsOf [2, 0, 2]))) (x 155) wx) := hd 56 (by decide +kernel) _ _ rfl rfl
   have Hqi := LH qi
   clear qi
   obtain ⟨Rj, cj, eq156, qj⟩ : (PK.holds (.vk (.bools [true, false, true])) (x 156) wx) := hd 57 (by decide +kernel) _ _ rfl rfl
   have Hqj := LH qj
   clear qj
   clear hd hF
   have HX := LH hE
   clear hE
   rw [show actOf _ x = pxA x from rfl, pxA]
   rw [ed152, ed153, eq155, eq156]
   clear ed152 ed153 eq155 eq156
   rw [show (ratsOf [2, 0, 2]).length = 3 from rfl, show ([true, false, true] : List Bool).length = 3 from rfl]
   go_wp2_with fail
   refine (goes_any uf A3 2 2 Pi 3 ci (ratsOf [2, 0, 2]) 10 Rj 3 cj [true, false, true] wx (by have h := (HS3.out.below (ET E3_5.out (ET Ew8.out (ET Ew9.out (ET Ew10.out (ET Ew11.out (ET Ew12.out (ET Ew13.out (ET Ew14.out (ET Ew15.out (ET Ew16.out (ET Ew17.out (ET Ew18.out (ET Ew19.out (ET Ew20.out (ET Ew21.out (ET Ew22.out (ET Ew23.out (ET Ew24.out (ET Ew25.out HX.out)))))))))))))))))))); have e := HUF.out; rw [← e]; exact h) (by simp [maxLen]) Hqi.out (by omega) Hqj.out (by simp [maxLen]) HOKS.out.2.2 (by omega) HG4.out.1 HG4.out.2).mono ?_
   rintro e wy ⟨rfl, hE⟩
   go_wp2_with fail
   exact ⟨.bool true, rfl, hE, rfl⟩
  | 59, _ =>
   refine ⟨fun o ho x wx hE hF hd => ?_⟩
   obtain rfl := Option.some.inj ho
   clear ho
   have ed152 : x 152 = (.bool true) := hd 53 (by decide +kernel) _ _ rfl rfl
   have ed157 : x 157 = (.bool true) := hd 58 (by decide +kernel) _ _ rfl rfl
   clear hd hF
   have HX := LH hE
   clear hE
   rw [show actOf _ x = pxA x from rfl, pxA]
   rw [ed152, ed157]
   clear ed152 ed157
   go_wp2_with fail
   exact ⟨_, rfl, Ext.rfl', rfl⟩
  | 60, _ =>
   refine ⟨fun o ho x wx hE hF hd => ?_⟩
   obtain rfl := Option.some.inj ho
   clear ho
   have ed158 : x 158 = (.bool true) := hd 59 (by decide +kernel) _ _ rfl rfl
   clear hd hF
   have HX := LH hE
   clear hE
   rw [show actOf _ x = pxA x from rfl, pxA]
   rw [ed158]
   clear ed158
   go_wp2_with fail
   exact ⟨_, rfl, Ext.rfl', rfl⟩
  | 61, _ =>
   refine ⟨fun o ho x wx hE hF hd => ?_⟩
   obtain rfl := Option.some.inj ho
   clear ho
   have ef1 : x 1 = (.pointer (some ⟨w2.heap.size, 0, none⟩)) := hF 1 (by decide +kernel)
   have ed159 : x 159 = (.bool true) := hd 60 (by decide +kernel) _ _ rfl rfl
   clear hd hF
   have HX := LH hE
   clear hE
   rw [show actOf _ x = pxA x from rfl, pxA]
   rw [ef1, ed159]
   clear ef1 ed159
   have zu1 := World.block_lt_of_cell? _ _ (Ku1.out.ext (ET Ew4.out (ET E2_2.out (ET Ew6.out (ET E3_5.out (ET Ew8.out (ET Ew9.out (ET Ew10.out (ET Ew11.out (ET Ew12.out (ET Ew13.out (ET Ew14.out (ET Ew15.out (ET Ew16.out (ET Ew17.out (ET Ew18.out (ET Ew19.out (ET Ew20.out (ET Ew21.out (ET Ew22.out (ET Ew23.out (ET Ew24.out (ET Ew25.out HX.out))))))))))))))))))))))).1
   have xu10 := (Ku1.out.ext (ET Ew4.out (ET E2_2.out (ET Ew6.out (ET E3_5.out (ET Ew8.out (ET Ew9.out (ET Ew10.out (ET Ew11.out (ET Ew12.out (ET Ew13.out (ET Ew14.out (ET Ew15.out (ET Ew16.out (ET Ew17.out (ET Ew18.out (ET Ew19.out (ET Ew20.out (ET Ew21.out (ET Ew22.out (ET Ew23.out (ET Ew24.out (ET Ew25.out HX.out))))))))))))))))))))))).1
   have xu11 := (Ku1.out.ext (ET Ew4.out (ET E2_2.out (ET Ew6.out (ET E3_5.out (ET Ew8.out (ET Ew9.out (ET Ew10.out (ET Ew11.out (ET Ew12.out (ET Ew13.out (ET Ew14.out (ET Ew15.out (ET Ew16.out (ET Ew17.out (ET Ew18.out (ET Ew19.out (ET Ew20.out (ET Ew21.out (ET Ew22.out (ET Ew23.out (ET Ew24.out (ET Ew25.out HX.out))))))))))))))))))))))).2.1
   have xu12 := (Ku1.out.ext (ET Ew4.out (ET E2_2.out (ET Ew6.out (ET E3_5.out (ET Ew8.out (ET Ew9.out (ET Ew10.out (ET Ew11.out (ET Ew12.out (ET Ew13.out (ET Ew14.out (ET Ew15.out (ET Ew16.out (ET Ew17.out (ET Ew18.out (ET Ew19.out (ET Ew20.out (ET Ew21.out (ET Ew22.out (ET Ew23.out (ET Ew24.out (ET Ew25.out HX.out))))))))))))))))))))))).2.2.1
   have xu13 := (Ku1.out.ext (ET Ew4.out (ET E2_2.out (ET Ew6.out (ET E3_5.out (ET Ew8.out (ET Ew9.out (ET Ew10.out (ET Ew11.out (ET Ew12.out (ET Ew13.out (ET Ew14.out (ET Ew15.out (ET Ew16.out (ET Ew17.out (ET Ew18.out (ET Ew19.out (ET Ew20.out (ET Ew21.out (ET Ew22.out (ET Ew23.out (ET Ew24.out (ET Ew25.out HX.out))))))))))))))))))))))).2.2.2.1
   have xu14 := (Ku1.out.ext (ET Ew4.out (ET E2_2.out (ET Ew6.out (ET E3_5.out (ET Ew8.out (ET Ew9.out (ET Ew10.out (ET Ew11.out (ET Ew12.out (ET Ew13.out (ET Ew14.out (ET Ew15.out (ET Ew16.out (ET Ew17.out (ET Ew18.out (ET Ew19.out (ET Ew20.out (ET Ew21.out (ET Ew22.out (ET Ew23.out (ET Ew24.out (ET Ew25.out HX.out))))))))))))))))))))))).2.2.2.2.1
   have xu15 := (Ku1.out.ext (ET Ew4.out (ET E2_2.out (ET Ew6.out (ET E3_5.out (ET Ew8.out (ET Ew9.out (ET Ew10.out (ET Ew11.out (ET Ew12.out (ET Ew13.out (ET Ew14.out (ET Ew15.out (ET Ew16.out (ET Ew17.out (ET Ew18.out (ET Ew19.out (ET Ew20.out (ET Ew21.out (ET Ew22.out (ET Ew23.out (ET Ew24.out (ET Ew25.out HX.out))))))))))))))))))))))).2.2.2.2.2.1
   have xu16 := (Ku1.out.ext (ET Ew4.out (ET E2_2.out (ET Ew6.out (ET E3_5.out (ET Ew8.out (ET Ew9.out (ET Ew10.out (ET Ew11.out (ET Ew12.out (ET Ew13.out (ET Ew14.out (ET Ew15.out (ET Ew16.out (ET Ew17.out (ET Ew18.out (ET Ew19.out (ET Ew20.out (ET Ew21.out (ET Ew22.out (ET Ew23.out (ET Ew24.out (ET Ew25.out HX.out))))))))))))))))))))))).2.2.2.2.2.2.1
   have xu17 := (Ku1.out.ext (ET Ew4.out (ET E2_2.out (ET Ew6.out (ET E3_5.out (ET Ew8.out (ET Ew9.out (ET Ew10.out (ET Ew11.out (ET Ew12.out (ET Ew13.out (ET Ew14.out (ET Ew15.out (ET Ew16.out (ET Ew17.out (ET Ew18.out (ET Ew19.out (ET Ew20.out (ET Ew21.out (ET Ew22.out (ET Ew23.out (ET Ew24.out (ET Ew25.out HX.out))))))))))))))))))))))).2.2.2.2.2.2.2.1
   have xu18 := (Ku1.out.ext (ET Ew4.out (ET E2_2.out (ET Ew6.out (ET E3_5.out (ET Ew8.out (ET Ew9.out (ET Ew10.out (ET Ew11.out (ET Ew12.out (ET Ew13.out (ET Ew14.out (ET Ew15.out (ET Ew16.out (ET Ew17.out (ET Ew18.out (ET Ew19.out (ET Ew20.out (ET Ew21.out (ET Ew22.out (ET Ew23.out (ET Ew24.out (ET Ew25.out HX.out))))))))))))))))))))))).2.2.2.2.2.2.2.2
   go_wp2_with fail
   exact ⟨ux.val A1 2 2, rfl, Ext.rfl', rfl⟩
  | 62, _ =>
   refine ⟨fun o ho x wx hE hF hd => ?_⟩
   obtain rfl := Option.some.inj ho
   clear ho
   have ed159 : x 159 = (.bool true) := hd 60 (by decide +kernel) _ _ rfl rfl
   clear hd hF
   have HX := LH hE
   clear hE
   rw [show actOf _ x = pxA x from rfl, pxA]
   rw [ed159]
   clear ed159
   go_wp2_with fail
   refine (rqof_any 7 2 wx ⟨by omega, by omega⟩ ⟨by omega, by omega⟩).mono ?_
   rintro e wy ⟨sq, Aq, nq, cq, tq, Bq, mq, dq, rfl, hQ, hE⟩
   have HQ := LH (holds_q hQ)
   clear hQ
   go_wp2_with fail
   exact ⟨.agg #[.bool sq, .slice Aq nq cq, .bool tq, .slice Bq mq dq], rfl, hE, HQ.out⟩
  | 63, _ =>
   refine ⟨fun o ho x wx hE hF hd => ?_⟩
   obtain rfl := Option.some.inj ho
   clear ho
   have ed159 : x 159 = (.bool true) := hd 60 (by decide +kernel) _ _ rfl rfl
   clear hd hF
   have HX := LH hE
   clear hE
   rw [show actOf _ x = pxA x from rfl, pxA]
   rw [ed159]
   clear ed159
   go_wp2_with fail
   refine (rqof_any 23 2 wx ⟨by omega, by omega⟩ ⟨by omega, by omega⟩).mono ?_
   rintro e wy ⟨sq, Aq, nq, cq, tq, Bq, mq, dq, rfl, hQ, hE⟩
   have HQ := LH (holds_q hQ)
   clear hQ
   go_wp2_with fail
   exact ⟨.agg #[.bool sq, .slice Aq nq cq, .bool tq, .slice Bq mq dq], rfl, hE, HQ.out⟩
  | 64, _ =>
   refine ⟨fun o ho x wx hE hF hd => ?_⟩
   obtain rfl := Option.some.inj ho
   clear ho
   have ed159 : x 159 = (.bool true) := hd 60 (by decide +kernel) _ _ rfl rfl
   have ed160 : x 160 = (ux.val A1 2 2) := hd 61 (by decide +kernel) _ _ rfl rfl
   obtain ⟨si, Ai, ni, ci, ti, Bi, mi, di, eq161, qi⟩ : (PK.holds (.vk (.q (qOf 7 2))) (x 161) wx) := hd 62 (by decide +kernel) _ _ rfl rfl
   have Hqi := LH qi
   clear qi
   obtain ⟨sj, Aj, nj, cj, tj, Bj, mj, dj, eq162, qj⟩ : (PK.holds (.vk (.q (qOf 23 2))) (x 162) wx) := hd 63 (by decide +kernel) _ _ rfl rfl
   have Hqj := LH qj
   clear qj
   clear hd hF
   have HX := LH hE
   clear hE
   rw [show actOf _ x = pxA x from rfl, pxA]
   rw [ed159, ed160, eq161, eq162]
   clear ed159 ed160 eq161 eq162
   go_wp2_with fail
   refine (gives_any ux A1 2 2 si Ai ni ci ti Bi mi di _ 9 sj Aj nj cj tj Bj mj dj _ _ wx (HS1.out.below (ET Ew3.out (ET Ew4.out (ET E2_2.out (ET Ew6.out (ET E3_5.out (ET Ew8.out (ET Ew9.out (ET Ew10.out (ET Ew11.out (ET Ew12.out (ET Ew13.out (ET Ew14.out (ET Ew15.out (ET Ew16.out (ET Ew17.out (ET Ew18.out (ET Ew19.out (ET Ew20.out (ET Ew21.out (ET Ew22.out (ET Ew23.out (ET Ew24.out (ET Ew25.out HX.out)))))))))))))))))))))))) (by simp [maxLen]) HOKS.out.1 Hqi.out.is (Nat.le_trans (Hqi.out.len (sz_qOf (z := 7) (y := 2) (k := 1) (by omega) (by decide) (by decide))).1 (by omega)) (Nat.le_trans (Hqi.out.len (sz_qOf (z := 7) (y := 2) (k := 1) (by omega) (by decide) (by decide))).2 (by omega)) Hqj.out HGV.out.1.1 HGV.out.1.2).mono ?_
   rintro e wy ⟨rfl, hE⟩
   go_wp2_with fail
   exact ⟨.bool true, rfl, hE, rfl⟩
  | 65, _ =>
   refine ⟨fun o ho x wx hE hF hd => ?_⟩
   obtain rfl := Option.some.inj ho
   clear ho
   have ed159 : x 159 = (.bool true) := hd 60 (by decide +kernel) _ _ rfl rfl
   have ed163 : x 163 = (.bool true) := hd 64 (by decide +kernel) _ _ rfl rfl
   clear hd hF
   have HX := LH hE
   clear hE
   rw [show actOf _ x = pxA x from rfl, pxA]
   rw [ed159, ed163]
   clear ed159 ed163
   go_wp2_with fail
   exact ⟨_, rfl, Ext.rfl', rfl⟩
  | 66, _ =>
   refine ⟨fun o ho x wx hE hF hd => ?_⟩
   obtain rfl := Option.some.inj ho
   clear ho
   have ed164 : x 164 = (.bool true) := hd 65 (by decide +kernel) _ _ rfl rfl
   clear hd hF
   have HX := LH hE
   clear hE
   rw [show actOf _ x = pxA x from rfl, pxA]
   rw [ed164]
   clear ed164
   go_wp2_with fail
   exact ⟨_, rfl, Ext.rfl', rfl⟩
  | 67, _ =>
   refine ⟨fun o ho x wx hE hF hd => ?_⟩
   obtain rfl := Option.some.inj ho
   clear ho
   have ef1 : x 1 = (.pointer (some ⟨w2.heap.size, 0, none⟩)) := hF 1 (by decide +kernel)
   have ed165 : x 165 = (.bool true) := hd 66 (by decide +kernel) _ _ rfl rfl
   clear hd hF
   have HX := LH hE
   clear hE
   rw [show actOf _ x = pxA x from rfl, pxA]
   rw [ef1, ed165]
   clear ef1 ed165
   have zu1 := World.block_lt_of_cell? _ _ (Ku1.out.ext (ET Ew4.out (ET E2_2.out (ET Ew6.out (ET E3_5.out (ET Ew8.out (ET Ew9.out (ET Ew10.out (ET Ew11.out (ET Ew12.out (ET Ew13.out (ET Ew14.out (ET Ew15.out (ET Ew16.out (ET Ew17.out (ET Ew18.out (ET Ew19.out (ET Ew20.out (ET Ew21.out (ET Ew22.out (ET Ew23.out (ET Ew24.out (ET Ew25.out HX.out))))))))))))))))))))))).1
   have xu10 := (Ku1.out.ext (ET Ew4.out (ET E2_2.out (ET Ew6.out (ET E3_5.out (ET Ew8.out (ET Ew9.out (ET Ew10.out (ET Ew11.out (ET Ew12.out (ET Ew13.out (ET Ew14.out (ET Ew15.out (ET Ew16.out (ET Ew17.out (ET Ew18.out (ET Ew19.out (ET Ew20.out (ET Ew21.out (ET Ew22.out (ET Ew23.out (ET Ew24.out (ET Ew25.out HX.out))))))))))))))))))))))).1
   have xu11 := (Ku1.out.ext (ET Ew4.out (ET E2_2.out (ET Ew6.out (ET E3_5.out (ET Ew8.out (ET Ew9.out (ET Ew10.out (ET Ew11.out (ET Ew12.out (ET Ew13.out (ET Ew14.out (ET Ew15.out (ET Ew16.out (ET Ew17.out (ET Ew18.out (ET Ew19.out (ET Ew20.out (ET Ew21.out (ET Ew22.out (ET Ew23.out (ET Ew24.out (ET Ew25.out HX.out))))))))))))))))))))))).2.1
   have xu12 := (Ku1.out.ext (ET Ew4.out (ET E2_2.out (ET Ew6.out (ET E3_5.out (ET Ew8.out (ET Ew9.out (ET Ew10.out (ET Ew11.out (ET Ew12.out (ET Ew13.out (ET Ew14.out (ET Ew15.out (ET Ew16.out (ET Ew17.out (ET Ew18.out (ET Ew19.out (ET Ew20.out (ET Ew21.out (ET Ew22.out (ET Ew23.out (ET Ew24.out (ET Ew25.out HX.out))))))))))))))))))))))).2.2.1
   have xu13 := (Ku1.out.ext (ET Ew4.out (ET E2_2.out (ET Ew6.out (ET E3_5.out (ET Ew8.out (ET Ew9.out (ET Ew10.out (ET Ew11.out (ET Ew12.out (ET Ew13.out (ET Ew14.out (ET Ew15.out (ET Ew16.out (ET Ew17.out (ET Ew18.out (ET Ew19.out (ET Ew20.out (ET Ew21.out (ET Ew22.out (ET Ew23.out (ET Ew24.out (ET Ew25.out HX.out))))))))))))))))))))))).2.2.2.1
   have xu14 := (Ku1.out.ext (ET Ew4.out (ET E2_2.out (ET Ew6.out (ET E3_5.out (ET Ew8.out (ET Ew9.out (ET Ew10.out (ET Ew11.out (ET Ew12.out (ET Ew13.out (ET Ew14.out (ET Ew15.out (ET Ew16.out (ET Ew17.out (ET Ew18.out (ET Ew19.out (ET Ew20.out (ET Ew21.out (ET Ew22.out (ET Ew23.out (ET Ew24.out (ET Ew25.out HX.out))))))))))))))))))))))).2.2.2.2.1
   have xu15 := (Ku1.out.ext (ET Ew4.out (ET E2_2.out (ET Ew6.out (ET E3_5.out (ET Ew8.out (ET Ew9.out (ET Ew10.out (ET Ew11.out (ET Ew12.out (ET Ew13.out (ET Ew14.out (ET Ew15.out (ET Ew16.out (ET Ew17.out (ET Ew18.out (ET Ew19.out (ET Ew20.out (ET Ew21.out (ET Ew22.out (ET Ew23.out (ET Ew24.out (ET Ew25.out HX.out))))))))))))))))))))))).2.2.2.2.2.1
   have xu16 := (Ku1.out.ext (ET Ew4.out (ET E2_2.out (ET Ew6.out (ET E3_5.out (ET Ew8.out (ET Ew9.out (ET Ew10.out (ET Ew11.out (ET Ew12.out (ET Ew13.out (ET Ew14.out (ET Ew15.out (ET Ew16.out (ET Ew17.out (ET Ew18.out (ET Ew19.out (ET Ew20.out (ET Ew21.out (ET Ew22.out (ET Ew23.out (ET Ew24.out (ET Ew25.out HX.out))))))))))))))))))))))).2.2.2.2.2.2.1
   have xu17 := (Ku1.out.ext (ET Ew4.out (ET E2_2.out (ET Ew6.out (ET E3_5.out (ET Ew8.out (ET Ew9.out (ET Ew10.out (ET Ew11.out (ET Ew12.out (ET Ew13.out (ET Ew14.out (ET Ew15.out (ET Ew16.out (ET Ew17.out (ET Ew18.out (ET Ew19.out (ET Ew20.out (ET Ew21.out (ET Ew22.out (ET Ew23.out (ET Ew24.out (ET Ew25.out HX.out))))))))))))))))))))))).2.2.2.2.2.2.2.1
   have xu18 := (Ku1.out.ext (ET Ew4.out (ET E2_2.out (ET Ew6.out (ET E3_5.out (ET Ew8.out (ET Ew9.out (ET Ew10.out (ET Ew11.out (ET Ew12.out (ET Ew13.out (ET Ew14.out (ET Ew15.out (ET Ew16.out (ET Ew17.out (ET Ew18.out (ET Ew19.out (ET Ew20.out (ET Ew21.out (ET Ew22.out (ET Ew23.out (ET Ew24.out (ET Ew25.out HX.out))))))))))))))))))))))).2.2.2.2.2.2.2.2
   go_wp2_with fail
   exact ⟨ux.val A1 2 2, rfl, Ext.rfl', rfl⟩
  | 68, _ =>
   refine ⟨fun o ho x wx hE hF hd => ?_⟩
   obtain rfl := Option.some.inj ho
   clear ho
   have ed165 : x 165 = (.bool true) := hd 66 (by decide +kernel) _ _ rfl rfl
   clear hd hF
   have HX := LH hE
   clear hE
   rw [show actOf _ x = pxA x from rfl, pxA]
   rw [ed165]
   clear ed165
   go_wp2_with fail
   refine (rqof_any 1 2 wx ⟨by omega, by omega⟩ ⟨by omega, by omega⟩).mono ?_
   rintro e wy ⟨sq, Aq, nq, cq, tq, Bq, mq, dq, rfl, hQ, hE⟩
   have HQ := LH (holds_q hQ)
   clear hQ
   go_wp2_with fail
   exact ⟨.agg #[.bool sq, .slice Aq nq cq, .bool tq, .slice Bq mq dq], rfl, hE, HQ.out⟩
  | 69, _ =>
   refine ⟨fun o ho x wx hE hF hd => ?_⟩
   obtain rfl := Option.some.inj ho
   clear ho
   have ed165 : x 165 = (.bool true) := hd 66 (by decide +kernel) _ _ rfl rfl
   clear hd hF
   have HX := LH hE
   clear hE
   rw [show actOf _ x = pxA x from rfl, pxA]
   rw [ed165]
   clear ed165
   go_wp2_with fail
   refine (rint_any (-4) wx ⟨by omega, by omega⟩).mono ?_
   rintro e wy ⟨sq, Aq, nq, cq, tq, Bq, mq, dq, rfl, hQ, hE⟩
   have HQ := LH (holds_q hQ)
   clear hQ
   go_wp2_with fail
   exact ⟨.agg #[.bool sq, .slice Aq nq cq, .bool tq, .slice Bq mq dq], rfl, hE, HQ.out⟩
  | 70, _ =>
   refine ⟨fun o ho x wx hE hF hd => ?_⟩
   obtain rfl := Option.some.inj ho
   clear ho
   have ed165 : x 165 = (.bool true) := hd 66 (by decide +kernel) _ _ rfl rfl
   have ed166 : x 166 = (ux.val A1 2 2) := hd 67 (by decide +kernel) _ _ rfl rfl
   obtain ⟨si, Ai, ni, ci, ti, Bi, mi, di, eq167, qi⟩ : (PK.holds (.vk (.q (qOf 1 2))) (x 167) wx) := hd 68 (by decide +kernel) _ _ rfl rfl
   have Hqi := LH qi
   clear qi
   obtain ⟨sj, Aj, nj, cj, tj, Bj, mj, dj, eq168, qj⟩ : (PK.holds (.vk (.q ((-4 : Int) : Rat))) (x 168) wx) := hd 69 (by decide +kernel) _ _ rfl rfl
   have Hqj := LH qj
   clear qj
   clear hd hF
   have HX := LH hE
   clear hE
   rw [show actOf _ x = pxA x from rfl, pxA]
   rw [ed165, ed166, eq167, eq168]
   clear ed165 ed166 eq167 eq168
   go_wp2_with fail
   refine (gives_any ux A1 2 2 si Ai ni ci ti Bi mi di _ 2 sj Aj nj cj tj Bj mj dj _ _ wx (HS1.out.below (ET Ew3.out (ET Ew4.out (ET E2_2.out (ET Ew6.out (ET E3_5.out (ET Ew8.out (ET Ew9.out (ET Ew10.out (ET Ew11.out (ET Ew12.out (ET Ew13.out (ET Ew14.out (ET Ew15.out (ET Ew16.out (ET Ew17.out (ET Ew18.out (ET Ew19.out (ET Ew20.out (ET Ew21.out (ET Ew22.out (ET Ew23.out (ET Ew24.out (ET Ew25.out HX.out)))))))))))))))))))))))) (by simp [maxLen]) HOKS.out.1 Hqi.out.is (Nat.le_trans (Hqi.out.len (sz_qOf (z := 1) (y := 2) (k := 1) (by omega) (by decide) (by decide))).1 (by omega)) (Nat.le_trans (Hqi.out.len (sz_qOf (z := 1) (y := 2) (k := 1) (by omega) (by decide) (by decide))).2 (by omega)) Hqj.out HGV.out.2.1.1 HGV.out.2.1.2).mono ?_
   rintro e wy ⟨rfl, hE⟩
   go_wp2_with fail
   exact ⟨.bool true, rfl, hE, rfl⟩
  | 71, _ =>
   refine ⟨fun o ho x wx hE hF hd => ?_⟩
   obtain rfl := Option.some.inj ho
   clear ho
   have ed165 : x 165 = (.bool true) := hd 66 (by decide +kernel) _ _ rfl rfl
   have ed169 : x 169 = (.bool true) := hd 70 (by decide +kernel) _ _ rfl rfl
   clear hd hF
   have HX := LH hE
   clear hE
   rw [show actOf _ x = pxA x from rfl, pxA]
   rw [ed165, ed169]
   clear ed165 ed169
   go_wp2_with fail
   exact ⟨_, rfl, Ext.rfl', rfl⟩
  | 72, _ =>
   refine ⟨fun o ho x wx hE hF hd => ?_⟩
   obtain rfl := Option.some.inj ho
   clear ho
   have ed170 : x 170 = (.bool true) := hd 71 (by decide +kernel) _ _ rfl rfl
   clear hd hF
   have HX := LH hE
   clear hE
   rw [show actOf _ x = pxA x from rfl, pxA]
   rw [ed170]
   clear ed170
   go_wp2_with fail
   exact ⟨_, rfl, Ext.rfl', rfl⟩
  | 73, _ =>
   refine ⟨fun o ho x wx hE hF hd => ?_⟩
   obtain rfl := Option.some.inj ho
   clear ho
   have ef3 : x 3 = (.pointer (some ⟨g3, 0, none⟩)) := hF 3 (by decide +kernel)
   have ed171 : x 171 = (.bool true) := hd 72 (by decide +kernel) _ _ rfl rfl
   clear hd hF
   have HX := LH hE
   clear hE
   rw [show actOf _ x = pxA x from rfl, pxA]
   rw [ef3, ed171]
   clear ef3 ed171
   have zu3 := World.block_lt_of_cell? _ _ (Ku3w.out.ext (ET Ew8.out (ET Ew9.out (ET Ew10.out (ET Ew11.out (ET Ew12.out (ET Ew13.out (ET Ew14.out (ET Ew15.out (ET Ew16.out (ET Ew17.out (ET Ew18.out (ET Ew19.out (ET Ew20.out (ET Ew21.out (ET Ew22.out (ET Ew23.out (ET Ew24.out (ET Ew25.out HX.out))))))))))))))))))).1
   have xu30 := (Ku3w.out.ext (ET Ew8.out (ET Ew9.out (ET Ew10.out (ET Ew11.out (ET Ew12.out (ET Ew13.out (ET Ew14.out (ET Ew15.out (ET Ew16.out (ET Ew17.out (ET Ew18.out (ET Ew19.out (ET Ew20.out (ET Ew21.out (ET Ew22.out (ET Ew23.out (ET Ew24.out (ET Ew25.out HX.out))))))))))))))))))).1
   have xu31 := (Ku3w.out.ext (ET Ew8.out (ET Ew9.out (ET Ew10.out (ET Ew11.out (ET Ew12.out (ET Ew13.out (ET Ew14.out (ET Ew15.out (ET Ew16.out (ET Ew17.out (ET Ew18.out (ET Ew19.out (ET Ew20.out (ET Ew21.out (ET Ew22.out (ET Ew23.out (ET Ew24.out (ET Ew25.out HX.out))))))))))))))))))).2.1
   have xu32 := (Ku3w.out.ext (ET Ew8.out (ET Ew9.out (ET Ew10.out (ET Ew11.out (ET Ew12.out (ET Ew13.out (ET Ew14.out (ET Ew15.out (ET Ew16.out (ET Ew17.out (ET Ew18.out (ET Ew19.out (ET Ew20.out (ET Ew21.out (ET Ew22.out (ET Ew23.out (ET Ew24.out (ET Ew25.out HX.out))))))))))))))))))).2.2.1
   have xu33 := (Ku3w.out.ext (ET Ew8.out (ET Ew9.out (ET Ew10.out (ET Ew11.out (ET Ew12.out (ET Ew13.out (ET Ew14.out (ET Ew15.out (ET Ew16.out (ET Ew17.out (ET Ew18.out (ET Ew19.out (ET Ew20.out (ET Ew21.out (ET Ew22.out (ET Ew23.out (ET Ew24.out (ET Ew25.out HX.out))))))))))))))))))).2.2.2.1
   have xu34 := (Ku3w.out.ext (ET Ew8.out (ET Ew9.out (ET Ew10.out (ET Ew11.out (ET Ew12.out (ET Ew13.out (ET Ew14.out (ET Ew15.out (ET Ew16.out (ET Ew17.out (ET Ew18.out (ET Ew19.out (ET Ew20.out (ET Ew21.out (ET Ew22.out (ET Ew23.out (ET Ew24.out (ET Ew25.out HX.out))))))))))))))))))).2.2.2.2.1
   have xu35 := (Ku3w.out.ext (ET Ew8.out (ET Ew9.out (ET Ew10.out (ET Ew11.out (ET Ew12.out (ET Ew13.out (ET Ew14.out (ET Ew15.out (ET Ew16.out (ET Ew17.out (ET Ew18.out (ET Ew19.out (ET Ew20.out (ET Ew21.out (ET Ew22.out (ET Ew23.out (ET Ew24.out (ET Ew25.out HX.out))))))))))))))))))).2.2.2.2.2.1
   have xu36 := (Ku3w.out.ext (ET Ew8.out (ET Ew9.out (ET Ew10.out (ET Ew11.out (ET Ew12.out (ET Ew13.out (ET Ew14.out (ET Ew15.out (ET Ew16.out (ET Ew17.out (ET Ew18.out (ET Ew19.out (ET Ew20.out (ET Ew21.out (ET Ew22.out (ET Ew23.out (ET Ew24.out (ET Ew25.out HX.out))))))))))))))))))).2.2.2.2.2.2.1
   have xu37 := (Ku3w.out.ext (ET Ew8.out (ET Ew9.out (ET Ew10.out (ET Ew11.out (ET Ew12.out (ET Ew13.out (ET Ew14.out (ET Ew15.out (ET Ew16.out (ET Ew17.out (ET Ew18.out (ET Ew19.out (ET Ew20.out (ET Ew21.out (ET Ew22.out (ET Ew23.out (ET Ew24.out (ET Ew25.out HX.out))))))))))))))))))).2.2.2.2.2.2.2.1
   have xu38 := (Ku3w.out.ext (ET Ew8.out (ET Ew9.out (ET Ew10.out (ET Ew11.out (ET Ew12.out (ET Ew13.out (ET Ew14.out (ET Ew15.out (ET Ew16.out (ET Ew17.out (ET Ew18.out (ET Ew19.out (ET Ew20.out (ET Ew21.out (ET Ew22.out (ET Ew23.out (ET Ew24.out (ET Ew25.out HX.out))))))))))))))))))).2.2.2.2.2.2.2.2
   go_wp2_with fail
   exact ⟨uf.val A3 2 2, rfl, Ext.rfl', rfl⟩
  | 74, _ =>
   refine ⟨fun o ho x wx hE hF hd => ?_⟩
   obtain rfl := Option.some.inj ho
   clear ho
   have ed171 : x 171 = (.bool true) := hd 72 (by decide +kernel) _ _ rfl rfl
   clear hd hF
   have HX := LH hE
   clear hE
   rw [show actOf _ x = pxA x from rfl, pxA]
   rw [ed171]
   clear ed171
   go_wp2_with fail
   refine (rint_any 1 wx ⟨by omega, by omega⟩).mono ?_
   rintro e wy ⟨sq, Aq, nq, cq, tq, Bq, mq, dq, rfl, hQ, hE⟩
   have HQ := LH (holds_q hQ)
   clear hQ
   go_wp2_with fail
   exact ⟨.agg #[.bool sq, .slice Aq nq cq, .bool tq, .slice Bq mq dq], rfl, hE, HQ.out⟩
  | 75, _ =>
   refine ⟨fun o ho x wx hE hF hd => ?_⟩
   obtain rfl := Option.some.inj ho
   clear ho
   have ed171 : x 171 = (.bool true) := hd 72 (by decide +kernel) _ _ rfl rfl
   clear hd hF
   have HX := LH hE
   clear hE
   rw [show actOf _ x = pxA x from rfl, pxA]
   rw [ed171]
   clear ed171
   go_wp2_with fail
   exact ⟨_, rfl, Ext.rfl', ⟨_, _, _, _, _, _, _, _, rfl, qcan_zero wx 0⟩⟩
  | 76, _ =>
   refine ⟨fun o ho x wx hE hF hd => ?_⟩
   obtain rfl := Option.some.inj ho
   clear ho
   have ed171 : x 171 = (.bool true) := hd 72 (by decide +kernel) _ _ rfl rfl
   have ed172 : x 172 = (uf.val A3 2 2) := hd 73 (by decide +kernel) _ _ rfl rfl
   obtain ⟨si, Ai, ni, ci, ti, Bi, mi, di, eq173, qi⟩ : (PK.holds (.vk (.q ((1 : Int) : Rat))) (x 173) wx) := hd 74 (by decide +kernel) _ _ rfl rfl
   have Hqi := LH qi
   clear qi
   obtain ⟨sj, Aj, nj, cj, tj, Bj, mj, dj, eq174, qj⟩ : (PK.holds (.vk (.q (0 : Rat))) (x 174) wx) := hd 75 (by decide +kernel) _ _ rfl rfl
   have Hqj := LH qj
   clear qj
   clear hd hF
   have HX := LH hE
   clear hE
   rw [show actOf _ x = pxA x from rfl, pxA]
   rw [ed171, ed172, eq173, eq174]
   clear ed171 ed172 eq173 eq174
   go_wp2_with fail
   refine (gives_any uf A3 2 2 si Ai ni ci ti Bi mi di _ 0 sj Aj nj cj tj Bj mj dj _ _ wx (by have h := (HS3.out.below (ET E3_5.out (ET Ew8.out (ET Ew9.out (ET Ew10.out (ET Ew11.out (ET Ew12.out (ET Ew13.out (ET Ew14.out (ET Ew15.out (ET Ew16.out (ET Ew17.out (ET Ew18.out (ET Ew19.out (ET Ew20.out (ET Ew21.out (ET Ew22.out (ET Ew23.out (ET Ew24.out (ET Ew25.out HX.out)))))))))))))))))))); have e := HUF.out; rw [← e]; exact h) (by simp [maxLen]) HOKS.out.2.2 Hqi.out.is (Nat.le_trans (Hqi.out.len (sz_int (z := 1) (k := 2) (by omega) (by decide))).1 (by omega)) (Nat.le_trans (Hqi.out.len (sz_int (z := 1) (k := 2) (by omega) (by decide))).2 (by omega)) Hqj.out HGV.out.2.2.1 HGV.out.2.2.2).mono ?_
   rintro e wy ⟨rfl, hE⟩
   go_wp2_with fail
   exact ⟨.bool true, rfl, hE, rfl⟩
  | 77, _ =>
   refine ⟨fun o ho x wx hE hF hd => ?_⟩
   obtain rfl := Option.some.inj ho
   clear ho
   have ed171 : x 171 = (.bool true) := hd 72 (by decide +kernel) _ _ rfl rfl
   have ed175 : x 175 = (.bool true) := hd 76 (by decide +kernel) _ _ rfl rfl
   clear hd hF
   have HX := LH hE
   clear hE
   rw [show actOf _ x = pxA x from rfl, pxA]
   rw [ed171, ed175]
   clear ed171 ed175
   go_wp2_with fail
   exact ⟨_, rfl, Ext.rfl', rfl⟩
  | 78, _ =>
   refine ⟨fun o ho x wx hE hF hd => ?_⟩
   obtain rfl := Option.some.inj ho
   clear ho
   have ed176 : x 176 = (.bool true) := hd 77 (by decide +kernel) _ _ rfl rfl
   clear hd hF
   have HX := LH hE
   clear hE
   rw [show actOf _ x = pxA x from rfl, pxA]
   rw [ed176]
   clear ed176
   go_wp2_with fail
   exact ⟨_, rfl, Ext.rfl', rfl⟩
  | 79, _ =>
   refine ⟨fun o ho x wx hE hF hd => ?_⟩
   obtain rfl := Option.some.inj ho
   clear ho
   have ef1 : x 1 = (.pointer (some ⟨w2.heap.size, 0, none⟩)) := hF 1 (by decide +kernel)
   have ed177 : x 177 = (.bool true) := hd 78 (by decide +kernel) _ _ rfl rfl
   clear hd hF
   have HX := LH hE
   clear hE
   rw [show actOf _ x = pxA x from rfl, pxA]
   rw [ef1, ed177]
   clear ef1 ed177
   have zu1 := World.block_lt_of_cell? _ _ (Ku1.out.ext (ET Ew4.out (ET E2_2.out (ET Ew6.out (ET E3_5.out (ET Ew8.out (ET Ew9.out (ET Ew10.out (ET Ew11.out (ET Ew12.out (ET Ew13.out (ET Ew14.out (ET Ew15.out (ET Ew16.out (ET Ew17.out (ET Ew18.out (ET Ew19.out (ET Ew20.out (ET Ew21.out (ET Ew22.out (ET Ew23.out (ET Ew24.out (ET Ew25.out HX.out))))))))))))))))))))))).1
   have xu10 := (Ku1.out.ext (ET Ew4.out (ET E2_2.out (ET Ew6.out (ET E3_5.out (ET Ew8.out (ET Ew9.out (ET Ew10.out (ET Ew11.out (ET Ew12.out (ET Ew13.out (ET Ew14.out (ET Ew15.out (ET Ew16.out (ET Ew17.out (ET Ew18.out (ET Ew19.out (ET Ew20.out (ET Ew21.out (ET Ew22.out (ET Ew23.out (ET Ew24.out (ET Ew25.out HX.out))))))))))))))))))))))).1
   have xu11 := (Ku1.out.ext (ET Ew4.out (ET E2_2.out (ET Ew6.out (ET E3_5.out (ET Ew8.out (ET Ew9.out (ET Ew10.out (ET Ew11.out (ET Ew12.out (ET Ew13.out (ET Ew14.out (ET Ew15.out (ET Ew16.out (ET Ew17.out (ET Ew18.out (ET Ew19.out (ET Ew20.out (ET Ew21.out (ET Ew22.out (ET Ew23.out (ET Ew24.out (ET Ew25.out HX.out))))))))))))))))))))))).2.1
   have xu12 := (Ku1.out.ext (ET Ew4.out (ET E2_2.out (ET Ew6.out (ET E3_5.out (ET Ew8.out (ET Ew9.out (ET Ew10.out (ET Ew11.out (ET Ew12.out (ET Ew13.out (ET Ew14.out (ET Ew15.out (ET Ew16.out (ET Ew17.out (ET Ew18.out (ET Ew19.out (ET Ew20.out (ET Ew21.out (ET Ew22.out (ET Ew23.out (ET Ew24.out (ET Ew25.out HX.out))))))))))))))))))))))).2.2.1
   have xu13 := (Ku1.out.ext (ET Ew4.out (ET E2_2.out (ET Ew6.out (ET E3_5.out (ET Ew8.out (ET Ew9.out (ET Ew10.out (ET Ew11.out (ET Ew12.out (ET Ew13.out (ET Ew14.out (ET Ew15.out (ET Ew16.out (ET Ew17.out (ET Ew18.out (ET Ew19.out (ET Ew20.out (ET Ew21.out (ET Ew22.out (ET Ew23.out (ET Ew24.out (ET Ew25.out HX.out))))))))))))))))))))))).2.2.2.1
   have xu14 := (Ku1.out.ext (ET Ew4.out (ET E2_2.out (ET Ew6.out (ET E3_5.out (ET Ew8.out (ET Ew9.out (ET Ew10.out (ET Ew11.out (ET Ew12.out (ET Ew13.out (ET Ew14.out (ET Ew15.out (ET Ew16.out (ET Ew17.out (ET Ew18.out (ET Ew19.out (ET Ew20.out (ET Ew21.out (ET Ew22.out (ET Ew23.out (ET Ew24.out (ET Ew25.out HX.out))))))))))))))))))))))).2.2.2.2.1
   have xu15 := (Ku1.out.ext (ET Ew4.out (ET E2_2.out (ET Ew6.out (ET E3_5.out (ET Ew8.out (ET Ew9.out (ET Ew10.out (ET Ew11.out (ET Ew12.out (ET Ew13.out (ET Ew14.out (ET Ew15.out (ET Ew16.out (ET Ew17.out (ET Ew18.out (ET Ew19.out (ET Ew20.out (ET Ew21.out (ET Ew22.out (ET Ew23.out (ET Ew24.out (ET Ew25.out HX.out))))))))))))))))))))))).2.2.2.2.2.1
   have xu16 := (Ku1.out.ext (ET Ew4.out (ET E2_2.out (ET Ew6.out (ET E3_5.out (ET Ew8.out (ET Ew9.out (ET Ew10.out (ET Ew11.out (ET Ew12.out (ET Ew13.out (ET Ew14.out (ET Ew15.out (ET Ew16.out (ET Ew17.out (ET Ew18.out (ET Ew19.out (ET Ew20.out (ET Ew21.out (ET Ew22.out (ET Ew23.out (ET Ew24.out (ET Ew25.out HX.out))))))))))))))))))))))).2.2.2.2.2.2.1
   have xu17 := (Ku1.out.ext (ET Ew4.out (ET E2_2.out (ET Ew6.out (ET E3_5.out (ET Ew8.out (ET Ew9.out (ET Ew10.out (ET Ew11.out (ET Ew12.out (ET Ew13.out (ET Ew14.out (ET Ew15.out (ET Ew16.out (ET Ew17.out (ET Ew18.out (ET Ew19.out (ET Ew20.out (ET Ew21.out (ET Ew22.out (ET Ew23.out (ET Ew24.out (ET Ew25.out HX.out))))))))))))))))))))))).2.2.2.2.2.2.2.1
   have xu18 := (Ku1.out.ext (ET Ew4.out (ET E2_2.out (ET Ew6.out (ET E3_5.out (ET Ew8.out (ET Ew9.out (ET Ew10.out (ET Ew11.out (ET Ew12.out (ET Ew13.out (ET Ew14.out (ET Ew15.out (ET Ew16.out (ET Ew17.out (ET Ew18.out (ET Ew19.out (ET Ew20.out (ET Ew21.out (ET Ew22.out (ET Ew23.out (ET Ew24.out (ET Ew25.out HX.out))))))))))))))))))))))).2.2.2.2.2.2.2.2
   go_wp2_with fail
   exact ⟨ux.val A1 2 2, rfl, Ext.rfl', rfl⟩
  | 80, _ =>
   refine ⟨fun o ho x wx hE hF hd => ?_⟩
   obtain rfl := Option.some.inj ho
   clear ho
   have ed177 : x 177 = (.bool true) := hd 78 (by decide +kernel) _ _ rfl rfl
   clear hd hF
   have HX := LH hE
   clear hE
   rw [show actOf _ x = pxA x from rfl, pxA]
   rw [ed177]
   clear ed177
   go_wp2_with fail
   exact ⟨.slice (some ⟨wx.heap.size, 0, none⟩) 8 8, rfl, Ext.al Ext.rfl' _, ⟨_, 8, rfl, ints_lit wx [9, 9, 9, 9, 9, 9, 9, 9] 2⟩⟩
  | 81, _ =>
   refine ⟨fun o ho x wx hE hF hd => ?_⟩
   obtain rfl := Option.some.inj ho
   clear ho
   have ed177 : x 177 = (.bool true) := hd 78 (by decide +kernel) _ _ rfl rfl
   obtain ⟨Ai, ci, eq179, qi⟩ : (PK.holds (.vk (.ints [9, 9, 9, 9, 9, 9, 9, 9])) (x 179) wx) := hd 80 (by decide +kernel) _ _ rfl rfl
   have Hqi := LH qi
   clear qi
   clear hd hF
   have HX := LH hE
   clear hE
   rw [show actOf _ x = pxA x from rfl, pxA]
   rw [ed177, eq179]
   clear ed177 eq179
   simp only [List.length_cons, List.length_nil, Nat.zero_add, Nat.reduceAdd] at Hqi ⊢
   go_wp2_with fail
   refine (pwhole_any Ai 8 ci [9, 9, 9, 9, 9, 9, 9, 9] wx Hqi.out (by omega) (by decide)).mono ?_
   rintro e wy ⟨PX, cX, rfl, hP, hE⟩
   have HP := LH hP
   clear hP
   go_wp2_with fail
   exact ⟨.slice PX 8 cX, rfl, hE, ⟨PX, cX, rfl, HP.out⟩⟩
  | 82, _ =>
   refine ⟨fun o ho x wx hE hF hd => ?_⟩
   obtain rfl := Option.some.inj ho
   clear ho
   have ed177 : x 177 = (.bool true) := hd 78 (by decide +kernel) _ _ rfl rfl
   clear hd hF
   have HX := LH hE
   clear hE
   rw [show actOf _ x = pxA x from rfl, pxA]
   rw [ed177]
   clear ed177
   go_wp2_with fail
   exact ⟨.slice (some ⟨wx.heap.size, 0, none⟩) 8 8, rfl, Ext.al Ext.rfl' _, ⟨_, 8, rfl, bools_lit wx [true, true, true, true, true, true, true, true] 4⟩⟩
  | 83, _ =>
   refine ⟨fun o ho x wx hE hF hd => ?_⟩
   obtain rfl := Option.some.inj ho
   clear ho
   have ed177 : x 177 = (.bool true) := hd 78 (by decide +kernel) _ _ rfl rfl
   have ed178 : x 178 = (ux.val A1 2 2) := hd 79 (by decide +kernel) _ _ rfl rfl
   obtain ⟨Pi, ci, eq180, qi⟩ : (PK.holds (.vk (.qs (ratsOf [9, 9, 9, 9, 9, 9, 9, 9]))) (x 180) wx) := hd 81 (by decide +kernel) _ _ rfl rfl
   have Hqi := LH qi
   clear qi
   obtain ⟨Rj, cj, eq181, qj⟩ : (PK.holds (.vk (.bools [true, true, true, true, true, true, true, true])) (x 181) wx) := hd 82 (by decide +kernel) _ _ rfl rfl
   have Hqj := LH qj
   clear qj
   clear hd hF
   have HX := LH hE
   clear hE
   rw [show actOf _ x = pxA x from rfl, pxA]
   rw [ed177, ed178, eq180, eq181]
   clear ed177 ed178 eq180 eq181
   rw [show (ratsOf [9, 9, 9, 9, 9, 9, 9, 9]).length = 8 from rfl, show ([true, true, true, true, true, true, true, true] : List Bool).length = 8 from rfl]
   go_wp2_with fail
   refine (goes_any ux A1 2 2 Pi 8 ci (ratsOf [9, 9, 9, 9, 9, 9, 9, 9]) 483 Rj 8 cj [true, true, true, true, true, true, true, true] wx (HS1.out.below (ET Ew3.out (ET Ew4.out (ET E2_2.out (ET Ew6.out (ET E3_5.out (ET Ew8.out (ET Ew9.out (ET Ew10.out (ET Ew11.out (ET Ew12.out (ET Ew13.out (ET Ew14.out (ET Ew15.out (ET Ew16.out (ET Ew17.out (ET Ew18.out (ET Ew19.out (ET Ew20.out (ET Ew21.out (ET Ew22.out (ET Ew23.out (ET Ew24.out (ET Ew25.out HX.out)))))))))))))))))))))))) (by simp [maxLen]) Hqi.out (by omega) Hqj.out (by simp [maxLen]) HOKS.out.1 (by omega) HG5.out.1 HG5.out.2).mono ?_
   rintro e wy ⟨rfl, hE⟩
   go_wp2_with fail
   exact ⟨.bool true, rfl, hE, rfl⟩
  | 84, _ =>
   refine ⟨fun o ho x wx hE hF hd => ?_⟩
   obtain rfl := Option.some.inj ho
   clear ho
   have ed177 : x 177 = (.bool true) := hd 78 (by decide +kernel) _ _ rfl rfl
   have ed182 : x 182 = (.bool true) := hd 83 (by decide +kernel) _ _ rfl rfl
   clear hd hF
   have HX := LH hE
   clear hE
   rw [show actOf _ x = pxA x from rfl, pxA]
   rw [ed177, ed182]
   clear ed177 ed182
   go_wp2_with fail
   exact ⟨_, rfl, Ext.rfl', rfl⟩
  | 85, _ =>
   refine ⟨fun o ho x wx hE hF hd => ?_⟩
   obtain rfl := Option.some.inj ho
   clear ho
   have ed183 : x 183 = (.bool true) := hd 84 (by decide +kernel) _ _ rfl rfl
   clear hd hF
   have HX := LH hE
   clear hE
   rw [show actOf _ x = pxA x from rfl, pxA]
   rw [ed183]
   clear ed183
   go_wp2_with fail
   exact ⟨_, rfl, Ext.rfl', rfl⟩
  | q + 86, h => exact absurd h (by simp)
 intro x w26 hE hF hV
 have ez : x 0 = .bool true := hV 85 _ _ rfl rfl
 have hE3 := hE
 clear hV hF hE
 have Ew26 := LH hE3
 clear hE3
 rw [show actOf _ x = pxA x from rfl, pxA, ez]
 clear ez
 go_wp2_with fail
 go_ret
 exact ⟨rfl, (ET Ew1.out (ET Ew2.out (ET Ew3.out (ET Ew4.out (ET E2_2.out (ET Ew6.out (ET E3_5.out (ET Ew8.out (ET Ew9.out (ET Ew10.out (ET Ew11.out (ET Ew12.out (ET Ew13.out (ET Ew14.out (ET Ew15.out (ET Ew16.out (ET Ew17.out (ET Ew18.out (ET Ew19.out (ET Ew20.out (ET Ew21.out (ET Ew22.out (ET Ew23.out (ET Ew24.out (ET Ew25.out Ew26.out)))))))))))))))))))))))))⟩
end Go.Proofs.YtjinpfnefeiooaaGreat
