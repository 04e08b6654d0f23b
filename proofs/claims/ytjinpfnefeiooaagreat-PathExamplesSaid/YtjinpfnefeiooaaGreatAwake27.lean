/- A part of the proof. -/
import Derived.Test.YtjinpfnefeiooaaGreatFreeK
namespace Go.Proofs.YtjinpfnefeiooaaGreat
open Go.RowKit

theorem aw_ok : exU.ok = true := by decide +kernel
theorem aw_g : (exU.hq (2 : Int) = 5 ∧ exU.hp (2 : Int) = (2 : Int)) ∧ (exU.hq (3 : Int) = 5 ∧ exU.hp (3 : Int) = (7 : Int)) ∧ (exU.hq (1 : Int) = 2 ∧ exU.hp (1 : Int) = (-3 : Int)) ∧ (exU.hq (4 : Int) = 9 ∧ exU.hp (4 : Int) = (16 : Int)) := by decide +kernel
theorem aw_b : (exU.path (ratsOf [2, 4, 1]) exU.init = [true, true, false] ∧ (exU.dp (ratsOf [2, 4, 1]) exU.init).v = (13 : Int)) ∧ (exU.path (ratsOf [1, 1]) exU.init = [false, false] ∧ (exU.dp (ratsOf [1, 1]) exU.init).v = (0 : Int)) := by decide +kernel
theorem ints_lit (w : World) (zs : List Int) (t : TypeId) : IntsAt (w.alloc (.cells (zs.map (Value.int .i64)).toArray t)) (some ⟨w.heap.size, 0, none⟩) zs.length zs := by
 have hb := Blk.new w t (zs.map (Value.int .i64)).toArray
 refine ⟨rfl, w.heap.size, 0, rfl, by simp, fun i hi => ?_⟩
 rw [hb.cell, Nat.zero_add]
 simp only [List.getElem?_toArray, List.getElem?_map, List.getD]
 rw [List.getElem?_eq_getElem hi]
 rfl
theorem bools_lit (w : World) (zs : List Bool) (t : TypeId) : BoolsAt (w.alloc (.cells (zs.map Value.bool).toArray t)) (some ⟨w.heap.size, 0, none⟩) zs.length zs := by
 have hb := Blk.new w t (zs.map Value.bool).toArray
 refine ⟨rfl, fun _ => ⟨w.heap.size, 0, rfl, by simp, fun i hi => ?_⟩⟩
 rw [hb.cell, Nat.zero_add]
 simp only [List.getElem?_toArray, List.getElem?_map, List.getD]
 rw [List.getElem?_eq_getElem hi]
 rfl
def awV (u : U) (AX : Option Addr) : List VK := [(.is (u.val AX 2 2)), (.q ((2 : Int) : Rat)), (.q ((2 : Int) : Rat)), (.is (.bool true)), (.is (.bool true)), (.is (u.val AX 2 2)), (.q ((3 : Int) : Rat)), (.q ((7 : Int) : Rat)), (.is (.bool true)), (.is (.bool true)), (.is (.bool true)), (.is (u.val AX 2 2)), (.q ((1 : Int) : Rat)), (.q ((-3 : Int) : Rat)), (.is (.bool true)), (.is (.bool true)), (.is (.bool true)), (.is (u.val AX 2 2)), (.q ((4 : Int) : Rat)), (.q ((16 : Int) : Rat)), (.is (.bool true)), (.is (.bool true)), (.is (.bool true)), (.is (u.val AX 2 2)), (.ints [2, 4, 1]), (.qs (ratsOf [2, 4, 1])), (.bools [true, true, false]), (.is (.bool true)), (.is (.bool true)), (.is (.bool true)), (.is (u.val AX 2 2)), (.ints [1, 1]), (.qs (ratsOf [1, 1])), (.bools [false, false]), (.is (.bool true)), (.is (.bool true)), (.is (.bool true))]
set_option maxRecDepth 100000 in
set_option maxHeartbeats 32000000 in
theorem awake_any (w : World) : Calls Tryz.prog 7 #[] w fun e w' => e = .returned (.bool true) ∧ Ext w w' := by
 have HG := LH aw_g
 have HB := LH aw_b
 have HOK := LH aw_ok
 go_enter Tryz.func7, Tryz.ntmps7
 go_wp2_with fail
 refine (ex_any w).mono ?_
 rintro e w1 ⟨AX, rfl, hS, hE⟩
 have Ew1 := LH hE
 clear hE
 have HS := LH hS
 clear hS
 generalize exU = u at *
 go_wp2_with fail
 have k0 := UBox.new (w1) (w1.heap.size) (by simp) u AX 2 2 24
 have hE : Ext w1 ((w1).alloc (.cells #[.int .i64 u.bus, .int .i64 u.mn, .slice AX 2 2, .int .i64 u.up, .int .i64 u.down, .int .i64 u.start, .int .i64 u.idle, .int .i64 u.spin, .int .i64 u.on] 24)) := (Ext.al Ext.rfl' _)
 have hsz : ((w1).alloc (.cells #[.int .i64 u.bus, .int .i64 u.mn, .slice AX 2 2, .int .i64 u.up, .int .i64 u.down, .int .i64 u.start, .int .i64 u.idle, .int .i64 u.spin, .int .i64 u.on] 24)).heap.size = w1.heap.size + 1 := by simp
 generalize (w1).alloc (.cells #[.int .i64 u.bus, .int .i64 u.mn, .slice AX 2 2, .int .i64 u.up, .int .i64 u.down, .int .i64 u.start, .int .i64 u.idle, .int .i64 u.spin, .int .i64 u.on] 24) = w2 at *
 have SZw2 := LH hsz
 clear hsz
 have Ew2 := LH hE
 clear hE
 have Ku := LH k0
 clear k0
 have hE : Ext w2 w2.drew := Ext.rfl'.drew
 refine wp_region_free (fun i => ((awV u AX).getD i .any).holds) (by kernel_rfl) (by kernel_rfl) (fun _ _ _ _ h hE => VK.mono h hE) ?_ ?_
 all_goals generalize w2.drew = w3 at *
 all_goals have EE := LH hE
 all_goals clear hE
 ·intro i hi
  match i, hi with
  | 0, _ =>
   refine ⟨fun o ho x wx hE hF hd => ?_⟩
   obtain rfl := Option.some.inj ho
   clear ho
   have e1 : x 1 = .pointer (some ⟨w1.heap.size, 0, none⟩) := hF 1 (by decide +kernel)
   clear hd hF
   have HX := LH hE
   clear hE
   rw [show actOf _ x = (⟨#[x 0, x 1, x 2, x 3, x 4, x 5, x 6, x 7, x 8, x 9, x 10, x 11, x 12, x 13, x 14, x 15, x 16, x 17, x 18, x 19, x 20, x 21, x 22, x 23, x 24, x 25, x 26, x 27, x 28, x 29, x 30, x 31, x 32, x 33, x 34, x 35, x 36, x 37, x 38], []⟩ : Act) from rfl]
   rw [e1]
   clear e1
   have xu0 := (Ku.out.ext (ET EE.out HX.out)).1
   have xu1 := (Ku.out.ext (ET EE.out HX.out)).2.1
   have xu2 := (Ku.out.ext (ET EE.out HX.out)).2.2.1
   have xu3 := (Ku.out.ext (ET EE.out HX.out)).2.2.2.1
   have xu4 := (Ku.out.ext (ET EE.out HX.out)).2.2.2.2.1
   have xu5 := (Ku.out.ext (ET EE.out HX.out)).2.2.2.2.2.1
   have xu6 := (Ku.out.ext (ET EE.out HX.out)).2.2.2.2.2.2.1
   have xu7 := (Ku.out.ext (ET EE.out HX.out)).2.2.2.2.2.2.2.1
   have xu8 := (Ku.out.ext (ET EE.out HX.out)).2.2.2.2.2.2.2.2
   go_wp2_with fail
   exact ⟨u.val AX 2 2, rfl, Ext.rfl', rfl⟩
  | 1, _ =>
   refine ⟨fun o ho x wx hE hF hd => ?_⟩
   obtain rfl := Option.some.inj ho
   clear ho
   clear hd hF
   have HX := LH hE
   clear hE
   rw [show actOf _ x = (⟨#[x 0, x 1, x 2, x 3, x 4, x 5, x 6, x 7, x 8, x 9, x 10, x 11, x 12, x 13, x 14, x 15, x 16, x 17, x 18, x 19, x 20, x 21, x 22, x 23, x 24, x 25, x 26, x 27, x 28, x 29, x 30, x 31, x 32, x 33, x 34, x 35, x 36, x 37, x 38], []⟩ : Act) from rfl]
   go_wp2_with fail
   refine (qfrom_any (2) wx ⟨by omega, by omega⟩).mono ?_
   rintro e wy ⟨sq, Aq, nq, cq, tq, Bq, mq, dq, rfl, hQ, hE⟩
   have HQ := LH (holds_q hQ)
   clear hQ
   go_wp2_with fail
   exact ⟨.agg #[.bool sq, .slice Aq nq cq, .bool tq, .slice Bq mq dq], rfl, hE, HQ.out⟩
  | 2, _ =>
   refine ⟨fun o ho x wx hE hF hd => ?_⟩
   obtain rfl := Option.some.inj ho
   clear ho
   clear hd hF
   have HX := LH hE
   clear hE
   rw [show actOf _ x = (⟨#[x 0, x 1, x 2, x 3, x 4, x 5, x 6, x 7, x 8, x 9, x 10, x 11, x 12, x 13, x 14, x 15, x 16, x 17, x 18, x 19, x 20, x 21, x 22, x 23, x 24, x 25, x 26, x 27, x 28, x 29, x 30, x 31, x 32, x 33, x 34, x 35, x 36, x 37, x 38], []⟩ : Act) from rfl]
   go_wp2_with fail
   refine (qfrom_any (2) wx ⟨by omega, by omega⟩).mono ?_
   rintro e wy ⟨sq, Aq, nq, cq, tq, Bq, mq, dq, rfl, hQ, hE⟩
   have HQ := LH (holds_q hQ)
   clear hQ
   go_wp2_with fail
   exact ⟨.agg #[.bool sq, .slice Aq nq cq, .bool tq, .slice Bq mq dq], rfl, hE, HQ.out⟩
  | 3, _ =>
   refine ⟨fun o ho x wx hE hF hd => ?_⟩
   obtain rfl := Option.some.inj ho
   clear ho
   have ea : x 3 = u.val AX 2 2 := hd 0 (by decide +kernel) _ _ rfl rfl
   obtain ⟨si, Ai, ni, ci, ti, Bi, mi, di, eb, hqi⟩ : (VK.q ((2 : Int) : Rat)).holds (x 4) wx := hd 1 (by decide +kernel) _ _ rfl rfl
   obtain ⟨sj, Aj, nj, cj, tj, Bj, mj, dj, ec, hqj⟩ : (VK.q ((2 : Int) : Rat)).holds (x 5) wx := hd 2 (by decide +kernel) _ _ rfl rfl
   have HQI := LH hqi
   have HQJ := LH hqj
   clear hqi hqj
   clear hd hF
   have HX := LH hE
   clear hE
   rw [show actOf _ x = (⟨#[x 0, x 1, x 2, x 3, x 4, x 5, x 6, x 7, x 8, x 9, x 10, x 11, x 12, x 13, x 14, x 15, x 16, x 17, x 18, x 19, x 20, x 21, x 22, x 23, x 24, x 25, x 26, x 27, x 28, x 29, x 30, x 31, x 32, x 33, x 34, x 35, x 36, x 37, x 38], []⟩ : Act) from rfl]
   rw [ea, eb, ec]
   clear ea eb ec
   go_wp2_with fail
   refine (gives_any u AX 2 2 si Ai ni ci ti Bi mi di _ 5 sj Aj nj cj tj Bj mj dj _ _ wx (HS.out.below (ET Ew2.out (ET EE.out HX.out))) (by simp [maxLen]) HOK.out HQI.out.is (Nat.le_trans (HQI.out.len (sz_small (z := 2) (by omega) (by omega))).1 (by omega)) (Nat.le_trans (HQI.out.len (sz_small (z := 2) (by omega) (by omega))).2 (by omega)) HQJ.out HG.out.1.1 HG.out.1.2).mono ?_
   rintro e wy ⟨rfl, hE⟩
   go_wp2_with fail
   exact ⟨.bool true, rfl, hE, rfl⟩
  | 4, _ =>
   refine ⟨fun o ho x wx hE hF hd => ?_⟩
   obtain rfl := Option.some.inj ho
   clear ho
   have e6 : x 6 = .bool true := hd 3 (by decide +kernel) _ _ rfl rfl
   clear hd hF
   have HX := LH hE
   clear hE
   rw [show actOf _ x = (⟨#[x 0, x 1, x 2, x 3, x 4, x 5, x 6, x 7, x 8, x 9, x 10, x 11, x 12, x 13, x 14, x 15, x 16, x 17, x 18, x 19, x 20, x 21, x 22, x 23, x 24, x 25, x 26, x 27, x 28, x 29, x 30, x 31, x 32, x 33, x 34, x 35, x 36, x 37, x 38], []⟩ : Act) from rfl]
   rw [e6]
   clear e6
   go_wp2_with fail
   exact ⟨.bool true, rfl, Ext.rfl', rfl⟩
  | 5, _ =>
   refine ⟨fun o ho x wx hE hF hd => ?_⟩
   obtain rfl := Option.some.inj ho
   clear ho
   have eg : x 7 = .bool true := hd 4 (by decide +kernel) _ _ rfl rfl
   have e1 : x 1 = .pointer (some ⟨w1.heap.size, 0, none⟩) := hF 1 (by decide +kernel)
   clear hd hF
   have HX := LH hE
   clear hE
   rw [show actOf _ x = (⟨#[x 0, x 1, x 2, x 3, x 4, x 5, x 6, x 7, x 8, x 9, x 10, x 11, x 12, x 13, x 14, x 15, x 16, x 17, x 18, x 19, x 20, x 21, x 22, x 23, x 24, x 25, x 26, x 27, x 28, x 29, x 30, x 31, x 32, x 33, x 34, x 35, x 36, x 37, x 38], []⟩ : Act) from rfl]
   rw [eg, e1]
   clear eg e1
   have xu0 := (Ku.out.ext (ET EE.out HX.out)).1
   have xu1 := (Ku.out.ext (ET EE.out HX.out)).2.1
   have xu2 := (Ku.out.ext (ET EE.out HX.out)).2.2.1
   have xu3 := (Ku.out.ext (ET EE.out HX.out)).2.2.2.1
   have xu4 := (Ku.out.ext (ET EE.out HX.out)).2.2.2.2.1
   have xu5 := (Ku.out.ext (ET EE.out HX.out)).2.2.2.2.2.1
   have xu6 := (Ku.out.ext (ET EE.out HX.out)).2.2.2.2.2.2.1
   have xu7 := (Ku.out.ext (ET EE.out HX.out)).2.2.2.2.2.2.2.1
   have xu8 := (Ku.out.ext (ET EE.out HX.out)).2.2.2.2.2.2.2.2
   go_wp2_with fail
   exact ⟨u.val AX 2 2, rfl, Ext.rfl', rfl⟩
  | 6, _ =>
   refine ⟨fun o ho x wx hE hF hd => ?_⟩
   obtain rfl := Option.some.inj ho
   clear ho
   have eg : x 7 = .bool true := hd 4 (by decide +kernel) _ _ rfl rfl
   clear hd hF
   have HX := LH hE
   clear hE
   rw [show actOf _ x = (⟨#[x 0, x 1, x 2, x 3, x 4, x 5, x 6, x 7, x 8, x 9, x 10, x 11, x 12, x 13, x 14, x 15, x 16, x 17, x 18, x 19, x 20, x 21, x 22, x 23, x 24, x 25, x 26, x 27, x 28, x 29, x 30, x 31, x 32, x 33, x 34, x 35, x 36, x 37, x 38], []⟩ : Act) from rfl]
   rw [eg]
   clear eg
   go_wp2_with fail
   refine (qfrom_any (3) wx ⟨by omega, by omega⟩).mono ?_
   rintro e wy ⟨sq, Aq, nq, cq, tq, Bq, mq, dq, rfl, hQ, hE⟩
   have HQ := LH (holds_q hQ)
   clear hQ
   go_wp2_with fail
   exact ⟨.agg #[.bool sq, .slice Aq nq cq, .bool tq, .slice Bq mq dq], rfl, hE, HQ.out⟩
  | 7, _ =>
   refine ⟨fun o ho x wx hE hF hd => ?_⟩
   obtain rfl := Option.some.inj ho
   clear ho
   have eg : x 7 = .bool true := hd 4 (by decide +kernel) _ _ rfl rfl
   clear hd hF
   have HX := LH hE
   clear hE
   rw [show actOf _ x = (⟨#[x 0, x 1, x 2, x 3, x 4, x 5, x 6, x 7, x 8, x 9, x 10, x 11, x 12, x 13, x 14, x 15, x 16, x 17, x 18, x 19, x 20, x 21, x 22, x 23, x 24, x 25, x 26, x 27, x 28, x 29, x 30, x 31, x 32, x 33, x 34, x 35, x 36, x 37, x 38], []⟩ : Act) from rfl]
   rw [eg]
   clear eg
   go_wp2_with fail
   refine (qfrom_any (7) wx ⟨by omega, by omega⟩).mono ?_
   rintro e wy ⟨sq, Aq, nq, cq, tq, Bq, mq, dq, rfl, hQ, hE⟩
   have HQ := LH (holds_q hQ)
   clear hQ
   go_wp2_with fail
   exact ⟨.agg #[.bool sq, .slice Aq nq cq, .bool tq, .slice Bq mq dq], rfl, hE, HQ.out⟩
  | 8, _ =>
   refine ⟨fun o ho x wx hE hF hd => ?_⟩
   obtain rfl := Option.some.inj ho
   clear ho
   have eg : x 7 = .bool true := hd 4 (by decide +kernel) _ _ rfl rfl
   have ea : x 8 = u.val AX 2 2 := hd 5 (by decide +kernel) _ _ rfl rfl
   obtain ⟨si, Ai, ni, ci, ti, Bi, mi, di, eb, hqi⟩ : (VK.q ((3 : Int) : Rat)).holds (x 9) wx := hd 6 (by decide +kernel) _ _ rfl rfl
   obtain ⟨sj, Aj, nj, cj, tj, Bj, mj, dj, ec, hqj⟩ : (VK.q ((7 : Int) : Rat)).holds (x 10) wx := hd 7 (by decide +kernel) _ _ rfl rfl
   have HQI := LH hqi
   have HQJ := LH hqj
   clear hqi hqj
   clear hd hF
   have HX := LH hE
   clear hE
   rw [show actOf _ x = (⟨#[x 0, x 1, x 2, x 3, x 4, x 5, x 6, x 7, x 8, x 9, x 10, x 11, x 12, x 13, x 14, x 15, x 16, x 17, x 18, x 19, x 20, x 21, x 22, x 23, x 24, x 25, x 26, x 27, x 28, x 29, x 30, x 31, x 32, x 33, x 34, x 35, x 36, x 37, x 38], []⟩ : Act) from rfl]
   rw [eg, ea, eb, ec]
   clear eg ea eb ec
   go_wp2_with fail
   refine (gives_any u AX 2 2 si Ai ni ci ti Bi mi di _ 5 sj Aj nj cj tj Bj mj dj _ _ wx (HS.out.below (ET Ew2.out (ET EE.out HX.out))) (by simp [maxLen]) HOK.out HQI.out.is (Nat.le_trans (HQI.out.len (sz_small (z := 3) (by omega) (by omega))).1 (by omega)) (Nat.le_trans (HQI.out.len (sz_small (z := 3) (by omega) (by omega))).2 (by omega)) HQJ.out HG.out.2.1.1 HG.out.2.1.2).mono ?_
   rintro e wy ⟨rfl, hE⟩
   go_wp2_with fail
   exact ⟨.bool true, rfl, hE, rfl⟩
  | 9, _ =>
   refine ⟨fun o ho x wx hE hF hd => ?_⟩
   obtain rfl := Option.some.inj ho
   clear ho
   have e7 : x 7 = .bool true := hd 4 (by decide +kernel) _ _ rfl rfl
   have e11 : x 11 = .bool true := hd 8 (by decide +kernel) _ _ rfl rfl
   clear hd hF
   have HX := LH hE
   clear hE
   rw [show actOf _ x = (⟨#[x 0, x 1, x 2, x 3, x 4, x 5, x 6, x 7, x 8, x 9, x 10, x 11, x 12, x 13, x 14, x 15, x 16, x 17, x 18, x 19, x 20, x 21, x 22, x 23, x 24, x 25, x 26, x 27, x 28, x 29, x 30, x 31, x 32, x 33, x 34, x 35, x 36, x 37, x 38], []⟩ : Act) from rfl]
   rw [e7, e11]
   clear e7 e11
   go_wp2_with fail
   exact ⟨.bool true, rfl, Ext.rfl', rfl⟩
  | 10, _ =>
   refine ⟨fun o ho x wx hE hF hd => ?_⟩
   obtain rfl := Option.some.inj ho
   clear ho
   have e12 : x 12 = .bool true := hd 9 (by decide +kernel) _ _ rfl rfl
   clear hd hF
   have HX := LH hE
   clear hE
   rw [show actOf _ x = (⟨#[x 0, x 1, x 2, x 3, x 4, x 5, x 6, x 7, x 8, x 9, x 10, x 11, x 12, x 13, x 14, x 15, x 16, x 17, x 18, x 19, x 20, x 21, x 22, x 23, x 24, x 25, x 26, x 27, x 28, x 29, x 30, x 31, x 32, x 33, x 34, x 35, x 36, x 37, x 38], []⟩ : Act) from rfl]
   rw [e12]
   clear e12
   go_wp2_with fail
   exact ⟨.bool true, rfl, Ext.rfl', rfl⟩
  | 11, _ =>
   refine ⟨fun o ho x wx hE hF hd => ?_⟩
   obtain rfl := Option.some.inj ho
   clear ho
   have eg : x 13 = .bool true := hd 10 (by decide +kernel) _ _ rfl rfl
   have e1 : x 1 = .pointer (some ⟨w1.heap.size, 0, none⟩) := hF 1 (by decide +kernel)
   clear hd hF
   have HX := LH hE
   clear hE
   rw [show actOf _ x = (⟨#[x 0, x 1, x 2, x 3, x 4, x 5, x 6, x 7, x 8, x 9, x 10, x 11, x 12, x 13, x 14, x 15, x 16, x 17, x 18, x 19, x 20, x 21, x 22, x 23, x 24, x 25, x 26, x 27, x 28, x 29, x 30, x 31, x 32, x 33, x 34, x 35, x 36, x 37, x 38], []⟩ : Act) from rfl]
   rw [eg, e1]
   clear eg e1
   have xu0 := (Ku.out.ext (ET EE.out HX.out)).1
   have xu1 := (Ku.out.ext (ET EE.out HX.out)).2.1
   have xu2 := (Ku.out.ext (ET EE.out HX.out)).2.2.1
   have xu3 := (Ku.out.ext (ET EE.out HX.out)).2.2.2.1
   have xu4 := (Ku.out.ext (ET EE.out HX.out)).2.2.2.2.1
   have xu5 := (Ku.out.ext (ET EE.out HX.out)).2.2.2.2.2.1
   have xu6 := (Ku.out.ext (ET EE.out HX.out)).2.2.2.2.2.2.1
   have xu7 := (Ku.out.ext (ET EE.out HX.out)).2.2.2.2.2.2.2.1
   have xu8 := (Ku.out.ext (ET EE.out HX.out)).2.2.2.2.2.2.2.2
   go_wp2_with fail
   exact ⟨u.val AX 2 2, rfl, Ext.rfl', rfl⟩
  | 12, _ =>
   refine ⟨fun o ho x wx hE hF hd => ?_⟩
   obtain rfl := Option.some.inj ho
   clear ho
   have eg : x 13 = .bool true := hd 10 (by decide +kernel) _ _ rfl rfl
   clear hd hF
   have HX := LH hE
   clear hE
   rw [show actOf _ x = (⟨#[x 0, x 1, x 2, x 3, x 4, x 5, x 6, x 7, x 8, x 9, x 10, x 11, x 12, x 13, x 14, x 15, x 16, x 17, x 18, x 19, x 20, x 21, x 22, x 23, x 24, x 25, x 26, x 27, x 28, x 29, x 30, x 31, x 32, x 33, x 34, x 35, x 36, x 37, x 38], []⟩ : Act) from rfl]
   rw [eg]
   clear eg
   go_wp2_with fail
   refine (qfrom_any (1) wx ⟨by omega, by omega⟩).mono ?_
   rintro e wy ⟨sq, Aq, nq, cq, tq, Bq, mq, dq, rfl, hQ, hE⟩
   have HQ := LH (holds_q hQ)
   clear hQ
   go_wp2_with fail
   exact ⟨.agg #[.bool sq, .slice Aq nq cq, .bool tq, .slice Bq mq dq], rfl, hE, HQ.out⟩
  | 13, _ =>
   refine ⟨fun o ho x wx hE hF hd => ?_⟩
   obtain rfl := Option.some.inj ho
   clear ho
   have eg : x 13 = .bool true := hd 10 (by decide +kernel) _ _ rfl rfl
   clear hd hF
   have HX := LH hE
   clear hE
   rw [show actOf _ x = (⟨#[x 0, x 1, x 2, x 3, x 4, x 5, x 6, x 7, x 8, x 9, x 10, x 11, x 12, x 13, x 14, x 15, x 16, x 17, x 18, x 19, x 20, x 21, x 22, x 23, x 24, x 25, x 26, x 27, x 28, x 29, x 30, x 31, x 32, x 33, x 34, x 35, x 36, x 37, x 38], []⟩ : Act) from rfl]
   rw [eg]
   clear eg
   go_wp2_with fail
   refine (qfrom_any (-3) wx ⟨by omega, by omega⟩).mono ?_
   rintro e wy ⟨sq, Aq, nq, cq, tq, Bq, mq, dq, rfl, hQ, hE⟩
   have HQ := LH (holds_q hQ)
   clear hQ
   go_wp2_with fail
   exact ⟨.agg #[.bool sq, .slice Aq nq cq, .bool tq, .slice Bq mq dq], rfl, hE, HQ.out⟩
  | 14, _ =>
   refine ⟨fun o ho x wx hE hF hd => ?_⟩
   obtain rfl := Option.some.inj ho
   clear ho
   have eg : x 13 = .bool true := hd 10 (by decide +kernel) _ _ rfl rfl
   have ea : x 14 = u.val AX 2 2 := hd 11 (by decide +kernel) _ _ rfl rfl
   obtain ⟨si, Ai, ni, ci, ti, Bi, mi, di, eb, hqi⟩ : (VK.q ((1 : Int) : Rat)).holds (x 15) wx := hd 12 (by decide +kernel) _ _ rfl rfl
   obtain ⟨sj, Aj, nj, cj, tj, Bj, mj, dj, ec, hqj⟩ : (VK.q ((-3 : Int) : Rat)).holds (x 16) wx := hd 13 (by decide +kernel) _ _ rfl rfl
   have HQI := LH hqi
   have HQJ := LH hqj
   clear hqi hqj
   clear hd hF
   have HX := LH hE
   clear hE
   rw [show actOf _ x = (⟨#[x 0, x 1, x 2, x 3, x 4, x 5, x 6, x 7, x 8, x 9, x 10, x 11, x 12, x 13, x 14, x 15, x 16, x 17, x 18, x 19, x 20, x 21, x 22, x 23, x 24, x 25, x 26, x 27, x 28, x 29, x 30, x 31, x 32, x 33, x 34, x 35, x 36, x 37, x 38], []⟩ : Act) from rfl]
   rw [eg, ea, eb, ec]
   clear eg ea eb ec
   go_wp2_with fail
   refine (gives_any u AX 2 2 si Ai ni ci ti Bi mi di _ 2 sj Aj nj cj tj Bj mj dj _ _ wx (HS.out.below (ET Ew2.out (ET EE.out HX.out))) (by simp [maxLen]) HOK.out HQI.out.is (Nat.le_trans (HQI.out.len (sz_small (z := 1) (by omega) (by omega))).1 (by omega)) (Nat.le_trans (HQI.out.len (sz_small (z := 1) (by omega) (by omega))).2 (by omega)) HQJ.out HG.out.2.2.1.1 HG.out.2.2.1.2).mono ?_
   rintro e wy ⟨rfl, hE⟩
   go_wp2_with fail
   exact ⟨.bool true, rfl, hE, rfl⟩
  | 15, _ =>
   refine ⟨fun o ho x wx hE hF hd => ?_⟩
   obtain rfl := Option.some.inj ho
   clear ho
   have e13 : x 13 = .bool true := hd 10 (by decide +kernel) _ _ rfl rfl
   have e17 : x 17 = .bool true := hd 14 (by decide +kernel) _ _ rfl rfl
   clear hd hF
   have HX := LH hE
   clear hE
   rw [show actOf _ x = (⟨#[x 0, x 1, x 2, x 3, x 4, x 5, x 6, x 7, x 8, x 9, x 10, x 11, x 12, x 13, x 14, x 15, x 16, x 17, x 18, x 19, x 20, x 21, x 22, x 23, x 24, x 25, x 26, x 27, x 28, x 29, x 30, x 31, x 32, x 33, x 34, x 35, x 36, x 37, x 38], []⟩ : Act) from rfl]
   rw [e13, e17]
   clear e13 e17
   go_wp2_with fail
   exact ⟨.bool true, rfl, Ext.rfl', rfl⟩
  | 16, _ =>
   refine ⟨fun o ho x wx hE hF hd => ?_⟩
   obtain rfl := Option.some.inj ho
   clear ho
   have e18 : x 18 = .bool true := hd 15 (by decide +kernel) _ _ rfl rfl
   clear hd hF
   have HX := LH hE
   clear hE
   rw [show actOf _ x = (⟨#[x 0, x 1, x 2, x 3, x 4, x 5, x 6, x 7, x 8, x 9, x 10, x 11, x 12, x 13, x 14, x 15, x 16, x 17, x 18, x 19, x 20, x 21, x 22, x 23, x 24, x 25, x 26, x 27, x 28, x 29, x 30, x 31, x 32, x 33, x 34, x 35, x 36, x 37, x 38], []⟩ : Act) from rfl]
   rw [e18]
   clear e18
   go_wp2_with fail
   exact ⟨.bool true, rfl, Ext.rfl', rfl⟩
  | 17, _ =>
   refine ⟨fun o ho x wx hE hF hd => ?_⟩
   obtain rfl := Option.some.inj ho
   clear ho
   have eg : x 19 = .bool true := hd 16 (by decide +kernel) _ _ rfl rfl
   have e1 : x 1 = .pointer (some ⟨w1.heap.size, 0, none⟩) := hF 1 (by decide +kernel)
   clear hd hF
   have HX := LH hE
   clear hE
   rw [show actOf _ x = (⟨#[x 0, x 1, x 2, x 3, x 4, x 5, x 6, x 7, x 8, x 9, x 10, x 11, x 12, x 13, x 14, x 15, x 16, x 17, x 18, x 19, x 20, x 21, x 22, x 23, x 24, x 25, x 26, x 27, x 28, x 29, x 30, x 31, x 32, x 33, x 34, x 35, x 36, x 37, x 38], []⟩ : Act) from rfl]
   rw [eg, e1]
   clear eg e1
   have xu0 := (Ku.out.ext (ET EE.out HX.out)).1
   have xu1 := (Ku.out.ext (ET EE.out HX.out)).2.1
   have xu2 := (Ku.out.ext (ET EE.out HX.out)).2.2.1
   have xu3 := (Ku.out.ext (ET EE.out HX.out)).2.2.2.1
   have xu4 := (Ku.out.ext (ET EE.out HX.out)).2.2.2.2.1
   have xu5 := (Ku.out.ext (ET EE.out HX.out)).2.2.2.2.2.1
   have xu6 := (Ku.out.ext (ET EE.out HX.out)).2.2.2.2.2.2.1
   have xu7 := (Ku.out.ext (ET EE.out HX.out)).2.2.2.2.2.2.2.1
   have xu8 := (Ku.out.ext (ET EE.out HX.out)).2.2.2.2.2.2.2.2
   go_wp2_with fail
   exact ⟨u.val AX 2 2, rfl, Ext.rfl', rfl⟩
  | 18, _ =>
   refine ⟨fun o ho x wx hE hF hd => ?_⟩
   obtain rfl := Option.some.inj ho
   clear ho
   have eg : x 19 = .bool true := hd 16 (by decide +kernel) _ _ rfl rfl
   clear hd hF
   have HX := LH hE
   clear hE
   rw [show actOf _ x = (⟨#[x 0, x 1, x 2, x 3, x 4, x 5, x 6, x 7, x 8, x 9, x 10, x 11, x 12, x 13, x 14, x 15, x 16, x 17, x 18, x 19, x 20, x 21, x 22, x 23, x 24, x 25, x 26, x 27, x 28, x 29, x 30, x 31, x 32, x 33, x 34, x 35, x 36, x 37, x 38], []⟩ : Act) from rfl]
   rw [eg]
   clear eg
   go_wp2_with fail
   refine (qfrom_any (4) wx ⟨by omega, by omega⟩).mono ?_
   rintro e wy ⟨sq, Aq, nq, cq, tq, Bq, mq, dq, rfl, hQ, hE⟩
   have HQ := LH (holds_q hQ)
   clear hQ
   go_wp2_with fail
   exact ⟨.agg #[.bool sq, .slice Aq nq cq, .bool tq, .slice Bq mq dq], rfl, hE, HQ.out⟩
  | 19, _ =>
   refine ⟨fun o ho x wx hE hF hd => ?_⟩
   obtain rfl := Option.some.inj ho
   clear ho
   have eg : x 19 = .bool true := hd 16 (by decide +kernel) _ _ rfl rfl
   clear hd hF
   have HX := LH hE
   clear hE
   rw [show actOf _ x = (⟨#[x 0, x 1, x 2, x 3, x 4, x 5, x 6, x 7, x 8, x 9, x 10, x 11, x 12, x 13, x 14, x 15, x 16, x 17, x 18, x 19, x 20, x 21, x 22, x 23, x 24, x 25, x 26, x 27, x 28, x 29, x 30, x 31, x 32, x 33, x 34, x 35, x 36, x 37, x 38], []⟩ : Act) from rfl]
   rw [eg]
   clear eg
   go_wp2_with fail
   refine (qfrom_any (16) wx ⟨by omega, by omega⟩).mono ?_
   rintro e wy ⟨sq, Aq, nq, cq, tq, Bq, mq, dq, rfl, hQ, hE⟩
   have HQ := LH (holds_q hQ)
   clear hQ
   go_wp2_with fail
   exact ⟨.agg #[.bool sq, .slice Aq nq cq, .bool tq, .slice Bq mq dq], rfl, hE, HQ.out⟩
  | 20, _ =>
   refine ⟨fun o ho x wx hE hF hd => ?_⟩
   obtain rfl := Option.some.inj ho
   clear ho
   have eg : x 19 = .bool true := hd 16 (by decide +kernel) _ _ rfl rfl
   have ea : x 20 = u.val AX 2 2 := hd 17 (by decide +kernel) _ _ rfl rfl
   obtain ⟨si, Ai, ni, ci, ti, Bi, mi, di, eb, hqi⟩ : (VK.q ((4 : Int) : Rat)).holds (x 21) wx := hd 18 (by decide +kernel) _ _ rfl rfl
   obtain ⟨sj, Aj, nj, cj, tj, Bj, mj, dj, ec, hqj⟩ : (VK.q ((16 : Int) : Rat)).holds (x 22) wx := hd 19 (by decide +kernel) _ _ rfl rfl
   have HQI := LH hqi
   have HQJ := LH hqj
   clear hqi hqj
   clear hd hF
   have HX := LH hE
   clear hE
   rw [show actOf _ x = (⟨#[x 0, x 1, x 2, x 3, x 4, x 5, x 6, x 7, x 8, x 9, x 10, x 11, x 12, x 13, x 14, x 15, x 16, x 17, x 18, x 19, x 20, x 21, x 22, x 23, x 24, x 25, x 26, x 27, x 28, x 29, x 30, x 31, x 32, x 33, x 34, x 35, x 36, x 37, x 38], []⟩ : Act) from rfl]
   rw [eg, ea, eb, ec]
   clear eg ea eb ec
   go_wp2_with fail
   refine (gives_any u AX 2 2 si Ai ni ci ti Bi mi di _ 9 sj Aj nj cj tj Bj mj dj _ _ wx (HS.out.below (ET Ew2.out (ET EE.out HX.out))) (by simp [maxLen]) HOK.out HQI.out.is (Nat.le_trans (HQI.out.len (sz_small (z := 4) (by omega) (by omega))).1 (by omega)) (Nat.le_trans (HQI.out.len (sz_small (z := 4) (by omega) (by omega))).2 (by omega)) HQJ.out HG.out.2.2.2.1 HG.out.2.2.2.2).mono ?_
   rintro e wy ⟨rfl, hE⟩
   go_wp2_with fail
   exact ⟨.bool true, rfl, hE, rfl⟩
  | 21, _ =>
   refine ⟨fun o ho x wx hE hF hd => ?_⟩
   obtain rfl := Option.some.inj ho
   clear ho
   have e19 : x 19 = .bool true := hd 16 (by decide +kernel) _ _ rfl rfl
   have e23 : x 23 = .bool true := hd 20 (by decide +kernel) _ _ rfl rfl
   clear hd hF
   have HX := LH hE
   clear hE
   rw [show actOf _ x = (⟨#[x 0, x 1, x 2, x 3, x 4, x 5, x 6, x 7, x 8, x 9, x 10, x 11, x 12, x 13, x 14, x 15, x 16, x 17, x 18, x 19, x 20, x 21, x 22, x 23, x 24, x 25, x 26, x 27, x 28, x 29, x 30, x 31, x 32, x 33, x 34, x 35, x 36, x 37, x 38], []⟩ : Act) from rfl]
   rw [e19, e23]
   clear e19 e23
   go_wp2_with fail
   exact ⟨.bool true, rfl, Ext.rfl', rfl⟩
  | 22, _ =>
   refine ⟨fun o ho x wx hE hF hd => ?_⟩
   obtain rfl := Option.some.inj ho
   clear ho
   have e24 : x 24 = .bool true := hd 21 (by decide +kernel) _ _ rfl rfl
   clear hd hF
   have HX := LH hE
   clear hE
   rw [show actOf _ x = (⟨#[x 0, x 1, x 2, x 3, x 4, x 5, x 6, x 7, x 8, x 9, x 10, x 11, x 12, x 13, x 14, x 15, x 16, x 17, x 18, x 19, x 20, x 21, x 22, x 23, x 24, x 25, x 26, x 27, x 28, x 29, x 30, x 31, x 32, x 33, x 34, x 35, x 36, x 37, x 38], []⟩ : Act) from rfl]
   rw [e24]
   clear e24
   go_wp2_with fail
   exact ⟨.bool true, rfl, Ext.rfl', rfl⟩
  | 23, _ =>
   refine ⟨fun o ho x wx hE hF hd => ?_⟩
   obtain rfl := Option.some.inj ho
   clear ho
   have eg : x 25 = .bool true := hd 22 (by decide +kernel) _ _ rfl rfl
   have e1 : x 1 = .pointer (some ⟨w1.heap.size, 0, none⟩) := hF 1 (by decide +kernel)
   clear hd hF
   have HX := LH hE
   clear hE
   rw [show actOf _ x = (⟨#[x 0, x 1, x 2, x 3, x 4, x 5, x 6, x 7, x 8, x 9, x 10, x 11, x 12, x 13, x 14, x 15, x 16, x 17, x 18, x 19, x 20, x 21, x 22, x 23, x 24, x 25, x 26, x 27, x 28, x 29, x 30, x 31, x 32, x 33, x 34, x 35, x 36, x 37, x 38], []⟩ : Act) from rfl]
   rw [eg, e1]
   clear eg e1
   have xu0 := (Ku.out.ext (ET EE.out HX.out)).1
   have xu1 := (Ku.out.ext (ET EE.out HX.out)).2.1
   have xu2 := (Ku.out.ext (ET EE.out HX.out)).2.2.1
   have xu3 := (Ku.out.ext (ET EE.out HX.out)).2.2.2.1
   have xu4 := (Ku.out.ext (ET EE.out HX.out)).2.2.2.2.1
   have xu5 := (Ku.out.ext (ET EE.out HX.out)).2.2.2.2.2.1
   have xu6 := (Ku.out.ext (ET EE.out HX.out)).2.2.2.2.2.2.1
   have xu7 := (Ku.out.ext (ET EE.out HX.out)).2.2.2.2.2.2.2.1
   have xu8 := (Ku.out.ext (ET EE.out HX.out)).2.2.2.2.2.2.2.2
   go_wp2_with fail
   exact ⟨u.val AX 2 2, rfl, Ext.rfl', rfl⟩
  | 24, _ =>
   refine ⟨fun o ho x wx hE hF hd => ?_⟩
   obtain rfl := Option.some.inj ho
   clear ho
   have eg : x 25 = .bool true := hd 22 (by decide +kernel) _ _ rfl rfl
   clear hd hF
   have HX := LH hE
   clear hE
   rw [show actOf _ x = (⟨#[x 0, x 1, x 2, x 3, x 4, x 5, x 6, x 7, x 8, x 9, x 10, x 11, x 12, x 13, x 14, x 15, x 16, x 17, x 18, x 19, x 20, x 21, x 22, x 23, x 24, x 25, x 26, x 27, x 28, x 29, x 30, x 31, x 32, x 33, x 34, x 35, x 36, x 37, x 38], []⟩ : Act) from rfl]
   rw [eg]
   clear eg
   go_wp2_with fail
   exact ⟨.slice (some ⟨wx.heap.size, 0, none⟩) 3 3, rfl, Ext.al Ext.rfl' _, ⟨_, 3, rfl, ints_lit wx [2, 4, 1] 2⟩⟩
  | 25, _ =>
   refine ⟨fun o ho x wx hE hF hd => ?_⟩
   obtain rfl := Option.some.inj ho
   clear ho
   have eg : x 25 = .bool true := hd 22 (by decide +kernel) _ _ rfl rfl
   obtain ⟨Ai, ci, ea, hqi⟩ : (VK.ints [2, 4, 1]).holds (x 27) wx := hd 24 (by decide +kernel) _ _ rfl rfl
   have HQI := LH hqi
   clear hqi
   clear hd hF
   have HX := LH hE
   clear hE
   rw [show actOf _ x = (⟨#[x 0, x 1, x 2, x 3, x 4, x 5, x 6, x 7, x 8, x 9, x 10, x 11, x 12, x 13, x 14, x 15, x 16, x 17, x 18, x 19, x 20, x 21, x 22, x 23, x 24, x 25, x 26, x 27, x 28, x 29, x 30, x 31, x 32, x 33, x 34, x 35, x 36, x 37, x 38], []⟩ : Act) from rfl]
   rw [eg, ea]
   clear eg ea
   simp only [List.length_cons, List.length_nil, Nat.zero_add, Nat.reduceAdd] at HQI ⊢
   go_wp2_with fail
   refine (pwhole_any Ai 3 ci [2, 4, 1] wx HQI.out (by omega) (by decide)).mono ?_
   rintro e wy ⟨PX, cX, rfl, hP, hE⟩
   have HP := LH hP
   clear hP
   go_wp2_with fail
   exact ⟨.slice PX 3 cX, rfl, hE, ⟨PX, cX, rfl, HP.out⟩⟩
  | 26, _ =>
   refine ⟨fun o ho x wx hE hF hd => ?_⟩
   obtain rfl := Option.some.inj ho
   clear ho
   have eg : x 25 = .bool true := hd 22 (by decide +kernel) _ _ rfl rfl
   clear hd hF
   have HX := LH hE
   clear hE
   rw [show actOf _ x = (⟨#[x 0, x 1, x 2, x 3, x 4, x 5, x 6, x 7, x 8, x 9, x 10, x 11, x 12, x 13, x 14, x 15, x 16, x 17, x 18, x 19, x 20, x 21, x 22, x 23, x 24, x 25, x 26, x 27, x 28, x 29, x 30, x 31, x 32, x 33, x 34, x 35, x 36, x 37, x 38], []⟩ : Act) from rfl]
   rw [eg]
   clear eg
   go_wp2_with fail
   exact ⟨.slice (some ⟨wx.heap.size, 0, none⟩) 3 3, rfl, Ext.al Ext.rfl' _, ⟨_, 3, rfl, bools_lit wx [true, true, false] 4⟩⟩
  | 27, _ =>
   refine ⟨fun o ho x wx hE hF hd => ?_⟩
   obtain rfl := Option.some.inj ho
   clear ho
   have eg : x 25 = .bool true := hd 22 (by decide +kernel) _ _ rfl rfl
   have ea : x 26 = u.val AX 2 2 := hd 23 (by decide +kernel) _ _ rfl rfl
   obtain ⟨Pi, ci, eb, hqi⟩ : (VK.qs (ratsOf [2, 4, 1])).holds (x 28) wx := hd 25 (by decide +kernel) _ _ rfl rfl
   obtain ⟨Rj, cj, ec, hqj⟩ : (VK.bools [true, true, false]).holds (x 29) wx := hd 26 (by decide +kernel) _ _ rfl rfl
   have HQI := LH hqi
   have HQJ := LH hqj
   clear hqi hqj
   clear hd hF
   have HX := LH hE
   clear hE
   rw [show actOf _ x = (⟨#[x 0, x 1, x 2, x 3, x 4, x 5, x 6, x 7, x 8, x 9, x 10, x 11, x 12, x 13, x 14, x 15, x 16, x 17, x 18, x 19, x 20, x 21, x 22, x 23, x 24, x 25, x 26, x 27, x 28, x 29, x 30, x 31, x 32, x 33, x 34, x 35, x 36, x 37, x 38], []⟩ : Act) from rfl]
   rw [eg, ea, eb, ec]
   clear eg ea eb ec
   rw [show (ratsOf [2, 4, 1]).length = 3 from rfl, show ([true, true, false] : List Bool).length = 3 from rfl]
   go_wp2_with fail
   refine (goes_any u AX 2 2 Pi 3 ci (ratsOf [2, 4, 1]) 13 Rj 3 cj [true, true, false] wx (HS.out.below (ET Ew2.out (ET EE.out HX.out))) (by simp [maxLen]) HQI.out (by omega) HQJ.out (by simp [maxLen]) HOK.out (by omega) HB.out.1.1 HB.out.1.2).mono ?_
   rintro e wy ⟨rfl, hE⟩
   go_wp2_with fail
   exact ⟨.bool true, rfl, hE, rfl⟩
  | 28, _ =>
   refine ⟨fun o ho x wx hE hF hd => ?_⟩
   obtain rfl := Option.some.inj ho
   clear ho
   have e25 : x 25 = .bool true := hd 22 (by decide +kernel) _ _ rfl rfl
   have e30 : x 30 = .bool true := hd 27 (by decide +kernel) _ _ rfl rfl
   clear hd hF
   have HX := LH hE
   clear hE
   rw [show actOf _ x = (⟨#[x 0, x 1, x 2, x 3, x 4, x 5, x 6, x 7, x 8, x 9, x 10, x 11, x 12, x 13, x 14, x 15, x 16, x 17, x 18, x 19, x 20, x 21, x 22, x 23, x 24, x 25, x 26, x 27, x 28, x 29, x 30, x 31, x 32, x 33, x 34, x 35, x 36, x 37, x 38], []⟩ : Act) from rfl]
   rw [e25, e30]
   clear e25 e30
   go_wp2_with fail
   exact ⟨.bool true, rfl, Ext.rfl', rfl⟩
  | 29, _ =>
   refine ⟨fun o ho x wx hE hF hd => ?_⟩
   obtain rfl := Option.some.inj ho
   clear ho
   have e31 : x 31 = .bool true := hd 28 (by decide +kernel) _ _ rfl rfl
   clear hd hF
   have HX := LH hE
   clear hE
   rw [show actOf _ x = (⟨#[x 0, x 1, x 2, x 3, x 4, x 5, x 6, x 7, x 8, x 9, x 10, x 11, x 12, x 13, x 14, x 15, x 16, x 17, x 18, x 19, x 20, x 21, x 22, x 23, x 24, x 25, x 26, x 27, x 28, x 29, x 30, x 31, x 32, x 33, x 34, x 35, x 36, x 37, x 38], []⟩ : Act) from rfl]
   rw [e31]
   clear e31
   go_wp2_with fail
   exact ⟨.bool true, rfl, Ext.rfl', rfl⟩
  | 30, _ =>
   refine ⟨fun o ho x wx hE hF hd => ?_⟩
   obtain rfl := Option.some.inj ho
   clear ho
   have eg : x 32 = .bool true := hd 29 (by decide +kernel) _ _ rfl rfl
   have e1 : x 1 = .pointer (some ⟨w1.heap.size, 0, none⟩) := hF 1 (by decide +kernel)
   clear hd hF
   have HX := LH hE
   clear hE
   rw [show actOf _ x = (⟨#[x 0, x 1, x 2, x 3, x 4, x 5, x 6, x 7, x 8, x 9, x 10, x 11, x 12, x 13, x 14, x 15, x 16, x 17, x 18, x 19, x 20, x 21, x 22, x 23, x 24, x 25, x 26, x 27, x 28, x 29, x 30, x 31, x 32, x 33, x 34, x 35, x 36, x 37, x 38], []⟩ : Act) from rfl]
   rw [eg, e1]
   clear eg e1
   have xu0 := (Ku.out.ext (ET EE.out HX.out)).1
   have xu1 := (Ku.out.ext (ET EE.out HX.out)).2.1
   have xu2 := (Ku.out.ext (ET EE.out HX.out)).2.2.1
   have xu3 := (Ku.out.ext (ET EE.out HX.out)).2.2.2.1
   have xu4 := (Ku.out.ext (ET EE.out HX.out)).2.2.2.2.1
   have xu5 := (Ku.out.ext (ET EE.out HX.out)).2.2.2.2.2.1
   have xu6 := (Ku.out.ext (ET EE.out HX.out)).2.2.2.2.2.2.1
   have xu7 := (Ku.out.ext (ET EE.out HX.out)).2.2.2.2.2.2.2.1
   have xu8 := (Ku.out.ext (ET EE.out HX.out)).2.2.2.2.2.2.2.2
   go_wp2_with fail
   exact ⟨u.val AX 2 2, rfl, Ext.rfl', rfl⟩
  | 31, _ =>
   refine ⟨fun o ho x wx hE hF hd => ?_⟩
   obtain rfl := Option.some.inj ho
   clear ho
   have eg : x 32 = .bool true := hd 29 (by decide +kernel) _ _ rfl rfl
   clear hd hF
   have HX := LH hE
   clear hE
   rw [show actOf _ x = (⟨#[x 0, x 1, x 2, x 3, x 4, x 5, x 6, x 7, x 8, x 9, x 10, x 11, x 12, x 13, x 14, x 15, x 16, x 17, x 18, x 19, x 20, x 21, x 22, x 23, x 24, x 25, x 26, x 27, x 28, x 29, x 30, x 31, x 32, x 33, x 34, x 35, x 36, x 37, x 38], []⟩ : Act) from rfl]
   rw [eg]
   clear eg
   go_wp2_with fail
   exact ⟨.slice (some ⟨wx.heap.size, 0, none⟩) 2 2, rfl, Ext.al Ext.rfl' _, ⟨_, 2, rfl, ints_lit wx [1, 1] 2⟩⟩
  | 32, _ =>
   refine ⟨fun o ho x wx hE hF hd => ?_⟩
   obtain rfl := Option.some.inj ho
   clear ho
   have eg : x 32 = .bool true := hd 29 (by decide +kernel) _ _ rfl rfl
   obtain ⟨Ai, ci, ea, hqi⟩ : (VK.ints [1, 1]).holds (x 34) wx := hd 31 (by decide +kernel) _ _ rfl rfl
   have HQI := LH hqi
   clear hqi
   clear hd hF
   have HX := LH hE
   clear hE
   rw [show actOf _ x = (⟨#[x 0, x 1, x 2, x 3, x 4, x 5, x 6, x 7, x 8, x 9, x 10, x 11, x 12, x 13, x 14, x 15, x 16, x 17, x 18, x 19, x 20, x 21, x 22, x 23, x 24, x 25, x 26, x 27, x 28, x 29, x 30, x 31, x 32, x 33, x 34, x 35, x 36, x 37, x 38], []⟩ : Act) from rfl]
   rw [eg, ea]
   clear eg ea
   simp only [List.length_cons, List.length_nil, Nat.zero_add, Nat.reduceAdd] at HQI ⊢
   go_wp2_with fail
   refine (pwhole_any Ai 2 ci [1, 1] wx HQI.out (by omega) (by decide)).mono ?_
   rintro e wy ⟨PX, cX, rfl, hP, hE⟩
   have HP := LH hP
   clear hP
   go_wp2_with fail
   exact ⟨.slice PX 2 cX, rfl, hE, ⟨PX, cX, rfl, HP.out⟩⟩
  | 33, _ =>
   refine ⟨fun o ho x wx hE hF hd => ?_⟩
   obtain rfl := Option.some.inj ho
   clear ho
   have eg : x 32 = .bool true := hd 29 (by decide +kernel) _ _ rfl rfl
   clear hd hF
   have HX := LH hE
   clear hE
   rw [show actOf _ x = (⟨#[x 0, x 1, x 2, x 3, x 4, x 5, x 6, x 7, x 8, x 9, x 10, x 11, x 12, x 13, x 14, x 15, x 16, x 17, x 18, x 19, x 20, x 21, x 22, x 23, x 24, x 25, x 26, x 27, x 28, x 29, x 30, x 31, x 32, x 33, x 34, x 35, x 36, x 37, x 38], []⟩ : Act) from rfl]
   rw [eg]
   clear eg
   go_wp2_with fail
   exact ⟨.slice (some ⟨wx.heap.size, 0, none⟩) 2 2, rfl, Ext.al Ext.rfl' _, ⟨_, 2, rfl, bools_lit wx [false, false] 4⟩⟩
  | 34, _ =>
   refine ⟨fun o ho x wx hE hF hd => ?_⟩
   obtain rfl := Option.some.inj ho
   clear ho
   have eg : x 32 = .bool true := hd 29 (by decide +kernel) _ _ rfl rfl
   have ea : x 33 = u.val AX 2 2 := hd 30 (by decide +kernel) _ _ rfl rfl
   obtain ⟨Pi, ci, eb, hqi⟩ : (VK.qs (ratsOf [1, 1])).holds (x 35) wx := hd 32 (by decide +kernel) _ _ rfl rfl
   obtain ⟨Rj, cj, ec, hqj⟩ : (VK.bools [false, false]).holds (x 36) wx := hd 33 (by decide +kernel) _ _ rfl rfl
   have HQI := LH hqi
   have HQJ := LH hqj
   clear hqi hqj
   clear hd hF
   have HX := LH hE
   clear hE
   rw [show actOf _ x = (⟨#[x 0, x 1, x 2, x 3, x 4, x 5, x 6, x 7, x 8, x 9, x 10, x 11, x 12, x 13, x 14, x 15, x 16, x 17, x 18, x 19, x 20, x 21, x 22, x 23, x 24, x 25, x 26, x 27, x 28, x 29, x 30, x 31, x 32, x 33, x 34, x 35, x 36, x 37, x 38], []⟩ : Act) from rfl]
   rw [eg, ea, eb, ec]
   clear eg ea eb ec
   rw [show (ratsOf [1, 1]).length = 2 from rfl, show ([false, false] : List Bool).length = 2 from rfl]
   go_wp2_with fail
   refine (goes_any u AX 2 2 Pi 2 ci (ratsOf [1, 1]) 0 Rj 2 cj [false, false] wx (HS.out.below (ET Ew2.out (ET EE.out HX.out))) (by simp [maxLen]) HQI.out (by omega) HQJ.out (by simp [maxLen]) HOK.out (by omega) HB.out.2.1 HB.out.2.2).mono ?_
   rintro e wy ⟨rfl, hE⟩
   go_wp2_with fail
   exact ⟨.bool true, rfl, hE, rfl⟩
  | 35, _ =>
   refine ⟨fun o ho x wx hE hF hd => ?_⟩
   obtain rfl := Option.some.inj ho
   clear ho
   have e32 : x 32 = .bool true := hd 29 (by decide +kernel) _ _ rfl rfl
   have e37 : x 37 = .bool true := hd 34 (by decide +kernel) _ _ rfl rfl
   clear hd hF
   have HX := LH hE
   clear hE
   rw [show actOf _ x = (⟨#[x 0, x 1, x 2, x 3, x 4, x 5, x 6, x 7, x 8, x 9, x 10, x 11, x 12, x 13, x 14, x 15, x 16, x 17, x 18, x 19, x 20, x 21, x 22, x 23, x 24, x 25, x 26, x 27, x 28, x 29, x 30, x 31, x 32, x 33, x 34, x 35, x 36, x 37, x 38], []⟩ : Act) from rfl]
   rw [e32, e37]
   clear e32 e37
   go_wp2_with fail
   exact ⟨.bool true, rfl, Ext.rfl', rfl⟩
  | 36, _ =>
   refine ⟨fun o ho x wx hE hF hd => ?_⟩
   obtain rfl := Option.some.inj ho
   clear ho
   have e38 : x 38 = .bool true := hd 35 (by decide +kernel) _ _ rfl rfl
   clear hd hF
   have HX := LH hE
   clear hE
   rw [show actOf _ x = (⟨#[x 0, x 1, x 2, x 3, x 4, x 5, x 6, x 7, x 8, x 9, x 10, x 11, x 12, x 13, x 14, x 15, x 16, x 17, x 18, x 19, x 20, x 21, x 22, x 23, x 24, x 25, x 26, x 27, x 28, x 29, x 30, x 31, x 32, x 33, x 34, x 35, x 36, x 37, x 38], []⟩ : Act) from rfl]
   rw [e38]
   clear e38
   go_wp2_with fail
   exact ⟨.bool true, rfl, Ext.rfl', rfl⟩
  | k + 37, h => exact absurd h (by simp)
 intro x wx hE hF hV
 have e0 : x 0 = .bool true := hV 36 _ _ rfl rfl
 clear hV hF
 have HX := LH hE
 clear hE
 rw [show actOf _ x = (⟨#[x 0, x 1, x 2, x 3, x 4, x 5, x 6, x 7, x 8, x 9, x 10, x 11, x 12, x 13, x 14, x 15, x 16, x 17, x 18, x 19, x 20, x 21, x 22, x 23, x 24, x 25, x 26, x 27, x 28, x 29, x 30, x 31, x 32, x 33, x 34, x 35, x 36, x 37, x 38], []⟩ : Act) from rfl, e0]
 clear e0
 go_wp2_with fail
 go_ret
 exact ⟨rfl, ET (ET Ew1.out (ET Ew2.out EE.out)) HX.out⟩
end Go.Proofs.YtjinpfnefeiooaaGreat
