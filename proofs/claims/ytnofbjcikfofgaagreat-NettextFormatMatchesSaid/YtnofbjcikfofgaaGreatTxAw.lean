/- The functions ex and awake of the Nettext laws. Printed by gen_txaw.py. -/
import Derived.Test.YtnofbjcikfofgaaGreatTxLaw
namespace Go.Proofs.YtnofbjcikfofgaaGreat
open Go.RowKit
theorem nr_ext : ∀ {x : NR} {b nx e : Int} {ls : List (List Int)}, x.b = b ∧ x.ls = ls ∧ x.nx = nx ∧ x.e = e → x = ⟨b, ls, nx, e⟩
  | ⟨_, _, _, _⟩, _, _, _, _, ⟨rfl, rfl, rfl, rfl⟩ => rfl
theorem or_ext : ∀ {x : OR} {kd wh fr to_ nx e : Int}, x.kd = kd ∧ x.wh = wh ∧ x.fr = fr ∧ x.to_ = to_ ∧ x.nx = nx ∧ x.e = e → x = ⟨kd, wh, fr, to_, nx, e⟩
  | ⟨_, _, _, _, _, _⟩, _, _, _, _, _, _, ⟨rfl, rfl, rfl, rfl, rfl, rfl⟩ => rfl
def exLs : List (List Int) := [[0, 1, 10, 100], [1, 2, 5, 50]]
theorem aw_s : netT 3 exLs = ([40, 110, 101, 116, 32, 51, 32, 40, 108, 105, 110, 101, 32, 48, 32, 49, 32, 49, 48, 32, 49, 48, 48, 41, 32, 40, 108, 105, 110, 101, 32, 49, 32, 50, 32, 53, 32, 53, 48, 41, 41], 0) := by decide +kernel
theorem aw_t : outT 1 2 0 5 = ([40, 112, 108, 97, 110, 32, 50, 32, 48, 32, 53, 41], 0) := by decide +kernel
theorem aw0 : netR [40, 110, 101, 116, 32, 51, 32, 40, 108, 105, 110, 101, 32, 48, 32, 49, 32, 49, 48, 32, 49, 48, 48, 41, 32, 40, 108, 105, 110, 101, 32, 49, 32, 50, 32, 53, 32, 53, 48, 41, 41] 0 = ⟨3, exLs, 41, 0⟩ := nr_ext (by decide +kernel)
theorem aw1 : netR [40, 110, 101, 116, 32, 49, 41] 0 = ⟨1, [], 7, 0⟩ := nr_ext (by decide +kernel)
theorem aw2 : outR [40, 112, 108, 97, 110, 32, 50, 32, 48, 32, 53, 41] 0 = ⟨1, 2, 0, 5, 12, 0⟩ := or_ext (by decide +kernel)
theorem aw3 : netR [40, 110, 101, 116, 32, 48, 41] 0 = ⟨0, [], 0, 1⟩ := nr_ext (by decide +kernel)
theorem aw4 : netR [40, 110, 101, 116, 32, 50, 32, 40, 108, 105, 110, 101, 32, 48, 32, 49, 32, 49, 48, 41, 41] 0 = ⟨0, [], 0, 3⟩ := nr_ext (by decide +kernel)
theorem aw5 : netR [40, 110, 101, 116, 32, 50, 32, 40, 108, 105, 110, 101, 32, 48, 32, 49, 32, 49, 48, 32, 49, 48, 48, 41] 0 = ⟨0, [], 0, 4⟩ := nr_ext (by decide +kernel)
theorem aw6 : netR [40, 110, 101, 116, 32, 50, 32, 40, 108, 105, 110, 101, 32, 48, 32, 48, 32, 49, 32, 49, 41, 41] 0 = ⟨0, [], 0, 1⟩ := nr_ext (by decide +kernel)
theorem aw7 : outR [40, 115, 116, 111, 112, 32, 50, 32, 48, 32, 53, 41] 0 = ⟨0, 0, 0, 0, 0, 3⟩ := or_ext (by decide +kernel)
theorem aw8 : outR [40, 116, 114, 105, 112, 32, 53, 32, 48, 32, 48, 41] 0 = ⟨0, 0, 0, 0, 0, 1⟩ := or_ext (by decide +kernel)
theorem aw9 : outR [40, 112, 108, 97, 110, 32, 53, 32, 48, 32, 48, 41] 0 = ⟨1, 5, 0, 0, 12, 0⟩ := or_ext (by decide +kernel)
theorem aw10 : outR [40, 108, 111, 115, 115, 32, 48, 32, 51, 32, 50, 41] 0 = ⟨0, 0, 0, 0, 0, 1⟩ := or_ext (by decide +kernel)
theorem lines_nil (w : World) : LinesAt w none 0 [] := ⟨rfl, fun h => absurd h (by omega)⟩
set_option maxRecDepth 100000 in
set_option maxHeartbeats 4000000 in
theorem ex_any (w : World) : Calls Tryz.prog 17 #[] w fun e w' => ∃ A c, e = .returned (.agg #[.int .i64 3, .slice A 2 c]) ∧ LinesAt w' A 2 exLs ∧ Ext w w' := by
  go_enter Tryz.func17, Tryz.ntmps17
  go_wp2_with fail
  have hsz : (w.alloc (.cells #[.int .i64 3, .slice (some ⟨w.heap.size + 1, 0, none⟩) 2 2] 24)).heap.size = w.heap.size + 1 := by simp
  have hb := Blk.new (w.alloc (.cells #[.int .i64 3, .slice (some ⟨w.heap.size + 1, 0, none⟩) 2 2] 24)) 46 #[.int .i64 0, .int .i64 1, .int .i64 10, .int .i64 100, .int .i64 1, .int .i64 2, .int .i64 5, .int .i64 50]
  have hc := Cell2.ext (Cell2.new w _ rfl (.int .i64 3) (.slice (some ⟨w.heap.size + 1, 0, none⟩) 2 2) 24) (Ext.al (Ext.rfl' (w := (w.alloc (.cells #[.int .i64 3, .slice (some ⟨w.heap.size + 1, 0, none⟩) 2 2] 24)))) (.cells #[.int .i64 0, .int .i64 1, .int .i64 10, .int .i64 100, .int .i64 1, .int .i64 2, .int .i64 5, .int .i64 50] 46))
  have hE : Ext w ((w.alloc (.cells #[.int .i64 3, .slice (some ⟨w.heap.size + 1, 0, none⟩) 2 2] 24)).alloc (.cells #[.int .i64 0, .int .i64 1, .int .i64 10, .int .i64 100, .int .i64 1, .int .i64 2, .int .i64 5, .int .i64 50] 46)) := Ext.trans (Ext.al Ext.rfl' _) (Ext.al Ext.rfl' _)
  rw [hsz] at hb
  obtain ⟨c0, c1, -, -, -⟩ := hc
  refine bodyPost_ret (v := .agg #[.int .i64 3, .slice (some ⟨w.heap.size + 1, 0, none⟩) 2 2]) (by simp [results, Tryz.results17, go_sem, c0, c1]) rfl ?_
  refine ⟨_, _, rfl, ⟨rfl, fun _ => ⟨w.heap.size + 1, 0, rfl, hb.lt, fun i hi => ?_⟩⟩, hE⟩
  simp only [hb.cell]
  match i, hi with
  | 0, _ => exact ⟨rfl, rfl, rfl, rfl⟩
  | 1, _ => exact ⟨rfl, rfl, rfl, rfl⟩
set_option maxRecDepth 100000 in
set_option maxHeartbeats 16000000 in
theorem awake_true (w : World) : Calls Tryz.prog 6 #[] w fun e w' => e = .returned (.bool true) ∧ Ext w w' := by
  go_enter Tryz.func6, Tryz.ntmps6
  go_wp2_with fail
  refine (ex_any w).mono ?_
  rintro e w1 ⟨A, c, rfl, hL, hE1⟩
  have HL := Lib.hid hL
  have HE1 := Lib.hid hE1
  clear hL hE1
  go_wp2_with fail
  have hf := fmtnet_any 3 A 2 c exLs w1 HL.out (by omega)
  rw [aw_s] at hf
  refine hf.mono ?_
  clear hf
  rintro e w2 ⟨rfl, hE2⟩
  have HE2 := Lib.hid (Ext.trans HE1.out hE2)
  clear hE2
  have hs1 : bs [40, 110, 101, 116, 32, 51, 32, 40, 108, 105, 110, 101, 32, 48, 32, 49, 32, 49, 48, 32, 49, 48, 48, 41, 32, 40, 108, 105, 110, 101, 32, 49, 32, 50, 32, 53, 32, 53, 48, 41, 41] = ⟨#[40, 110, 101, 116, 32, 51, 32, 40, 108, 105, 110, 101, 32, 48, 32, 49, 32, 49, 48, 32, 49, 48, 48, 41, 32, 40, 108, 105, 110, 101, 32, 49, 32, 50, 32, 53, 32, 53, 48, 41, 41]⟩ := rfl
  simp only [hs1]
  go_wp2_with fail
  have hf := fmtout_any 1 2 0 5 w2
  rw [aw_t] at hf
  refine hf.mono ?_
  clear hf
  rintro e w3 ⟨rfl, hE3⟩
  have HE3 := Lib.hid (Ext.trans HE2.out hE3)
  clear hE3 hs1
  have hs2 : bs [40, 112, 108, 97, 110, 32, 50, 32, 48, 32, 53, 41] = ⟨#[40, 112, 108, 97, 110, 32, 50, 32, 48, 32, 53, 41]⟩ := rfl
  simp only [hs2]
  clear hs2
  go_wp2_with fail
  refine (ex_any w3).mono ?_
  rintro e w4 ⟨A2, c2, rfl, hL, hE4⟩
  have HL2 := Lib.hid hL
  have HE4 := Lib.hid (Ext.trans HE3.out hE4)
  clear hL hE4
  go_wp2_with fail
  refine (grid_true ⟨#[40, 110, 101, 116, 32, 51, 32, 40, 108, 105, 110, 101, 32, 48, 32, 49, 32, 49, 48, 32, 49, 48, 48, 41, 32, 40, 108, 105, 110, 101, 32, 49, 32, 50, 32, 53, 32, 53, 48, 41, 41]⟩ 0 3 A2 2 c2 41 0 exLs w4 aw0 HL2.out (show (⟨#[40, 110, 101, 116, 32, 51, 32, 40, 108, 105, 110, 101, 32, 48, 32, 49, 32, 49, 48, 32, 49, 48, 48, 41, 32, 40, 108, 105, 110, 101, 32, 49, 32, 50, 32, 53, 32, 53, 48, 41, 41]⟩ : ByteArray).size ≤ maxLen by decide +kernel) (by omega)).mono ?_
  rintro e w5 ⟨rfl, hE⟩
  have HE5 := Lib.hid (Ext.trans HE4.out hE)
  clear hE
  go_wp2_with fail
  refine (grid_true ⟨#[40, 110, 101, 116, 32, 49, 41]⟩ 0 1 none 0 0 7 0 [] w5 aw1 (lines_nil _) (show (⟨#[40, 110, 101, 116, 32, 49, 41]⟩ : ByteArray).size ≤ maxLen by decide +kernel) (by omega)).mono ?_
  rintro e w6 ⟨rfl, hE⟩
  have HE6 := Lib.hid (Ext.trans HE5.out hE)
  clear hE
  go_wp2_with fail
  refine (lost_true ⟨#[40, 112, 108, 97, 110, 32, 50, 32, 48, 32, 53, 41]⟩ 0 1 2 0 5 12 0 w6 aw2 (show (⟨#[40, 112, 108, 97, 110, 32, 50, 32, 48, 32, 53, 41]⟩ : ByteArray).size ≤ maxLen by decide +kernel)).mono ?_
  rintro e w7 ⟨rfl, hE⟩
  have HE7 := Lib.hid (Ext.trans HE6.out hE)
  clear hE
  go_wp2_with fail
  refine (grid_true ⟨#[40, 110, 101, 116, 32, 48, 41]⟩ 0 0 none 0 0 0 1 [] w7 aw3 (lines_nil _) (show (⟨#[40, 110, 101, 116, 32, 48, 41]⟩ : ByteArray).size ≤ maxLen by decide +kernel) (by omega)).mono ?_
  rintro e w8 ⟨rfl, hE⟩
  have HE8 := Lib.hid (Ext.trans HE7.out hE)
  clear hE
  go_wp2_with fail
  refine (grid_true ⟨#[40, 110, 101, 116, 32, 50, 32, 40, 108, 105, 110, 101, 32, 48, 32, 49, 32, 49, 48, 41, 41]⟩ 0 0 none 0 0 0 3 [] w8 aw4 (lines_nil _) (show (⟨#[40, 110, 101, 116, 32, 50, 32, 40, 108, 105, 110, 101, 32, 48, 32, 49, 32, 49, 48, 41, 41]⟩ : ByteArray).size ≤ maxLen by decide +kernel) (by omega)).mono ?_
  rintro e w9 ⟨rfl, hE⟩
  have HE9 := Lib.hid (Ext.trans HE8.out hE)
  clear hE
  go_wp2_with fail
  refine (grid_true ⟨#[40, 110, 101, 116, 32, 50, 32, 40, 108, 105, 110, 101, 32, 48, 32, 49, 32, 49, 48, 32, 49, 48, 48, 41]⟩ 0 0 none 0 0 0 4 [] w9 aw5 (lines_nil _) (show (⟨#[40, 110, 101, 116, 32, 50, 32, 40, 108, 105, 110, 101, 32, 48, 32, 49, 32, 49, 48, 32, 49, 48, 48, 41]⟩ : ByteArray).size ≤ maxLen by decide +kernel) (by omega)).mono ?_
  rintro e w10 ⟨rfl, hE⟩
  have HE10 := Lib.hid (Ext.trans HE9.out hE)
  clear hE
  go_wp2_with fail
  refine (grid_true ⟨#[40, 110, 101, 116, 32, 50, 32, 40, 108, 105, 110, 101, 32, 48, 32, 48, 32, 49, 32, 49, 41, 41]⟩ 0 0 none 0 0 0 1 [] w10 aw6 (lines_nil _) (show (⟨#[40, 110, 101, 116, 32, 50, 32, 40, 108, 105, 110, 101, 32, 48, 32, 48, 32, 49, 32, 49, 41, 41]⟩ : ByteArray).size ≤ maxLen by decide +kernel) (by omega)).mono ?_
  rintro e w11 ⟨rfl, hE⟩
  have HE11 := Lib.hid (Ext.trans HE10.out hE)
  clear hE
  go_wp2_with fail
  refine (lost_true ⟨#[40, 115, 116, 111, 112, 32, 50, 32, 48, 32, 53, 41]⟩ 0 0 0 0 0 0 3 w11 aw7 (show (⟨#[40, 115, 116, 111, 112, 32, 50, 32, 48, 32, 53, 41]⟩ : ByteArray).size ≤ maxLen by decide +kernel)).mono ?_
  rintro e w12 ⟨rfl, hE⟩
  have HE12 := Lib.hid (Ext.trans HE11.out hE)
  clear hE
  go_wp2_with fail
  refine (lost_true ⟨#[40, 116, 114, 105, 112, 32, 53, 32, 48, 32, 48, 41]⟩ 0 0 0 0 0 0 1 w12 aw8 (show (⟨#[40, 116, 114, 105, 112, 32, 53, 32, 48, 32, 48, 41]⟩ : ByteArray).size ≤ maxLen by decide +kernel)).mono ?_
  rintro e w13 ⟨rfl, hE⟩
  have HE13 := Lib.hid (Ext.trans HE12.out hE)
  clear hE
  go_wp2_with fail
  refine (lost_true ⟨#[40, 112, 108, 97, 110, 32, 53, 32, 48, 32, 48, 41]⟩ 0 1 5 0 0 12 0 w13 aw9 (show (⟨#[40, 112, 108, 97, 110, 32, 53, 32, 48, 32, 48, 41]⟩ : ByteArray).size ≤ maxLen by decide +kernel)).mono ?_
  rintro e w14 ⟨rfl, hE⟩
  have HE14 := Lib.hid (Ext.trans HE13.out hE)
  clear hE
  go_wp2_with fail
  refine (lost_true ⟨#[40, 108, 111, 115, 115, 32, 48, 32, 51, 32, 50, 41]⟩ 0 0 0 0 0 0 1 w14 aw10 (show (⟨#[40, 108, 111, 115, 115, 32, 48, 32, 51, 32, 50, 41]⟩ : ByteArray).size ≤ maxLen by decide +kernel)).mono ?_
  rintro e w15 ⟨rfl, hE⟩
  have HE15 := Lib.hid (Ext.trans HE14.out hE)
  clear hE
  go_wp2_with fail
  go_ret
  exact ⟨rfl, HE15.out⟩
end Go.Proofs.YtnofbjcikfofgaaGreat
