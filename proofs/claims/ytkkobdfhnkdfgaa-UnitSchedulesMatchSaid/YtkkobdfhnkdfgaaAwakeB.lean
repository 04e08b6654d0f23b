/- The contract of pylonlaw26.awake: it answers true. -/
import Derived.Test.YtkkobdfhnkdfgaaAwake
namespace Go.Proofs.Ytkkobdfhnkdfgaa
open Go.RowKit

/-- A literal of bools. -/
theorem lit_bools (w : World) (l : List Bool) : BoolsAt (w.alloc (.cells (l.map Value.bool).toArray 4)) (some ⟨w.heap.size, 0, none⟩) l.length l := by
  refine ⟨rfl, fun _ => ⟨w.heap.size, 0, rfl, by simp, fun i hi => ?_⟩⟩
  rw [Nat.zero_add, (Blk.new w 4 (l.map Value.bool).toArray).cell i]
  simp [List.getD, hi]
/-- The box of the chapter's unit. -/
def Aw (w : World) (b : Nat) (A : Option Addr) : Prop := UAt w b exU A 2 2 ∧ StepsAt w A 2 exU.steps
theorem Aw.ext {w w' : World} {b : Nat} {A : Option Addr} (h : Aw w b A) (hb : Ext w w') : Aw w' b A := ⟨h.1.ext hb, h.2.below hb⟩
theorem aw_two (w : World) : RowsAt (((w.alloc (.cells #[.bool false, .bool false] 4)).alloc (.cells #[.bool false, .bool true] 4)).alloc (.cells #[.slice (some ⟨w.heap.size, 0, none⟩) 2 2, .slice (some ⟨w.heap.size + 1, 0, none⟩) 2 2] 32)) (some ⟨w.heap.size + 1 + 1, 0, none⟩) 2 [[false, false], [false, true]] := by
  have h1 := lit_bools w [false, false]
  have h2 := lit_bools (w.alloc (.cells #[.bool false, .bool false] 4)) [false, true]
  have h3 := Blk.new ((w.alloc (.cells #[.bool false, .bool false] 4)).alloc (.cells #[.bool false, .bool true] 4)) 32 #[.slice (some ⟨w.heap.size, 0, none⟩) 2 2, .slice (some ⟨w.heap.size + 1, 0, none⟩) 2 2]
  simp only [World.size_alloc] at h2 h3
  refine ⟨rfl, fun _ => ⟨w.heap.size + 1 + 1, 0, rfl, h3.lt, fun i hi => ?_⟩⟩
  have h : i = 0 ∨ i = 1 := by omega
  rcases h with rfl | rfl
  · exact ⟨_, _, _, h3.cell 0, (BoolsAt.below h1 (Ext.new1 _ _)).below (Ext.new1 _ _), by simp [maxLen]⟩
  · exact ⟨_, _, _, h3.cell 1, BoolsAt.below h2 (Ext.new1 _ _), by simp [maxLen]⟩

set_option maxRecDepth 100000 in
set_option maxHeartbeats 8000000 in
theorem awake_any (w : World) : Calls Try.prog 11 #[] w fun e w' => e = .returned (.bool true) ∧ Ext w w' := by
  have v1 : exU.nextG 1 false = 0 := by decide +kernel
  have v2 : exU.nextGB 1 false = false := by decide +kernel
  have v3 : exU.nextG 2 false = -1 := by decide +kernel
  have v4 : exU.nextGB 2 false = true := by decide +kernel
  have v5 : exU.nextG (-2) true = 1 := by decide +kernel
  have v6 : exU.nextGB (-2) true = true := by decide +kernel
  have v7 : exU.check 1 = 0 := by decide +kernel
  have v8 : exU.check 0 = 1 := by decide +kernel
  have v9 : exU.top = 9 := by decide +kernel
  have v10 : exU.initial = -1 := by decide +kernel
  have v11 : exU.feas [false, false, true, true, false] = true := by decide +kernel
  have v12 : exU.feas [false, true] = true := by decide +kernel
  have v13 : exU.feas [true] = false := by decide +kernel
  have v14 : exU.feas [false, true, false] = false := by decide +kernel
  have v15 : exU.exts 2 exU.init = [[false, false], [false, true]] := by decide +kernel
  have v16 : exU.starts [false, true] = 1 := by decide +kernel
  have v17 : exU.cost [false, true] = 8 := by decide +kernel
  have v18 : exU.ok = true := by decide +kernel
  have V15 := Lib.hid v15
  have V18 := Lib.hid v18
  clear v15 v18
  have hm2 : 2 ≤ maxLen := by simp [maxLen]
  have HM := Lib.hid hm2
  clear hm2
  go_enter Try.func11, Try.ntmps11
  go_wp2_with fail
  refine (ex_any _).mono ?_
  rintro e w1 ⟨rfl, hS1, hb1⟩
  generalize (some ⟨w.heap.size + 1, 0, none⟩ : Option Addr) = A at *
  have HA : Hid (Aw (w1.alloc (exU.cells A 2 2)) w1.heap.size A) := ⟨ubox w1 exU A 2 2, hS1.below (Ext.new1 _ _)⟩
  have HE := Lib.hid (Ext.trans hb1 (Ext.new1 w1 (exU.cells A 2 2)))
  clear hS1
  go_wp2_with fail
  refine (nextG_any exU 1 false A 2 2 _ HA.out.2 HM.out).mono ?_
  rintro e w2 ⟨rfl, hb2⟩
  replace HE := Lib.hid (Ext.trans HE.out hb2)
  replace HA := Lib.hid (HA.out.ext hb2)
  clear hb2
  obtain ⟨d0, d1, d2, d3, d4, d5, d6, d7, d8⟩ := HA.out.1
  have hlt : w1.heap.size < w2.heap.size := World.block_lt_of_cell? _ _ d0
  go_wp2_with fail
  clear d0 d1 d2 d3 d4 d5 d6 d7 d8 hlt
  refine (nextG_any exU 2 false A 2 2 _ HA.out.2 HM.out).mono ?_
  rintro e w3 ⟨rfl, hb3⟩
  replace HE := Lib.hid (Ext.trans HE.out hb3)
  replace HA := Lib.hid (HA.out.ext hb3)
  clear hb3
  obtain ⟨d0, d1, d2, d3, d4, d5, d6, d7, d8⟩ := HA.out.1
  have hlt : w1.heap.size < w3.heap.size := World.block_lt_of_cell? _ _ d0
  go_wp2_with fail
  clear d0 d1 d2 d3 d4 d5 d6 d7 d8 hlt
  refine (nextG_any exU (-2) true A 2 2 _ HA.out.2 HM.out).mono ?_
  rintro e w4 ⟨rfl, hb4⟩
  replace HE := Lib.hid (Ext.trans HE.out hb4)
  replace HA := Lib.hid (HA.out.ext hb4)
  clear hb4
  obtain ⟨d0, d1, d2, d3, d4, d5, d6, d7, d8⟩ := HA.out.1
  have hlt : w1.heap.size < w4.heap.size := World.block_lt_of_cell? _ _ d0
  go_wp2_with fail
  clear d0 d1 d2 d3 d4 d5 d6 d7 d8 hlt
  refine (sched_ok exU 2 (by omega) A 2 2 _ HA.out.2 HM.out V18.out).mono ?_
  rintro e w5 ⟨vA, rfl, hL, hb5⟩
  replace HE := Lib.hid (Ext.trans HE.out hb5)
  replace HA := Lib.hid (HA.out.ext hb5)
  rw [V15.out] at hL
  obtain ⟨AL, cL, rfl, hR⟩ := hL.rows (by omega)
  have HR := Lib.hid hR
  clear hL hR
  clear hb5
  obtain ⟨d0, d1, d2, d3, d4, d5, d6, d7, d8⟩ := HA.out.1
  have hlt : w1.heap.size < w5.heap.size := World.block_lt_of_cell? _ _ d0
  go_wp2_with fail
  clear d0 d1 d2 d3 d4 d5 d6 d7 d8 hlt
  refine (ucheck_any exU 1 A 2 2 _ HA.out.2 HM.out).mono ?_
  rintro e w6 ⟨rfl, hb6⟩
  replace HE := Lib.hid (Ext.trans HE.out hb6)
  replace HA := Lib.hid (HA.out.ext hb6)
  replace HR := Lib.hid (HR.out.below hb6)
  clear hb6
  obtain ⟨d0, d1, d2, d3, d4, d5, d6, d7, d8⟩ := HA.out.1
  have hlt : w1.heap.size < w6.heap.size := World.block_lt_of_cell? _ _ d0
  go_wp2_with fail
  clear d0 d1 d2 d3 d4 d5 d6 d7 d8 hlt
  refine (ucheck_any exU 0 A 2 2 _ HA.out.2 HM.out).mono ?_
  rintro e w7 ⟨rfl, hb7⟩
  replace HE := Lib.hid (Ext.trans HE.out hb7)
  replace HA := Lib.hid (HA.out.ext hb7)
  replace HR := Lib.hid (HR.out.below hb7)
  clear hb7
  obtain ⟨d0, d1, d2, d3, d4, d5, d6, d7, d8⟩ := HA.out.1
  have hlt : w1.heap.size < w7.heap.size := World.block_lt_of_cell? _ _ d0
  go_wp2_with fail
  clear d0 d1 d2 d3 d4 d5 d6 d7 d8 hlt
  refine (max_any exU A 2 2 _ HA.out.2 HM.out).mono ?_
  rintro e w8 ⟨rfl, hb8⟩
  replace HE := Lib.hid (Ext.trans HE.out hb8)
  replace HA := Lib.hid (HA.out.ext hb8)
  replace HR := Lib.hid (HR.out.below hb8)
  clear hb8
  obtain ⟨d0, d1, d2, d3, d4, d5, d6, d7, d8⟩ := HA.out.1
  have hlt : w1.heap.size < w8.heap.size := World.block_lt_of_cell? _ _ d0
  go_wp2_with fail
  clear d0 d1 d2 d3 d4 d5 d6 d7 d8 hlt
  refine (initial_any exU A 2 2 _ HA.out.2 HM.out).mono ?_
  rintro e w9 ⟨rfl, hb9⟩
  replace HE := Lib.hid (Ext.trans HE.out hb9)
  replace HA := Lib.hid (HA.out.ext hb9)
  replace HR := Lib.hid (HR.out.below hb9)
  clear hb9
  obtain ⟨d0, d1, d2, d3, d4, d5, d6, d7, d8⟩ := HA.out.1
  have hlt : w1.heap.size < w9.heap.size := World.block_lt_of_cell? _ _ d0
  go_wp2_with fail
  clear d0 d1 d2 d3 d4 d5 d6 d7 d8 hlt
  refine (feasible_any exU A 2 2 _ 5 5 [false, false, true, true, false] _ (HA.out.2.below (Ext.new1 _ _)) HM.out (lit_bools _ [false, false, true, true, false]) (by simp [maxLen])).mono ?_
  rintro e w10 ⟨rfl, hb10⟩
  replace HE := Lib.hid (Ext.trans HE.out (Ext.new hb10))
  replace HA := Lib.hid (HA.out.ext (Ext.new hb10))
  replace HR := Lib.hid (HR.out.below (Ext.new hb10))
  clear hb10
  obtain ⟨d0, d1, d2, d3, d4, d5, d6, d7, d8⟩ := HA.out.1
  have hlt : w1.heap.size < w10.heap.size := World.block_lt_of_cell? _ _ d0
  go_wp2_with fail
  clear d0 d1 d2 d3 d4 d5 d6 d7 d8 hlt
  refine (feasible_any exU A 2 2 _ 2 2 [false, true] _ (HA.out.2.below (Ext.new1 _ _)) HM.out (lit_bools _ [false, true]) (by simp [maxLen])).mono ?_
  rintro e w11 ⟨rfl, hb11⟩
  replace HE := Lib.hid (Ext.trans HE.out (Ext.new hb11))
  replace HA := Lib.hid (HA.out.ext (Ext.new hb11))
  replace HR := Lib.hid (HR.out.below (Ext.new hb11))
  clear hb11
  obtain ⟨d0, d1, d2, d3, d4, d5, d6, d7, d8⟩ := HA.out.1
  have hlt : w1.heap.size < w11.heap.size := World.block_lt_of_cell? _ _ d0
  go_wp2_with fail
  clear d0 d1 d2 d3 d4 d5 d6 d7 d8 hlt
  refine (feasible_any exU A 2 2 _ 1 1 [true] _ (HA.out.2.below (Ext.new1 _ _)) HM.out (lit_bools _ [true]) (by simp [maxLen])).mono ?_
  rintro e w12 ⟨rfl, hb12⟩
  replace HE := Lib.hid (Ext.trans HE.out (Ext.new hb12))
  replace HA := Lib.hid (HA.out.ext (Ext.new hb12))
  replace HR := Lib.hid (HR.out.below (Ext.new hb12))
  clear hb12
  obtain ⟨d0, d1, d2, d3, d4, d5, d6, d7, d8⟩ := HA.out.1
  have hlt : w1.heap.size < w12.heap.size := World.block_lt_of_cell? _ _ d0
  go_wp2_with fail
  clear d0 d1 d2 d3 d4 d5 d6 d7 d8 hlt
  refine (feasible_any exU A 2 2 _ 3 3 [false, true, false] _ (HA.out.2.below (Ext.new1 _ _)) HM.out (lit_bools _ [false, true, false]) (by simp [maxLen])).mono ?_
  rintro e w13 ⟨rfl, hb13⟩
  replace HE := Lib.hid (Ext.trans HE.out (Ext.new hb13))
  replace HA := Lib.hid (HA.out.ext (Ext.new hb13))
  replace HR := Lib.hid (HR.out.below (Ext.new hb13))
  clear hb13
  obtain ⟨d0, d1, d2, d3, d4, d5, d6, d7, d8⟩ := HA.out.1
  have hlt : w1.heap.size < w13.heap.size := World.block_lt_of_cell? _ _ d0
  go_wp2_with fail
  clear d0 d1 d2 d3 d4 d5 d6 d7 d8 hlt
  refine (sameAll_any AL _ cL _ _ 2 2 _ _ (HR.out.below (Ext.trans (Ext.new1 _ _) (Ext.trans (Ext.new1 _ _) (Ext.new1 _ _)))) (aw_two _) (by simp [maxLen])).mono ?_
  rintro e w14 ⟨rfl, hb14⟩
  replace HE := Lib.hid (Ext.trans HE.out (Ext.new (Ext.new (Ext.new hb14))))
  replace HA := Lib.hid (HA.out.ext (Ext.new (Ext.new (Ext.new hb14))))
  clear hb14
  obtain ⟨d0, d1, d2, d3, d4, d5, d6, d7, d8⟩ := HA.out.1
  have hlt : w1.heap.size < w14.heap.size := World.block_lt_of_cell? _ _ d0
  go_wp2_with fail
  clear d0 d1 d2 d3 d4 d5 d6 d7 d8 hlt
  refine (starts_any exU A 2 2 _ 2 2 [false, true] _ (HA.out.2.below (Ext.new1 _ _)) HM.out (lit_bools _ [false, true]) (by simp [maxLen])).mono ?_
  rintro e w15 ⟨rfl, hb15⟩
  replace HE := Lib.hid (Ext.trans HE.out (Ext.new hb15))
  replace HA := Lib.hid (HA.out.ext (Ext.new hb15))
  clear hb15
  obtain ⟨d0, d1, d2, d3, d4, d5, d6, d7, d8⟩ := HA.out.1
  have hlt : w1.heap.size < w15.heap.size := World.block_lt_of_cell? _ _ d0
  go_wp2_with fail
  clear d0 d1 d2 d3 d4 d5 d6 d7 d8 hlt
  refine (cost_any exU A 2 2 _ 2 2 [false, true] _ (HA.out.2.below (Ext.new1 _ _)) HM.out (lit_bools _ [false, true]) (by omega)).mono ?_
  rintro e w16 ⟨rfl, hb16⟩
  replace HE := Lib.hid (Ext.trans HE.out (Ext.new hb16))
  replace HA := Lib.hid (HA.out.ext (Ext.new hb16))
  clear hb16
  obtain ⟨d0, d1, d2, d3, d4, d5, d6, d7, d8⟩ := HA.out.1
  have hlt : w1.heap.size < w16.heap.size := World.block_lt_of_cell? _ _ d0
  go_wp2_with fail
  clear d0 d1 d2 d3 d4 d5 d6 d7 d8 hlt
  go_ret
  exact ⟨rfl, HE.out⟩
end Go.Proofs.Ytkkobdfhnkdfgaa
