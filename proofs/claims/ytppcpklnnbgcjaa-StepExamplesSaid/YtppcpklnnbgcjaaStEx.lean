/- The law StepExamples returns true. Printed by gen_sx.py. -/
import Derived.Test.YtppcpklnnbgcjaaAwake23
import Derived.Test.YtppcpklnnbgcjaaNeg
import Derived.Test.YtppcpklnnbgcjaaStLx
import Derived.Test.YtppcpklnnbgcjaaRefR
namespace Go.Proofs.Ytppcpklnnbgcjaa
open Go.RowKit

theorem intsL (w : World) (t : TypeId) (cs : Array Value) (zs : List Int) (h : cs = (zs.map (Value.int .i64)).toArray) : IntsAt (w.alloc (.cells cs t)) (some ⟨w.heap.size, 0, none⟩) zs.length zs := by
  refine ⟨rfl, w.heap.size, 0, rfl, by simp, fun i hi => ?_⟩
  have hb := Blk.new w t cs
  rw [Nat.zero_add, hb.cell, h]
  simp [List.getD, List.getElem?_eq_getElem hi]
/-- A row of the table: a curve, what CheckOffer, CheckBid and Sum say. -/
structure XR where
  A : Option Addr
  n : Nat
  c : Nat
  xs : List (Int × Int)
  o : Int
  b : Int
  s : Int
instance : Inhabited XR := ⟨⟨none, 0, 0, [], 4, 4, 0⟩⟩
def xr0 : XR := ⟨none, 0, 0, [], 4, 4, 0⟩
def xrCells (R : List XR) : List Value := R.flatMap fun x => [.slice x.A x.n x.c, .int .i64 x.o, .int .i64 x.b, .int .i64 x.s]
theorem xrCells_get : ∀ (R : List XR) (i : Nat), i < R.length → (xrCells R)[i * 4]? = some (.slice (R.getD i xr0).A (R.getD i xr0).n (R.getD i xr0).c) ∧ (xrCells R)[i * 4 + 1]? = some (.int .i64 (R.getD i xr0).o) ∧ (xrCells R)[i * 4 + 2]? = some (.int .i64 (R.getD i xr0).b) ∧ (xrCells R)[i * 4 + 3]? = some (.int .i64 (R.getD i xr0).s)
  | [], i, h => by simp at h
  | z :: R, 0, _ => ⟨rfl, rfl, rfl, rfl⟩
  | z :: R, i + 1, h => by
    have := xrCells_get R i (by simpa using h)
    have e : ∀ r, r < 4 → (xrCells (z :: R))[(i + 1) * 4 + r]? = (xrCells R)[i * 4 + r]? := fun r hr => by
      show ([Value.slice z.A z.n z.c, .int .i64 z.o, .int .i64 z.b, .int .i64 z.s] ++ xrCells R)[(i + 1) * 4 + r]? = _
      rw [List.getElem?_append_right (by simp; omega)]
      congr 1
      simp
      omega
    have e0 := e 0 (by omega)
    simp only [Nat.add_zero] at e0
    rw [e0, e 1 (by omega), e 2 (by omega), e 3 (by omega)]
    simpa [List.getD] using this
def XOk (w : World) (x : XR) : Prop := StepsAt w x.A x.n x.xs ∧ x.n ≤ maxLen ∧ chk true x.xs = x.o ∧ chk false x.xs = x.b ∧ total x.xs = x.s
/-- The table in memory. -/
def XTab (w : World) (g : Nat) (R : List XR) : Prop := g < w.heap.size ∧ ∀ i, i < R.length → (w.cell? ⟨g, i * 4, none⟩ = some (.slice (R.getD i xr0).A (R.getD i xr0).n (R.getD i xr0).c) ∧ w.cell? ⟨g, i * 4 + 1, none⟩ = some (.int .i64 (R.getD i xr0).o) ∧ w.cell? ⟨g, i * 4 + 2, none⟩ = some (.int .i64 (R.getD i xr0).b) ∧ w.cell? ⟨g, i * 4 + 3, none⟩ = some (.int .i64 (R.getD i xr0).s)) ∧ XOk w (R.getD i xr0)
theorem XTab.of {w w' : World} {g : Nat} {t : TypeId} {R : List XR} (h : Blk w' g t (xrCells R).toArray) (hE : Ext w w') (hR : ∀ x ∈ R, XOk w x) : XTab w' g R := ⟨h.lt, fun i hi => by
  obtain ⟨h1, h2, h3, h4⟩ := xrCells_get R i hi
  refine ⟨?_, ?_⟩
  · rw [h.cell, h.cell, h.cell, h.cell]
    simp only [List.getElem?_toArray]
    exact ⟨h1, h2, h3, h4⟩
  · have hm : R.getD i xr0 ∈ R := by
      rw [show R.getD i xr0 = R[i] by simp [List.getD, List.getElem?_eq_getElem hi]]
      exact List.getElem_mem hi
    obtain ⟨a, b⟩ := hR _ hm
    exact ⟨a.below hE, b⟩⟩
theorem XTab.ext {w w' : World} {g : Nat} {R : List XR} (h : XTab w g R) (hE : Ext w w') : XTab w' g R := ⟨Nat.lt_of_lt_of_le h.1 hE.size, fun i hi => by
  obtain ⟨⟨a, b, c, d⟩, e, f⟩ := h.2 i hi
  exact ⟨⟨Ext.cellOf hE a, Ext.cellOf hE b, Ext.cellOf hE c, Ext.cellOf hE d⟩, e.below hE, f⟩⟩
theorem sxw2 (w : World) (t : TypeId) (a b : Nat) (ha : a < 4294967296) (hb : b < 4294967296) : WordsAt (w.alloc (.cells #[.int .u32 (a : Int), .int .u32 (b : Int)] t)) (some ⟨w.heap.size, 0, none⟩) 2 [a, b] := by
  refine ⟨rfl, ?_, fun _ => ⟨w.heap.size, 0, rfl, by simp, fun i hi => ?_⟩⟩
  · intro x hx
    simp at hx
    rcases hx with rfl | rfl <;> omega
  · have : i = 0 ∨ i = 1 := by omega
    rcases this with rfl | rfl <;> simp [go_sem]
theorem sxw1 (w : World) (t : TypeId) (a : Nat) (ha : a < 4294967296) : WordsAt (w.alloc (.cells #[.int .u32 (a : Int)] t)) (some ⟨w.heap.size, 0, none⟩) 1 [a] := by
  refine ⟨rfl, ?_, fun _ => ⟨w.heap.size, 0, rfl, by simp, fun i hi => ?_⟩⟩
  · intro x hx
    simp at hx
    omega
  · obtain rfl : i = 0 := by omega
    simp [go_sem]
theorem sx_q : qOf (-24) (-2) = (12 : Rat) := by decide +kernel
theorem sx_cost : (allocE [((10 : Int), (3 : Int)), (5, 7)] (12 : Rat) = 0 ∧ costV [((10 : Int), (3 : Int)), (5, 7)] (12 : Rat) = ((44 : Int) : Rat)) ∧ (allocE [((10 : Int), (3 : Int)), (5, 7)] ((15 : Int) : Rat) = 0 ∧ costV [((10 : Int), (3 : Int)), (5, 7)] ((15 : Int) : Rat) = ((65 : Int) : Rat)) ∧ (allocE [((10 : Int), (3 : Int)), (5, 7)] (0 : Rat) = 0 ∧ costV [((10 : Int), (3 : Int)), (5, 7)] (0 : Rat) = (0 : Rat)) ∧ (allocE [((10 : Int), (3 : Int)), (5, 7)] (qOf 21 2) = 0 ∧ costV [((10 : Int), (3 : Int)), (5, 7)] (qOf 21 2) = qOf 67 2) ∧ (allocE [((1000000 : Int), (-1000000 : Int))] ((1000000 : Int) : Rat) = 0 ∧ costV [((1000000 : Int), (-1000000 : Int))] ((1000000 : Int) : Rat) = ((-1000000000000 : Int) : Rat)) := by decide +kernel
theorem sx_err : allocE [((10 : Int), (3 : Int)), (5, 7)] ((16 : Int) : Rat) = 1 ∧ allocE [((10 : Int), (3 : Int)), (5, 7)] ((-1 : Int) : Rat) = 1 ∧ allocE [((1 : Int), (5 : Int)), (1, 5)] ((-1 : Int) : Rat) = 3 ∧ allocE [((1 : Int), (5 : Int)), (1, 4), (0, 1)] ((0 : Int) : Rat) = 3 ∧ chk false [((10 : Int), (3 : Int)), (5, 7)] = 3 ∧ chk true [] = 4 := by decide +kernel
theorem sx_want : (chk true [((10 : Int), (3 : Int)), (5, 7)] = 0 ∧ wantL true [((10 : Int), (3 : Int)), (5, 7)] (qOf 5 2) = 0 ∧ wantM true [((10 : Int), (3 : Int)), (5, 7)] (qOf 5 2) = 0) ∧ (chk true [((10 : Int), (3 : Int)), (5, 7)] = 0 ∧ wantL true [((10 : Int), (3 : Int)), (5, 7)] (qOf 15 2) = 15 ∧ wantM true [((10 : Int), (3 : Int)), (5, 7)] (qOf 15 2) = 15) := by decide +kernel
theorem sx_neg : negL [((-5 : Int), (-9223372036854775808 : Int))] = [(-5, -9223372036854775808)] := by decide +kernel
set_option maxRecDepth 100000 in
set_option maxHeartbeats 64000000 in
theorem sx_any (w : World) : Calls Try.prog 6 #[] w fun e w' => e = .returned (.bool true) ∧ Ext w w' := by
  go_enter Try.func6, Try.ntmps6
  go_wp2_with fail
  refine (awake_any w).mono ?_
  rintro e w1 ⟨rfl, hE⟩
  have Ew1 := Lib.hid hE
  clear hE
  go_wp2_with fail
  refine (steps_any _ 3 6 [1, 1, 1, 2, 1, 3] _ (intsL w1 _ #[.int .i64 1, .int .i64 1, .int .i64 1, .int .i64 2, .int .i64 1, .int .i64 3] [1, 1, 1, 2, 1, 3] rfl) (by omega)).mono ?_
  rintro e w2 ⟨ASr1, cSr1, rfl, hS, hS1, hS2, hE⟩
  have hE := Ext.trans (Ext.al (Ext.rfl' (w := w1)) _) hE
  have HSr1 : Hid (StepsAt w2 ASr1 3 [(1, 1), (1, 2), (1, 3)]) := hS
  clear hS hS1 hS2
  have Ew2 := Lib.hid hE
  clear hE
  go_wp2_with fail
  refine (steps_any _ 3 6 [1, 3, 1, 2, 1, 1] _ (intsL w2 _ #[.int .i64 1, .int .i64 3, .int .i64 1, .int .i64 2, .int .i64 1, .int .i64 1] [1, 3, 1, 2, 1, 1] rfl) (by omega)).mono ?_
  rintro e w3 ⟨ASr2, cSr2, rfl, hS, hS1, hS2, hE⟩
  have hE := Ext.trans (Ext.al (Ext.rfl' (w := w2)) _) hE
  have HSr2 : Hid (StepsAt w3 ASr2 3 [(1, 3), (1, 2), (1, 1)]) := hS
  clear hS hS1 hS2
  have Ew3 := Lib.hid hE
  clear hE
  go_wp2_with fail
  refine (steps_any _ 4 8 [0, 1, 1, 2, 1, 3, 1, 4] _ (intsL w3 _ #[.int .i64 0, .int .i64 1, .int .i64 1, .int .i64 2, .int .i64 1, .int .i64 3, .int .i64 1, .int .i64 4] [0, 1, 1, 2, 1, 3, 1, 4] rfl) (by omega)).mono ?_
  rintro e w4 ⟨ASr3, cSr3, rfl, hS, hS1, hS2, hE⟩
  have hE := Ext.trans (Ext.al (Ext.rfl' (w := w3)) _) hE
  have HSr3 : Hid (StepsAt w4 ASr3 4 [(0, 1), (1, 2), (1, 3), (1, 4)]) := hS
  clear hS hS1 hS2
  have Ew4 := Lib.hid hE
  clear hE
  go_wp2_with fail
  refine (steps_any _ 1 2 [0, 1] _ (intsL w4 _ #[.int .i64 0, .int .i64 1] [0, 1] rfl) (by omega)).mono ?_
  rintro e w5 ⟨ASr4, cSr4, rfl, hS, hS1, hS2, hE⟩
  have hE := Ext.trans (Ext.al (Ext.rfl' (w := w4)) _) hE
  have HSr4 : Hid (StepsAt w5 ASr4 1 [(0, 1)]) := hS
  clear hS hS1 hS2
  have Ew5 := Lib.hid hE
  clear hE
  go_wp2_with fail
  refine (steps_any _ 1 2 [1000000, 1000000] _ (intsL w5 _ #[.int .i64 1000000, .int .i64 1000000] [1000000, 1000000] rfl) (by omega)).mono ?_
  rintro e w6 ⟨ASr5, cSr5, rfl, hS, hS1, hS2, hE⟩
  have hE := Ext.trans (Ext.al (Ext.rfl' (w := w5)) _) hE
  have HSr5 : Hid (StepsAt w6 ASr5 1 [(1000000, 1000000)]) := hS
  clear hS hS1 hS2
  have Ew6 := Lib.hid hE
  clear hE
  go_wp2_with fail
  refine (steps_any _ 1 2 [1000001, 1] _ (intsL w6 _ #[.int .i64 1000001, .int .i64 1] [1000001, 1] rfl) (by omega)).mono ?_
  rintro e w7 ⟨ASr6, cSr6, rfl, hS, hS1, hS2, hE⟩
  have hE := Ext.trans (Ext.al (Ext.rfl' (w := w6)) _) hE
  have HSr6 : Hid (StepsAt w7 ASr6 1 [(1000001, 1)]) := hS
  clear hS hS1 hS2
  have Ew7 := Lib.hid hE
  clear hE
  go_wp2_with fail
  refine (steps_any _ 1 2 [1, 1000001] _ (intsL w7 _ #[.int .i64 1, .int .i64 1000001] [1, 1000001] rfl) (by omega)).mono ?_
  rintro e w8 ⟨ASr7, cSr7, rfl, hS, hS1, hS2, hE⟩
  have hE := Ext.trans (Ext.al (Ext.rfl' (w := w7)) _) hE
  have HSr7 : Hid (StepsAt w8 ASr7 1 [(1, 1000001)]) := hS
  clear hS hS1 hS2
  have Ew8 := Lib.hid hE
  clear hE
  go_wp2_with fail
  refine (steps_any _ 1 2 [1, (-1000000)] _ (intsL w8 _ #[.int .i64 1, .int .i64 (-1000000)] [1, (-1000000)] rfl) (by omega)).mono ?_
  rintro e w9 ⟨ASr8, cSr8, rfl, hS, hS1, hS2, hE⟩
  have hE := Ext.trans (Ext.al (Ext.rfl' (w := w8)) _) hE
  have HSr8 : Hid (StepsAt w9 ASr8 1 [(1, (-1000000))]) := hS
  clear hS hS1 hS2
  have Ew9 := Lib.hid hE
  clear hE
  go_wp2_with fail
  refine (steps_any _ 1 2 [1, (-1000001)] _ (intsL w9 _ #[.int .i64 1, .int .i64 (-1000001)] [1, (-1000001)] rfl) (by omega)).mono ?_
  rintro e w10 ⟨ASr9, cSr9, rfl, hS, hS1, hS2, hE⟩
  have hE := Ext.trans (Ext.al (Ext.rfl' (w := w9)) _) hE
  have HSr9 : Hid (StepsAt w10 ASr9 1 [(1, (-1000001))]) := hS
  clear hS hS1 hS2
  have Ew10 := Lib.hid hE
  clear hE
  go_wp2_with fail
  refine (steps_any _ 2 4 [1, 5, 1, 5] _ (intsL w10 _ #[.int .i64 1, .int .i64 5, .int .i64 1, .int .i64 5] [1, 5, 1, 5] rfl) (by omega)).mono ?_
  rintro e w11 ⟨ASr10, cSr10, rfl, hS, hS1, hS2, hE⟩
  have hE := Ext.trans (Ext.al (Ext.rfl' (w := w10)) _) hE
  have HSr10 : Hid (StepsAt w11 ASr10 2 [(1, 5), (1, 5)]) := hS
  clear hS hS1 hS2
  have Ew11 := Lib.hid hE
  clear hE
  go_wp2_with fail
  refine (steps_any _ 2 4 [1, 5, 0, 5] _ (intsL w11 _ #[.int .i64 1, .int .i64 5, .int .i64 0, .int .i64 5] [1, 5, 0, 5] rfl) (by omega)).mono ?_
  rintro e w12 ⟨ASr11, cSr11, rfl, hS, hS1, hS2, hE⟩
  have hE := Ext.trans (Ext.al (Ext.rfl' (w := w11)) _) hE
  have HSr11 : Hid (StepsAt w12 ASr11 2 [(1, 5), (0, 5)]) := hS
  clear hS hS1 hS2
  have Ew12 := Lib.hid hE
  clear hE
  go_wp2_with fail
  refine (steps_any _ 3 6 [1, 5, 1, 4, 0, 1] _ (intsL w12 _ #[.int .i64 1, .int .i64 5, .int .i64 1, .int .i64 4, .int .i64 0, .int .i64 1] [1, 5, 1, 4, 0, 1] rfl) (by omega)).mono ?_
  rintro e w13 ⟨ASr12, cSr12, rfl, hS, hS1, hS2, hE⟩
  have hE := Ext.trans (Ext.al (Ext.rfl' (w := w12)) _) hE
  have HSr12 : Hid (StepsAt w13 ASr12 3 [(1, 5), (1, 4), (0, 1)]) := hS
  clear hS hS1 hS2
  have Ew13 := Lib.hid hE
  clear hE
  go_wp2_with fail
  refine (steps_any _ 2 4 [4611686018427387904, 1, 4611686018427387904, 2] _ (intsL w13 _ #[.int .i64 4611686018427387904, .int .i64 1, .int .i64 4611686018427387904, .int .i64 2] [4611686018427387904, 1, 4611686018427387904, 2] rfl) (by omega)).mono ?_
  rintro e w14 ⟨ASr13, cSr13, rfl, hS, hS1, hS2, hE⟩
  have hE := Ext.trans (Ext.al (Ext.rfl' (w := w13)) _) hE
  have HSr13 : Hid (StepsAt w14 ASr13 2 [(4611686018427387904, 1), (4611686018427387904, 2)]) := hS
  clear hS hS1 hS2
  have Ew14 := Lib.hid hE
  clear hE
  go_wp2_with fail
  obtain ⟨RR, hRR⟩ : ∃ R : List XR, [⟨none, 0, 0, [], 4, 4, 0⟩, ⟨ASr1, 3, cSr1, [(1, 1), (1, 2), (1, 3)], 0, 3, 3⟩, ⟨ASr2, 3, cSr2, [(1, 3), (1, 2), (1, 1)], 3, 0, 3⟩, ⟨ASr3, 4, cSr3, [(0, 1), (1, 2), (1, 3), (1, 4)], 5, 5, 0⟩, ⟨ASr4, 1, cSr4, [(0, 1)], 1, 1, 0⟩, ⟨ASr5, 1, cSr5, [(1000000, 1000000)], 0, 0, 1000000⟩, ⟨ASr6, 1, cSr6, [(1000001, 1)], 1, 1, 0⟩, ⟨ASr7, 1, cSr7, [(1, 1000001)], 1, 1, 0⟩, ⟨ASr8, 1, cSr8, [(1, (-1000000))], 0, 0, 1⟩, ⟨ASr9, 1, cSr9, [(1, (-1000001))], 1, 1, 0⟩, ⟨ASr10, 2, cSr10, [(1, 5), (1, 5)], 3, 3, 0⟩, ⟨ASr11, 2, cSr11, [(1, 5), (0, 5)], 1, 1, 0⟩, ⟨ASr12, 3, cSr12, [(1, 5), (1, 4), (0, 1)], 3, 1, 0⟩, ⟨ASr13, 2, cSr13, [(4611686018427387904, 1), (4611686018427387904, 2)], 1, 1, 0⟩] = R := ⟨_, rfl⟩
  have hok : ∀ x ∈ RR, XOk w14 x := by
    rw [← hRR]
    intro x hx
    simp only [List.mem_cons, List.not_mem_nil, or_false] at hx
    rcases hx with rfl | rfl | rfl | rfl | rfl | rfl | rfl | rfl | rfl | rfl | rfl | rfl | rfl | rfl
    · exact ⟨⟨rfl, fun h => absurd h (by decide)⟩, by simp [maxLen], (show chk true [] = 4 by decide +kernel), (show chk false [] = 4 by decide +kernel), (show total [] = 0 by decide +kernel)⟩
    · exact ⟨(HSr1.out.below (Ext.trans Ew3.out (Ext.trans Ew4.out (Ext.trans Ew5.out (Ext.trans Ew6.out (Ext.trans Ew7.out (Ext.trans Ew8.out (Ext.trans Ew9.out (Ext.trans Ew10.out (Ext.trans Ew11.out (Ext.trans Ew12.out (Ext.trans Ew13.out Ew14.out)))))))))))), by simp [maxLen], (show chk true [(1, 1), (1, 2), (1, 3)] = 0 by decide +kernel), (show chk false [(1, 1), (1, 2), (1, 3)] = 3 by decide +kernel), (show total [(1, 1), (1, 2), (1, 3)] = 3 by decide +kernel)⟩
    · exact ⟨(HSr2.out.below (Ext.trans Ew4.out (Ext.trans Ew5.out (Ext.trans Ew6.out (Ext.trans Ew7.out (Ext.trans Ew8.out (Ext.trans Ew9.out (Ext.trans Ew10.out (Ext.trans Ew11.out (Ext.trans Ew12.out (Ext.trans Ew13.out Ew14.out))))))))))), by simp [maxLen], (show chk true [(1, 3), (1, 2), (1, 1)] = 3 by decide +kernel), (show chk false [(1, 3), (1, 2), (1, 1)] = 0 by decide +kernel), (show total [(1, 3), (1, 2), (1, 1)] = 3 by decide +kernel)⟩
    · exact ⟨(HSr3.out.below (Ext.trans Ew5.out (Ext.trans Ew6.out (Ext.trans Ew7.out (Ext.trans Ew8.out (Ext.trans Ew9.out (Ext.trans Ew10.out (Ext.trans Ew11.out (Ext.trans Ew12.out (Ext.trans Ew13.out Ew14.out)))))))))), by simp [maxLen], (show chk true [(0, 1), (1, 2), (1, 3), (1, 4)] = 5 by decide +kernel), (show chk false [(0, 1), (1, 2), (1, 3), (1, 4)] = 5 by decide +kernel), (show total [(0, 1), (1, 2), (1, 3), (1, 4)] = 0 by decide +kernel)⟩
    · exact ⟨(HSr4.out.below (Ext.trans Ew6.out (Ext.trans Ew7.out (Ext.trans Ew8.out (Ext.trans Ew9.out (Ext.trans Ew10.out (Ext.trans Ew11.out (Ext.trans Ew12.out (Ext.trans Ew13.out Ew14.out))))))))), by simp [maxLen], (show chk true [(0, 1)] = 1 by decide +kernel), (show chk false [(0, 1)] = 1 by decide +kernel), (show total [(0, 1)] = 0 by decide +kernel)⟩
    · exact ⟨(HSr5.out.below (Ext.trans Ew7.out (Ext.trans Ew8.out (Ext.trans Ew9.out (Ext.trans Ew10.out (Ext.trans Ew11.out (Ext.trans Ew12.out (Ext.trans Ew13.out Ew14.out)))))))), by simp [maxLen], (show chk true [(1000000, 1000000)] = 0 by decide +kernel), (show chk false [(1000000, 1000000)] = 0 by decide +kernel), (show total [(1000000, 1000000)] = 1000000 by decide +kernel)⟩
    · exact ⟨(HSr6.out.below (Ext.trans Ew8.out (Ext.trans Ew9.out (Ext.trans Ew10.out (Ext.trans Ew11.out (Ext.trans Ew12.out (Ext.trans Ew13.out Ew14.out))))))), by simp [maxLen], (show chk true [(1000001, 1)] = 1 by decide +kernel), (show chk false [(1000001, 1)] = 1 by decide +kernel), (show total [(1000001, 1)] = 0 by decide +kernel)⟩
    · exact ⟨(HSr7.out.below (Ext.trans Ew9.out (Ext.trans Ew10.out (Ext.trans Ew11.out (Ext.trans Ew12.out (Ext.trans Ew13.out Ew14.out)))))), by simp [maxLen], (show chk true [(1, 1000001)] = 1 by decide +kernel), (show chk false [(1, 1000001)] = 1 by decide +kernel), (show total [(1, 1000001)] = 0 by decide +kernel)⟩
    · exact ⟨(HSr8.out.below (Ext.trans Ew10.out (Ext.trans Ew11.out (Ext.trans Ew12.out (Ext.trans Ew13.out Ew14.out))))), by simp [maxLen], (show chk true [(1, (-1000000))] = 0 by decide +kernel), (show chk false [(1, (-1000000))] = 0 by decide +kernel), (show total [(1, (-1000000))] = 1 by decide +kernel)⟩
    · exact ⟨(HSr9.out.below (Ext.trans Ew11.out (Ext.trans Ew12.out (Ext.trans Ew13.out Ew14.out)))), by simp [maxLen], (show chk true [(1, (-1000001))] = 1 by decide +kernel), (show chk false [(1, (-1000001))] = 1 by decide +kernel), (show total [(1, (-1000001))] = 0 by decide +kernel)⟩
    · exact ⟨(HSr10.out.below (Ext.trans Ew12.out (Ext.trans Ew13.out Ew14.out))), by simp [maxLen], (show chk true [(1, 5), (1, 5)] = 3 by decide +kernel), (show chk false [(1, 5), (1, 5)] = 3 by decide +kernel), (show total [(1, 5), (1, 5)] = 0 by decide +kernel)⟩
    · exact ⟨(HSr11.out.below (Ext.trans Ew13.out Ew14.out)), by simp [maxLen], (show chk true [(1, 5), (0, 5)] = 1 by decide +kernel), (show chk false [(1, 5), (0, 5)] = 1 by decide +kernel), (show total [(1, 5), (0, 5)] = 0 by decide +kernel)⟩
    · exact ⟨(HSr12.out.below Ew14.out), by simp [maxLen], (show chk true [(1, 5), (1, 4), (0, 1)] = 3 by decide +kernel), (show chk false [(1, 5), (1, 4), (0, 1)] = 1 by decide +kernel), (show total [(1, 5), (1, 4), (0, 1)] = 0 by decide +kernel)⟩
    · exact ⟨HSr13.out, by simp [maxLen], (show chk true [(4611686018427387904, 1), (4611686018427387904, 2)] = 1 by decide +kernel), (show chk false [(4611686018427387904, 1), (4611686018427387904, 2)] = 1 by decide +kernel), (show total [(4611686018427387904, 1), (4611686018427387904, 2)] = 0 by decide +kernel)⟩
  have hE : Ext w14 (w14.alloc (.cells (xrCells RR).toArray 46)) := Ext.al Ext.rfl' _
  have hT := XTab.of (Blk.new w14 46 (xrCells RR).toArray) hE hok
  have hL : RR.length = 14 := by rw [← hRR]; rfl
  obtain ⟨wT, hwT⟩ : ∃ v, (w14.alloc (.cells (xrCells RR).toArray 46)) = v := ⟨_, rfl⟩
  rw [hwT] at hE hT
  have hww : w14.alloc (.cells #[.slice none 0 0, .int .i64 4, .int .i64 4, .int .i64 0, .slice ASr1 3 cSr1, .int .i64 0, .int .i64 3, .int .i64 3, .slice ASr2 3 cSr2, .int .i64 3, .int .i64 0, .int .i64 3, .slice ASr3 4 cSr3, .int .i64 5, .int .i64 5, .int .i64 0, .slice ASr4 1 cSr4, .int .i64 1, .int .i64 1, .int .i64 0, .slice ASr5 1 cSr5, .int .i64 0, .int .i64 0, .int .i64 1000000, .slice ASr6 1 cSr6, .int .i64 1, .int .i64 1, .int .i64 0, .slice ASr7 1 cSr7, .int .i64 1, .int .i64 1, .int .i64 0, .slice ASr8 1 cSr8, .int .i64 0, .int .i64 0, .int .i64 1, .slice ASr9 1 cSr9, .int .i64 1, .int .i64 1, .int .i64 0, .slice ASr10 2 cSr10, .int .i64 3, .int .i64 3, .int .i64 0, .slice ASr11 2 cSr11, .int .i64 1, .int .i64 1, .int .i64 0, .slice ASr12 3 cSr12, .int .i64 3, .int .i64 1, .int .i64 0, .slice ASr13 2 cSr13, .int .i64 1, .int .i64 1, .int .i64 0] 46) = wT := by rw [← hwT, ← hRR]; rfl
  rw [hww]
  clear hww hwT hok hRR
  obtain ⟨g, hg⟩ : ∃ g, w14.heap.size = g := ⟨_, rfl⟩
  rw [hg] at hT ⊢
  clear hg
  have EwT := Lib.hid hE
  clear hE
  have HTB := Lib.hid hT
  have HRL := Lib.hid hL
  clear hT hL
  clear HSr1 HSr2 HSr3 HSr4 HSr5 HSr6 HSr7 HSr8 HSr9 HSr10 HSr11 HSr12 HSr13
  go_loopw [70] (fun i wr => ∃ k : Nat, k ≤ 14 ∧ i = .int .i64 (k : Int) ∧ Hid (XTab wr g RR) ∧ Hid (Ext w wr)) (fun i _ => 14 - (intOf i).toNat)
  case atStart => exact ⟨0, by omega, rfl, HTB, (Ext.trans Ew1.out (Ext.trans Ew2.out (Ext.trans Ew3.out (Ext.trans Ew4.out (Ext.trans Ew5.out (Ext.trans Ew6.out (Ext.trans Ew7.out (Ext.trans Ew8.out (Ext.trans Ew9.out (Ext.trans Ew10.out (Ext.trans Ew11.out (Ext.trans Ew12.out (Ext.trans Ew13.out (Ext.trans Ew14.out EwT.out))))))))))))))⟩
  case round =>
    clear HTB
    obtain ⟨k, hk, rfl, HTB, HE⟩ := hrel
    by_cases hlt : k < 14
    · have hbv : decide ((k : Int) < 14) = true := by simp; omega
      have hbv2 : decide (k < 14) = true := by simp; omega
      have hz0 : (0 : Int) ≤ (k : Int) := by omega
      have hzn : (k : Int) < 14 := by omega
      obtain ⟨⟨y0, y1, y2, y3⟩, ok1, ok2, ok3, ok4, ok5⟩ := HTB.out.2 k (by rw [HRL.out]; exact hlt)
      have HOK := Lib.hid ok1
      have HN := Lib.hid ok2
      have HC1 := Lib.hid ok3
      have HC2 := Lib.hid ok4
      have HC3 := Lib.hid ok5
      clear ok1 ok2 ok3 ok4 ok5
      generalize RR.getD k xr0 = x at *
      obtain ⟨xA, xn, xc, xs, xo, xb, xt⟩ := x
      simp only at y0 y1 y2 y3 HOK HN HC1 HC2 HC3
      go_wp2_with fail
      clear y0 y1 y2 y3
      have kb := Cell4.new wr _ rfl (.slice xA xn xc) (.int .i64 xo) (.int .i64 xb) (.int .i64 xt) 46
      have hE : Ext wr (wr.alloc (.cells #[.slice xA xn xc, .int .i64 xo, .int .i64 xb, .int .i64 xt] 46)) := Ext.al Ext.rfl' _
      generalize wr.alloc (.cells #[.slice xA xn xc, .int .i64 xo, .int .i64 xb, .int .i64 xt] 46) = wb at *
      have KB := Lib.hid kb
      clear kb
      have Ewb := Lib.hid hE
      clear hE
      have hn1 : (xo != xo) = false := by simp
      have hn2 : (xb != xb) = false := by simp
      have hn3 : (xt != xt) = false := by simp
      have hxn := HN.out
      refine wp_region_lexS (C := InX wb.drew []) (by kernel_rfl) (by kernel_rfl) (inX_self _ _) ?_
      have hE : Ext wb wb.drew := Ext.rfl'.drew
      generalize wb.drew = w15 at *
      have Ew15 := Lib.hid hE
      clear hE
      have fB0 := fun z : ExtX w15 [] => z.cell (p := ⟨wr.heap.size, 0, none⟩) (KB.out.ext Ew15.out).1.1 (by simp)
      have fB1 := fun z : ExtX w15 [] => z.cell (p := ⟨wr.heap.size, 1, none⟩) (KB.out.ext Ew15.out).1.2.1 (by simp)
      have fB2 := fun z : ExtX w15 [] => z.cell (p := ⟨wr.heap.size, 2, none⟩) (KB.out.ext Ew15.out).1.2.2.1 (by simp)
      have fB3 := fun z : ExtX w15 [] => z.cell (p := ⟨wr.heap.size, 3, none⟩) (KB.out.ext Ew15.out).1.2.2.2 (by simp)
      repeat (refine lexAt_still (by rfl) ?_; go_big_quiet_step (fail); refine wpQuiet_nil ?_)
      refine lexAt_move (by rfl) (by kernel_rfl) ?_
      go_wp2_with fail
      refine (checkOffer_any xA xn xc xs w15 (HOK.out.below (Ext.trans Ewb.out Ew15.out)) HN.out).mono ?_
      rintro e w16 ⟨rfl, hE⟩
      have Ew16 := Lib.hid hE
      clear hE
      rw [HC1.out]
      go_wp2_with fail
      refine And.intro (inX_of_ext _ Ew16.out) ?_
      repeat (refine lexAt_still (by rfl) ?_; go_big_quiet_step (fail); refine wpQuiet_nil ?_)
      refine lexAt_move (by rfl) (by kernel_rfl) ?_
      go_wp2_with fail
      refine (checkBid_any xA xn xc xs w16 (HOK.out.below (Ext.trans Ewb.out (Ext.trans Ew15.out Ew16.out))) HN.out).mono ?_
      rintro e w17 ⟨rfl, hE⟩
      have Ew17 := Lib.hid hE
      clear hE
      rw [HC2.out]
      go_wp2_with fail
      refine And.intro (inX_of_ext _ (Ext.trans Ew16.out Ew17.out)) ?_
      repeat (refine lexAt_still (by rfl) ?_; go_big_quiet_step (fail); refine wpQuiet_nil ?_)
      refine lexAt_move (by rfl) (by kernel_rfl) ?_
      go_wp2_with fail
      refine (sum_any xA xn xc xs w17 (HOK.out.below (Ext.trans Ewb.out (Ext.trans Ew15.out (Ext.trans Ew16.out Ew17.out)))) HN.out).mono ?_
      rintro e w18 ⟨rfl, hE⟩
      have Ew18 := Lib.hid hE
      clear hE
      rw [HC3.out]
      go_wp2_with fail
      refine And.intro (inX_of_ext _ (Ext.trans Ew16.out (Ext.trans Ew17.out Ew18.out))) ?_
      repeat (refine lexAt_still (by rfl) ?_; go_big_quiet_step (fail); refine wpQuiet_nil ?_)
      refine lexAt_nil ?_
      clear fB0 fB1 fB2 fB3
      go_wp2_with fail
      go_roundw
      case rel => exact ⟨k + 1, by omega, by go_num, HTB.out.ext (Ext.trans Ewb.out (Ext.trans Ew15.out (Ext.trans Ew16.out (Ext.trans Ew17.out Ew18.out)))), (Ext.trans HE.out (Ext.trans Ewb.out (Ext.trans Ew15.out (Ext.trans Ew16.out (Ext.trans Ew17.out Ew18.out)))))⟩
      case measure => simp [intOf]; omega
    have hkn : k = 14 := by omega
    subst hkn
    have hbv : decide ((14 : Int) < 14) = false := by simp
    clear HTB
    go_wp2_with fail
    refine (steps_any _ 2 4 [10, 3, 5, 7] _ (intsL wr _ #[.int .i64 10, .int .i64 3, .int .i64 5, .int .i64 7] [10, 3, 5, 7] rfl) (by omega)).mono ?_
    rintro e w19 ⟨ASl, cSl, rfl, hS, hS1, hS2, hE⟩
    have hE := Ext.trans (Ext.al (Ext.rfl' (w := wr)) _) hE
    have HSl : Hid (StepsAt w19 ASl 2 [(10, 3), (5, 7)]) := hS
    clear hS hS1 hS2
    have Ew19 := Lib.hid hE
    clear hE
    go_wp2_with fail
    have hE : Ext w19 (((w19.alloc (.cells #[.int .u32 24, .int .u32 0] 49)).alloc (.cells #[.int .u32 2] 49)).alloc (.cells #[.bool true, .slice (some ⟨w19.heap.size, 0, none⟩) 2 2, .bool true, .slice (some ⟨w19.heap.size + 1, 0, none⟩) 1 1] 33)) := Ext.al (Ext.al (Ext.al Ext.rfl' _) _) _
    have hw1 := (sxw2 w19 49 24 0 (by omega) (by omega)).below (show Ext (w19.alloc (.cells #[.int .u32 24, .int .u32 0] 49)) (((w19.alloc (.cells #[.int .u32 24, .int .u32 0] 49)).alloc (.cells #[.int .u32 2] 49)).alloc (.cells #[.bool true, .slice (some ⟨w19.heap.size, 0, none⟩) 2 2, .bool true, .slice (some ⟨w19.heap.size + 1, 0, none⟩) 1 1] 33)) from Ext.al (Ext.al Ext.rfl' _) _)
    have hw2 := (sxw1 (w19.alloc (.cells #[.int .u32 24, .int .u32 0] 49)) 49 2 (by omega)).below (show Ext ((w19.alloc (.cells #[.int .u32 24, .int .u32 0] 49)).alloc (.cells #[.int .u32 2] 49)) (((w19.alloc (.cells #[.int .u32 24, .int .u32 0] 49)).alloc (.cells #[.int .u32 2] 49)).alloc (.cells #[.bool true, .slice (some ⟨w19.heap.size, 0, none⟩) 2 2, .bool true, .slice (some ⟨w19.heap.size + 1, 0, none⟩) 1 1] 33)) from Ext.al Ext.rfl' _)
    rw [show (w19.alloc (.cells #[.int .u32 24, .int .u32 0] 49)).heap.size = w19.heap.size + 1 by simp] at hw2
    have kodd := Cell4.new ((w19.alloc (.cells #[.int .u32 24, .int .u32 0] 49)).alloc (.cells #[.int .u32 2] 49)) (w19.heap.size + 1 + 1) (by simp) (.bool true) (.slice (some ⟨w19.heap.size, 0, none⟩) 2 2) (.bool true) (.slice (some ⟨w19.heap.size + 1, 0, none⟩) 1 1) 33
    generalize (((w19.alloc (.cells #[.int .u32 24, .int .u32 0] 49)).alloc (.cells #[.int .u32 2] 49)).alloc (.cells #[.bool true, .slice (some ⟨w19.heap.size, 0, none⟩) 2 2, .bool true, .slice (some ⟨w19.heap.size + 1, 0, none⟩) 1 1] 33)) = w20 at *
    obtain ⟨go, hgo⟩ : ∃ v, w19.heap.size = v := ⟨_, rfl⟩
    rw [hgo] at hw1 hw2 kodd ⊢
    clear hgo
    have HODD : Hid (QIs w20 true (some ⟨go, 0, none⟩) 2 2 true (some ⟨go + 1, 0, none⟩) 1 1 12) := ⟨-24, -2, ⟨_, hw1, by omega, by simp [maxLen], by decide +kernel⟩, ⟨_, hw2, by omega, by simp [maxLen], by decide +kernel⟩, sx_q.symm⟩
    clear hw1 hw2
    have KO := Lib.hid kodd
    clear kodd
    have Ew20 := Lib.hid hE
    clear hE
    refine (lwhole_any 16 w20 ⟨by omega, by omega⟩).mono ?_
    rintro e w21 ⟨sa, Aa, na, ca, ta, Ba, ma, da, rfl, hQ, hE⟩
    have Ew21 := Lib.hid hE
    clear hE
    have Qa := Lib.hid hQ
    clear hQ
    obtain ⟨lla, lma⟩ := Qa.out.len (sz_int (z := 16) (k := 2) (by omega) (by decide))
    go_wp2_with fail
    refine (cost_any ASl 2 cSl [((10 : Int), (3 : Int)), (5, 7)] sa Aa na ca ta Ba ma da _ w21 (HSl.out.below (Ext.trans Ew20.out Ew21.out)) (by simp [maxLen]) Qa.out.is (by omega) (by omega)).mono ?_
    rintro e w22 ⟨sv, Av, nv, cv, tv, Bv, mv, dv, rfl, -, hE⟩
    have Ew22 := Lib.hid hE
    clear hE
    rw [sx_err.1]
    clear Qa lla lma
    go_wp2_with fail
    have hE : Ext w22 (w22.alloc (.cells #[.bool sv, .slice Av nv cv, .bool tv, .slice Bv mv dv] 33)) := Ext.al Ext.rfl' _
    have hsz : (w22.alloc (.cells #[.bool sv, .slice Av nv cv, .bool tv, .slice Bv mv dv] 33)).heap.size = w22.heap.size + 1 := by simp
    generalize w22.alloc (.cells #[.bool sv, .slice Av nv cv, .bool tv, .slice Bv mv dv] 33) = w23 at *
    try rw [← hsz]
    clear hsz
    have Ew23 := Lib.hid hE
    clear hE
    refine (lwhole_any (-1) w23 ⟨by omega, by omega⟩).mono ?_
    rintro e w24 ⟨sb, Ab, nb, cb, tb, Bb, mb, db, rfl, hQ, hE⟩
    have Ew24 := Lib.hid hE
    clear hE
    have Qb := Lib.hid hQ
    clear hQ
    obtain ⟨llb, lmb⟩ := Qb.out.len (sz_int (z := (-1)) (k := 2) (by omega) (by decide))
    go_wp2_with fail
    refine (cost_any ASl 2 cSl [((10 : Int), (3 : Int)), (5, 7)] sb Ab nb cb tb Bb mb db _ w24 (HSl.out.below (Ext.trans Ew20.out (Ext.trans Ew21.out (Ext.trans Ew22.out (Ext.trans Ew23.out Ew24.out))))) (by simp [maxLen]) Qb.out.is (by omega) (by omega)).mono ?_
    rintro e w25 ⟨su, Au, nu, cu, tu, Bu, mu, du, rfl, -, hE⟩
    have Ew25 := Lib.hid hE
    clear hE
    rw [sx_err.2.1]
    clear Qb llb lmb
    go_wp2_with fail
    have hE : Ext w25 (w25.alloc (.cells #[.bool su, .slice Au nu cu, .bool tu, .slice Bu mu du] 33)) := Ext.al Ext.rfl' _
    have hsz : (w25.alloc (.cells #[.bool su, .slice Au nu cu, .bool tu, .slice Bu mu du] 33)).heap.size = w25.heap.size + 1 := by simp
    generalize w25.alloc (.cells #[.bool su, .slice Au nu cu, .bool tu, .slice Bu mu du] 33) = w26 at *
    try rw [← hsz]
    clear hsz
    have Ew26 := Lib.hid hE
    clear hE
    refine (steps_any _ 2 4 [1, 5, 1, 5] _ (intsL w26 _ #[.int .i64 1, .int .i64 5, .int .i64 1, .int .i64 5] [1, 5, 1, 5] rfl) (by omega)).mono ?_
    rintro e w27 ⟨ASc, cSc, rfl, hS, hS1, hS2, hE⟩
    have hE := Ext.trans (Ext.al (Ext.rfl' (w := w26)) _) hE
    have HSc : Hid (StepsAt w27 ASc 2 [(1, 5), (1, 5)]) := hS
    clear hS hS1 hS2
    have Ew27 := Lib.hid hE
    clear hE
    go_wp2_with fail
    refine (lwhole_any (-1) w27 ⟨by omega, by omega⟩).mono ?_
    rintro e w28 ⟨sc, Ac, nc, cc, tc, Bc, mc, dc, rfl, hQ, hE⟩
    have Ew28 := Lib.hid hE
    clear hE
    have Qc := Lib.hid hQ
    clear hQ
    obtain ⟨llc, lmc⟩ := Qc.out.len (sz_int (z := (-1)) (k := 2) (by omega) (by decide))
    go_wp2_with fail
    refine (allocate_any ASc 2 cSc [(1, 5), (1, 5)] sc Ac nc cc tc Bc mc dc _ w28 (HSc.out.below Ew28.out) (by simp [maxLen]) Qc.out.is (by omega) (by omega)).mono ?_
    rintro e w29 ⟨hE, vc, rfl, hvc, -⟩
    have Ew29 := Lib.hid hE
    clear hE
    obtain rfl := hvc (by rw [sx_err.2.2.1]; decide)
    rw [sx_err.2.2.1]
    clear hvc
    clear Qc llc lmc
    clear HSc
    go_wp2_with fail
    refine (steps_any _ 3 6 [1, 5, 1, 4, 0, 1] _ (intsL w29 _ #[.int .i64 1, .int .i64 5, .int .i64 1, .int .i64 4, .int .i64 0, .int .i64 1] [1, 5, 1, 4, 0, 1] rfl) (by omega)).mono ?_
    rintro e w30 ⟨ASd, cSd, rfl, hS, hS1, hS2, hE⟩
    have hE := Ext.trans (Ext.al (Ext.rfl' (w := w29)) _) hE
    have HSd : Hid (StepsAt w30 ASd 3 [(1, 5), (1, 4), (0, 1)]) := hS
    clear hS hS1 hS2
    have Ew30 := Lib.hid hE
    clear hE
    go_wp2_with fail
    refine (lwhole_any 0 w30 ⟨by omega, by omega⟩).mono ?_
    rintro e w31 ⟨sd, Ad, nd, cd, td, Bd, md, dd, rfl, hQ, hE⟩
    have Ew31 := Lib.hid hE
    clear hE
    have Qd := Lib.hid hQ
    clear hQ
    obtain ⟨lld, lmd⟩ := Qd.out.len (sz_int (z := 0) (k := 2) (by omega) (by decide))
    go_wp2_with fail
    refine (allocate_any ASd 3 cSd [(1, 5), (1, 4), (0, 1)] sd Ad nd cd td Bd md dd _ w31 (HSd.out.below Ew31.out) (by simp [maxLen]) Qd.out.is (by omega) (by omega)).mono ?_
    rintro e w32 ⟨hE, vd, rfl, hvd, -⟩
    have Ew32 := Lib.hid hE
    clear hE
    obtain rfl := hvd (by rw [sx_err.2.2.2.1]; decide)
    rw [sx_err.2.2.2.1]
    clear hvd
    clear Qd lld lmd
    clear HSd
    go_wp2_with fail
    refine (lwhole_any 1 w32 ⟨by omega, by omega⟩).mono ?_
    rintro e w33 ⟨sf, Af, nf, cf, tf, Bf, mf, df, rfl, hQ, hE⟩
    have Ew33 := Lib.hid hE
    clear hE
    have Qf := Lib.hid hQ
    clear hQ
    obtain ⟨llf, lmf⟩ := Qf.out.len (sz_int (z := 1) (k := 2) (by omega) (by decide))
    go_wp2_with fail
    refine (demand_any ASl 2 cSl [((10 : Int), (3 : Int)), (5, 7)] sf Af nf cf tf Bf mf df _ w33 (HSl.out.below (Ext.trans Ew20.out (Ext.trans Ew21.out (Ext.trans Ew22.out (Ext.trans Ew23.out (Ext.trans Ew24.out (Ext.trans Ew25.out (Ext.trans Ew26.out (Ext.trans Ew27.out (Ext.trans Ew28.out (Ext.trans Ew29.out (Ext.trans Ew30.out (Ext.trans Ew31.out (Ext.trans Ew32.out Ew33.out)))))))))))))) (by simp [maxLen]) (Qf.out.arg (sz_int (z := 1) (k := 2) (by omega) (by decide)) (by omega))).mono ?_
    rintro e w34 ⟨rfl, hE⟩
    have Ew34 := Lib.hid hE
    clear hE
    rw [sx_err.2.2.2.2.1]
    clear Qf llf lmf
    go_wp2_with fail
    refine (lwhole_any 1 w34 ⟨by omega, by omega⟩).mono ?_
    rintro e w35 ⟨sg, Ag, ng, cg, tg, Bg, mg, dg, rfl, hQ, hE⟩
    have Ew35 := Lib.hid hE
    clear hE
    have Qg := Lib.hid hQ
    clear hQ
    obtain ⟨llg, lmg⟩ := Qg.out.len (sz_int (z := 1) (k := 2) (by omega) (by decide))
    go_wp2_with fail
    refine (supply_any none 0 0 [] sg Ag ng cg tg Bg mg dg _ w35 ⟨rfl, fun h => absurd h (by decide)⟩ (by simp [maxLen]) (Qg.out.arg (sz_int (z := 1) (k := 2) (by omega) (by decide)) (by omega))).mono ?_
    rintro e w36 ⟨rfl, hE⟩
    have Ew36 := Lib.hid hE
    clear hE
    rw [sx_err.2.2.2.2.2]
    clear Qg llg lmg
    go_wp2_with fail
    refine (steps_any _ 1 2 [(-5), (-9223372036854775808)] _ (intsL w36 _ #[.int .i64 (-5), .int .i64 (-9223372036854775808)] [(-5), (-9223372036854775808)] rfl) (by omega)).mono ?_
    rintro e w37 ⟨ASn, cSn, rfl, hS, hS1, hS2, hE⟩
    have hE := Ext.trans (Ext.al (Ext.rfl' (w := w36)) _) hE
    have HSn : Hid (StepsAt w37 ASn 1 [((-5), (-9223372036854775808))]) := hS
    clear hS hS1 hS2
    have Ew37 := Lib.hid hE
    clear hE
    go_wp2_with fail
    refine (negate_any ASn 1 cSn [((-5), (-9223372036854775808))] w37 HSn.out (by omega)).mono ?_
    rintro e w38 ⟨AT, cT, rfl, hT, hT1, hT2, hE⟩
    rw [sx_neg] at hT
    obtain ⟨bt, ot, hA, hbt, hct⟩ := hT.2 (by omega)
    subst hA
    have HT0 := Lib.hid (hct 0 (by omega))
    clear hT hT1 hT2 hct hbt
    have Ew38 := Lib.hid hE
    clear hE
    clear HSn
    go_wp2_with fail
    have hb1 : ((1 : Int) == 1) = true := by decide
    refine wp_region_lexSW (C := InX w38.drew []) (by kernel_rfl) (Eq.trans (b := lexWB .any ((Try.f6.body.bind (regionOf 18 100)).getD #[])) (by kernel_rfl) sx_lexB) (inX_self _ _) ?_
    simp only [List.append]
    have hE : Ext w38 w38.drew := Ext.rfl'.drew
    generalize w38.drew = w39 at *
    have Ew39 := Lib.hid hE
    clear hE
    have fO0 := fun z : ExtX w39 [] => z.cell (p := ⟨go + 1 + 1, 0, none⟩) (KO.out.ext (Ext.trans Ew21.out (Ext.trans Ew22.out (Ext.trans Ew23.out (Ext.trans Ew24.out (Ext.trans Ew25.out (Ext.trans Ew26.out (Ext.trans Ew27.out (Ext.trans Ew28.out (Ext.trans Ew29.out (Ext.trans Ew30.out (Ext.trans Ew31.out (Ext.trans Ew32.out (Ext.trans Ew33.out (Ext.trans Ew34.out (Ext.trans Ew35.out (Ext.trans Ew36.out (Ext.trans Ew37.out (Ext.trans Ew38.out Ew39.out))))))))))))))))))).1.1 (by simp)
    have fO1 := fun z : ExtX w39 [] => z.cell (p := ⟨go + 1 + 1, 1, none⟩) (KO.out.ext (Ext.trans Ew21.out (Ext.trans Ew22.out (Ext.trans Ew23.out (Ext.trans Ew24.out (Ext.trans Ew25.out (Ext.trans Ew26.out (Ext.trans Ew27.out (Ext.trans Ew28.out (Ext.trans Ew29.out (Ext.trans Ew30.out (Ext.trans Ew31.out (Ext.trans Ew32.out (Ext.trans Ew33.out (Ext.trans Ew34.out (Ext.trans Ew35.out (Ext.trans Ew36.out (Ext.trans Ew37.out (Ext.trans Ew38.out Ew39.out))))))))))))))))))).1.2.1 (by simp)
    have fO2 := fun z : ExtX w39 [] => z.cell (p := ⟨go + 1 + 1, 2, none⟩) (KO.out.ext (Ext.trans Ew21.out (Ext.trans Ew22.out (Ext.trans Ew23.out (Ext.trans Ew24.out (Ext.trans Ew25.out (Ext.trans Ew26.out (Ext.trans Ew27.out (Ext.trans Ew28.out (Ext.trans Ew29.out (Ext.trans Ew30.out (Ext.trans Ew31.out (Ext.trans Ew32.out (Ext.trans Ew33.out (Ext.trans Ew34.out (Ext.trans Ew35.out (Ext.trans Ew36.out (Ext.trans Ew37.out (Ext.trans Ew38.out Ew39.out))))))))))))))))))).1.2.2.1 (by simp)
    have fO3 := fun z : ExtX w39 [] => z.cell (p := ⟨go + 1 + 1, 3, none⟩) (KO.out.ext (Ext.trans Ew21.out (Ext.trans Ew22.out (Ext.trans Ew23.out (Ext.trans Ew24.out (Ext.trans Ew25.out (Ext.trans Ew26.out (Ext.trans Ew27.out (Ext.trans Ew28.out (Ext.trans Ew29.out (Ext.trans Ew30.out (Ext.trans Ew31.out (Ext.trans Ew32.out (Ext.trans Ew33.out (Ext.trans Ew34.out (Ext.trans Ew35.out (Ext.trans Ew36.out (Ext.trans Ew37.out (Ext.trans Ew38.out Ew39.out))))))))))))))))))).1.2.2.2 (by simp)
    have ft0 := fun z : ExtX w39 [] => z.cell (p := ⟨bt, ot, none⟩) (Ext.cellOf Ew39.out HT0.out.1) (by simp)
    have ft1 := fun z : ExtX w39 [] => z.cell (p := ⟨bt, ot + 1, none⟩) (Ext.cellOf Ew39.out HT0.out.2) (by simp)
    repeat (refine lexAt_still (by rfl) ?_; go_big_quiet_step (fail); refine wpQuiet_nil ?_)
    refine lexAt_move (by rfl) (by kernel_rfl) ?_
    go_wp2_with fail
    refine (lwhole_any 44 w39 ⟨by omega, by omega⟩).mono ?_
    rintro e w40 ⟨sp, Ap, np, cp, tp, Bp, mp, dp, rfl, hQ, hE⟩
    have Ew40 := Lib.hid hE
    clear hE
    have Qp := Lib.hid hQ
    clear hQ
    go_wp2_with fail
    refine And.intro (inX_of_ext _ Ew40.out) ?_
    repeat (refine lexAt_still (by rfl) ?_; go_big_quiet_step (fail); refine wpQuiet_nil ?_)
    obtain ⟨llp, lmp⟩ := Qp.out.len (sz_int (z := 44) (k := 2) (by omega) (by decide))
    refine lexAt_move (by rfl) (by kernel_rfl) ?_
    go_wp2_with fail
    refine (costs_any ASl 2 cSl [((10 : Int), (3 : Int)), (5, 7)] true (some ⟨go, 0, none⟩) 2 2 true (some ⟨go + 1, 0, none⟩) 1 1 12 sp Ap np cp tp Bp mp dp ((44 : Int) : Rat) _ w40 (HSl.out.below (Ext.trans Ew20.out (Ext.trans Ew21.out (Ext.trans Ew22.out (Ext.trans Ew23.out (Ext.trans Ew24.out (Ext.trans Ew25.out (Ext.trans Ew26.out (Ext.trans Ew27.out (Ext.trans Ew28.out (Ext.trans Ew29.out (Ext.trans Ew30.out (Ext.trans Ew31.out (Ext.trans Ew32.out (Ext.trans Ew33.out (Ext.trans Ew34.out (Ext.trans Ew35.out (Ext.trans Ew36.out (Ext.trans Ew37.out (Ext.trans Ew38.out (Ext.trans Ew39.out Ew40.out))))))))))))))))))))) (by simp [maxLen]) (HODD.out.ext (Ext.trans Ew21.out (Ext.trans Ew22.out (Ext.trans Ew23.out (Ext.trans Ew24.out (Ext.trans Ew25.out (Ext.trans Ew26.out (Ext.trans Ew27.out (Ext.trans Ew28.out (Ext.trans Ew29.out (Ext.trans Ew30.out (Ext.trans Ew31.out (Ext.trans Ew32.out (Ext.trans Ew33.out (Ext.trans Ew34.out (Ext.trans Ew35.out (Ext.trans Ew36.out (Ext.trans Ew37.out (Ext.trans Ew38.out (Ext.trans Ew39.out Ew40.out)))))))))))))))))))) (by omega) (by omega) Qp.out).mono ?_
    rintro e w41 ⟨rfl, hE⟩
    have Ew41 := Lib.hid hE
    clear hE
    rw [decide_eq_true sx_cost.1]
    go_wp2_with fail
    refine And.intro (inX_of_ext _ (Ext.trans Ew40.out Ew41.out)) ?_
    repeat (refine lexAt_still (by rfl) ?_; go_big_quiet_step (fail); refine wpQuiet_nil ?_)
    clear Qp llp lmp
    refine lexAt_move (by rfl) (by kernel_rfl) ?_
    go_wp2_with fail
    refine (lwhole_any 15 w41 ⟨by omega, by omega⟩).mono ?_
    rintro e w42 ⟨sp, Ap, np, cp, tp, Bp, mp, dp, rfl, hQ, hE⟩
    have Ew42 := Lib.hid hE
    clear hE
    have Qp := Lib.hid hQ
    clear hQ
    go_wp2_with fail
    refine And.intro (inX_of_ext _ (Ext.trans Ew40.out (Ext.trans Ew41.out Ew42.out))) ?_
    repeat (refine lexAt_still (by rfl) ?_; go_big_quiet_step (fail); refine wpQuiet_nil ?_)
    obtain ⟨llp, lmp⟩ := Qp.out.len (sz_int (z := 15) (k := 2) (by omega) (by decide))
    refine lexAt_move (by rfl) (by kernel_rfl) ?_
    go_wp2_with fail
    refine (lwhole_any 65 w42 ⟨by omega, by omega⟩).mono ?_
    rintro e w43 ⟨sq, Aq, nq, cq, tq, Bq, mq, dq, rfl, hQ, hE⟩
    have Ew43 := Lib.hid hE
    clear hE
    have Qq := Lib.hid hQ
    clear hQ
    go_wp2_with fail
    refine And.intro (inX_of_ext _ (Ext.trans Ew40.out (Ext.trans Ew41.out (Ext.trans Ew42.out Ew43.out)))) ?_
    repeat (refine lexAt_still (by rfl) ?_; go_big_quiet_step (fail); refine wpQuiet_nil ?_)
    obtain ⟨llq, lmq⟩ := Qq.out.len (sz_int (z := 65) (k := 2) (by omega) (by decide))
    refine lexAt_move (by rfl) (by kernel_rfl) ?_
    go_wp2_with fail
    refine (costs_any ASl 2 cSl [((10 : Int), (3 : Int)), (5, 7)] sp Ap np cp tp Bp mp dp ((15 : Int) : Rat) sq Aq nq cq tq Bq mq dq ((65 : Int) : Rat) _ w43 (HSl.out.below (Ext.trans Ew20.out (Ext.trans Ew21.out (Ext.trans Ew22.out (Ext.trans Ew23.out (Ext.trans Ew24.out (Ext.trans Ew25.out (Ext.trans Ew26.out (Ext.trans Ew27.out (Ext.trans Ew28.out (Ext.trans Ew29.out (Ext.trans Ew30.out (Ext.trans Ew31.out (Ext.trans Ew32.out (Ext.trans Ew33.out (Ext.trans Ew34.out (Ext.trans Ew35.out (Ext.trans Ew36.out (Ext.trans Ew37.out (Ext.trans Ew38.out (Ext.trans Ew39.out (Ext.trans Ew40.out (Ext.trans Ew41.out (Ext.trans Ew42.out Ew43.out)))))))))))))))))))))))) (by simp [maxLen]) (Qp.out.ext Ew43.out).is (by omega) (by omega) Qq.out).mono ?_
    rintro e w44 ⟨rfl, hE⟩
    have Ew44 := Lib.hid hE
    clear hE
    rw [decide_eq_true sx_cost.2.1]
    go_wp2_with fail
    refine And.intro (inX_of_ext _ (Ext.trans Ew40.out (Ext.trans Ew41.out (Ext.trans Ew42.out (Ext.trans Ew43.out Ew44.out))))) ?_
    repeat (refine lexAt_still (by rfl) ?_; go_big_quiet_step (fail); refine wpQuiet_nil ?_)
    clear Qp llp lmp
    clear Qq llq lmq
    refine lexAt_move (by rfl) (by kernel_rfl) ?_
    go_wp2_with fail
    refine (costs_any ASl 2 cSl [((10 : Int), (3 : Int)), (5, 7)] false none 0 0 false none 0 0 0 false none 0 0 false none 0 0 0 _ w44 (HSl.out.below (Ext.trans Ew20.out (Ext.trans Ew21.out (Ext.trans Ew22.out (Ext.trans Ew23.out (Ext.trans Ew24.out (Ext.trans Ew25.out (Ext.trans Ew26.out (Ext.trans Ew27.out (Ext.trans Ew28.out (Ext.trans Ew29.out (Ext.trans Ew30.out (Ext.trans Ew31.out (Ext.trans Ew32.out (Ext.trans Ew33.out (Ext.trans Ew34.out (Ext.trans Ew35.out (Ext.trans Ew36.out (Ext.trans Ew37.out (Ext.trans Ew38.out (Ext.trans Ew39.out (Ext.trans Ew40.out (Ext.trans Ew41.out (Ext.trans Ew42.out (Ext.trans Ew43.out Ew44.out))))))))))))))))))))))))) (by simp [maxLen]) (qcan_zero w44 0).is (by omega) (by omega) (qcan_zero w44 0)).mono ?_
    rintro e w45 ⟨rfl, hE⟩
    have Ew45 := Lib.hid hE
    clear hE
    rw [decide_eq_true sx_cost.2.2.1]
    go_wp2_with fail
    refine And.intro (inX_of_ext _ (Ext.trans Ew40.out (Ext.trans Ew41.out (Ext.trans Ew42.out (Ext.trans Ew43.out (Ext.trans Ew44.out Ew45.out)))))) ?_
    repeat (refine lexAt_still (by rfl) ?_; go_big_quiet_step (fail); refine wpQuiet_nil ?_)
    refine lexAt_move (by rfl) (by kernel_rfl) ?_
    go_wp2_with fail
    refine (rqof_any 21 2 w45 ⟨by omega, by omega⟩ ⟨by omega, by omega⟩).mono ?_
    rintro e w46 ⟨sp, Ap, np, cp, tp, Bp, mp, dp, rfl, hQ, hE⟩
    have Ew46 := Lib.hid hE
    clear hE
    have Qp := Lib.hid hQ
    clear hQ
    go_wp2_with fail
    refine And.intro (inX_of_ext _ (Ext.trans Ew40.out (Ext.trans Ew41.out (Ext.trans Ew42.out (Ext.trans Ew43.out (Ext.trans Ew44.out (Ext.trans Ew45.out Ew46.out))))))) ?_
    repeat (refine lexAt_still (by rfl) ?_; go_big_quiet_step (fail); refine wpQuiet_nil ?_)
    obtain ⟨llp, lmp⟩ := Qp.out.len (sz_qOf (z := 21) (y := 2) (k := 1) (by omega) (by decide) (by decide))
    refine lexAt_move (by rfl) (by kernel_rfl) ?_
    go_wp2_with fail
    refine (rqof_any 67 2 w46 ⟨by omega, by omega⟩ ⟨by omega, by omega⟩).mono ?_
    rintro e w47 ⟨sq, Aq, nq, cq, tq, Bq, mq, dq, rfl, hQ, hE⟩
    have Ew47 := Lib.hid hE
    clear hE
    have Qq := Lib.hid hQ
    clear hQ
    go_wp2_with fail
    refine And.intro (inX_of_ext _ (Ext.trans Ew40.out (Ext.trans Ew41.out (Ext.trans Ew42.out (Ext.trans Ew43.out (Ext.trans Ew44.out (Ext.trans Ew45.out (Ext.trans Ew46.out Ew47.out)))))))) ?_
    repeat (refine lexAt_still (by rfl) ?_; go_big_quiet_step (fail); refine wpQuiet_nil ?_)
    obtain ⟨llq, lmq⟩ := Qq.out.len (sz_qOf (z := 67) (y := 2) (k := 1) (by omega) (by decide) (by decide))
    refine lexAt_move (by rfl) (by kernel_rfl) ?_
    go_wp2_with fail
    refine (costs_any ASl 2 cSl [((10 : Int), (3 : Int)), (5, 7)] sp Ap np cp tp Bp mp dp (qOf 21 2) sq Aq nq cq tq Bq mq dq (qOf 67 2) _ w47 (HSl.out.below (Ext.trans Ew20.out (Ext.trans Ew21.out (Ext.trans Ew22.out (Ext.trans Ew23.out (Ext.trans Ew24.out (Ext.trans Ew25.out (Ext.trans Ew26.out (Ext.trans Ew27.out (Ext.trans Ew28.out (Ext.trans Ew29.out (Ext.trans Ew30.out (Ext.trans Ew31.out (Ext.trans Ew32.out (Ext.trans Ew33.out (Ext.trans Ew34.out (Ext.trans Ew35.out (Ext.trans Ew36.out (Ext.trans Ew37.out (Ext.trans Ew38.out (Ext.trans Ew39.out (Ext.trans Ew40.out (Ext.trans Ew41.out (Ext.trans Ew42.out (Ext.trans Ew43.out (Ext.trans Ew44.out (Ext.trans Ew45.out (Ext.trans Ew46.out Ew47.out)))))))))))))))))))))))))))) (by simp [maxLen]) (Qp.out.ext Ew47.out).is (by omega) (by omega) Qq.out).mono ?_
    rintro e w48 ⟨rfl, hE⟩
    have Ew48 := Lib.hid hE
    clear hE
    rw [decide_eq_true sx_cost.2.2.2.1]
    go_wp2_with fail
    refine And.intro (inX_of_ext _ (Ext.trans Ew40.out (Ext.trans Ew41.out (Ext.trans Ew42.out (Ext.trans Ew43.out (Ext.trans Ew44.out (Ext.trans Ew45.out (Ext.trans Ew46.out (Ext.trans Ew47.out Ew48.out))))))))) ?_
    repeat (refine lexAt_still (by rfl) ?_; go_big_quiet_step (fail); refine wpQuiet_nil ?_)
    clear Qp llp lmp
    clear Qq llq lmq
    refine lexAt_move (by rfl) (by kernel_rfl) ?_
    go_wp2_with fail
    refine And.intro (inX_of_ext _ (Ext.trans (Ext.trans Ew40.out (Ext.trans Ew41.out (Ext.trans Ew42.out (Ext.trans Ew43.out (Ext.trans Ew44.out (Ext.trans Ew45.out (Ext.trans Ew46.out (Ext.trans Ew47.out Ew48.out)))))))) (Ext.al Ext.rfl' _))) ?_
    repeat (refine lexAt_still (by rfl) ?_; go_big_quiet_step (fail); refine wpQuiet_nil ?_)
    refine lexAt_move (by rfl) (by kernel_rfl) ?_
    go_wp2_with fail
    refine (steps_any _ 1 2 [1000000, (-1000000)] _ (intsL w48 _ #[.int .i64 1000000, .int .i64 (-1000000)] [1000000, (-1000000)] rfl) (by omega)).mono ?_
    rintro e w49 ⟨ASm, cSm, rfl, hS, hS1, hS2, hE⟩
    have hE := Ext.trans (Ext.al (Ext.rfl' (w := w48)) _) hE
    have HSm : Hid (StepsAt w49 ASm 1 [(1000000, (-1000000))]) := hS
    clear hS hS1 hS2
    have Ew49 := Lib.hid hE
    clear hE
    go_wp2_with fail
    refine And.intro (inX_of_ext _ (Ext.trans Ew40.out (Ext.trans Ew41.out (Ext.trans Ew42.out (Ext.trans Ew43.out (Ext.trans Ew44.out (Ext.trans Ew45.out (Ext.trans Ew46.out (Ext.trans Ew47.out (Ext.trans Ew48.out Ew49.out)))))))))) ?_
    repeat (refine lexAt_still (by rfl) ?_; go_big_quiet_step (fail); refine wpQuiet_nil ?_)
    refine lexAt_move (by rfl) (by kernel_rfl) ?_
    go_wp2_with fail
    refine (lwhole_any 1000000 w49 ⟨by omega, by omega⟩).mono ?_
    rintro e w50 ⟨sp, Ap, np, cp, tp, Bp, mp, dp, rfl, hQ, hE⟩
    have Ew50 := Lib.hid hE
    clear hE
    have Qp := Lib.hid hQ
    clear hQ
    go_wp2_with fail
    refine And.intro (inX_of_ext _ (Ext.trans Ew40.out (Ext.trans Ew41.out (Ext.trans Ew42.out (Ext.trans Ew43.out (Ext.trans Ew44.out (Ext.trans Ew45.out (Ext.trans Ew46.out (Ext.trans Ew47.out (Ext.trans Ew48.out (Ext.trans Ew49.out Ew50.out))))))))))) ?_
    repeat (refine lexAt_still (by rfl) ?_; go_big_quiet_step (fail); refine wpQuiet_nil ?_)
    obtain ⟨llp, lmp⟩ := Qp.out.len (sz_int (z := 1000000) (k := 2) (by omega) (by decide))
    refine lexAt_move (by rfl) (by kernel_rfl) ?_
    go_wp2_with fail
    refine (lwhole_any (-1000000000000) w50 ⟨by omega, by omega⟩).mono ?_
    rintro e w51 ⟨sq, Aq, nq, cq, tq, Bq, mq, dq, rfl, hQ, hE⟩
    have Ew51 := Lib.hid hE
    clear hE
    have Qq := Lib.hid hQ
    clear hQ
    go_wp2_with fail
    refine And.intro (inX_of_ext _ (Ext.trans Ew40.out (Ext.trans Ew41.out (Ext.trans Ew42.out (Ext.trans Ew43.out (Ext.trans Ew44.out (Ext.trans Ew45.out (Ext.trans Ew46.out (Ext.trans Ew47.out (Ext.trans Ew48.out (Ext.trans Ew49.out (Ext.trans Ew50.out Ew51.out)))))))))))) ?_
    repeat (refine lexAt_still (by rfl) ?_; go_big_quiet_step (fail); refine wpQuiet_nil ?_)
    obtain ⟨llq, lmq⟩ := Qq.out.len (sz_int (z := (-1000000000000)) (k := 2) (by omega) (by decide))
    refine lexAt_move (by rfl) (by kernel_rfl) ?_
    go_wp2_with fail
    refine (costs_any ASm 1 cSm [(1000000, (-1000000))] sp Ap np cp tp Bp mp dp ((1000000 : Int) : Rat) sq Aq nq cq tq Bq mq dq (((-1000000000000) : Int) : Rat) _ w51 (HSm.out.below (Ext.trans Ew50.out Ew51.out)) (by simp [maxLen]) (Qp.out.ext Ew51.out).is (by omega) (by omega) Qq.out).mono ?_
    rintro e w52 ⟨rfl, hE⟩
    have Ew52 := Lib.hid hE
    clear hE
    rw [decide_eq_true sx_cost.2.2.2.2]
    go_wp2_with fail
    refine And.intro (inX_of_ext _ (Ext.trans Ew40.out (Ext.trans Ew41.out (Ext.trans Ew42.out (Ext.trans Ew43.out (Ext.trans Ew44.out (Ext.trans Ew45.out (Ext.trans Ew46.out (Ext.trans Ew47.out (Ext.trans Ew48.out (Ext.trans Ew49.out (Ext.trans Ew50.out (Ext.trans Ew51.out Ew52.out))))))))))))) ?_
    repeat (refine lexAt_still (by rfl) ?_; go_big_quiet_step (fail); refine wpQuiet_nil ?_)
    clear Qp llp lmp
    clear Qq llq lmq
    clear HSm
    refine lexAt_move (by rfl) (by kernel_rfl) ?_
    go_wp2_with fail
    refine (rqof_any 5 2 w52 ⟨by omega, by omega⟩ ⟨by omega, by omega⟩).mono ?_
    rintro e w53 ⟨sp, Ap, np, cp, tp, Bp, mp, dp, rfl, hQ, hE⟩
    have Ew53 := Lib.hid hE
    clear hE
    have Qp := Lib.hid hQ
    clear hQ
    go_wp2_with fail
    refine And.intro (inX_of_ext _ (Ext.trans Ew40.out (Ext.trans Ew41.out (Ext.trans Ew42.out (Ext.trans Ew43.out (Ext.trans Ew44.out (Ext.trans Ew45.out (Ext.trans Ew46.out (Ext.trans Ew47.out (Ext.trans Ew48.out (Ext.trans Ew49.out (Ext.trans Ew50.out (Ext.trans Ew51.out (Ext.trans Ew52.out Ew53.out)))))))))))))) ?_
    repeat (refine lexAt_still (by rfl) ?_; go_big_quiet_step (fail); refine wpQuiet_nil ?_)
    obtain ⟨llp, lmp⟩ := Qp.out.len (sz_qOf (z := 5) (y := 2) (k := 1) (by omega) (by decide) (by decide))
    refine lexAt_move (by rfl) (by kernel_rfl) ?_
    go_wp2_with fail
    refine (wanted_off ASl 2 cSl [((10 : Int), (3 : Int)), (5, 7)] sp Ap np cp tp Bp mp dp (qOf 5 2) 0 0 w53 (HSl.out.below (Ext.trans Ew20.out (Ext.trans Ew21.out (Ext.trans Ew22.out (Ext.trans Ew23.out (Ext.trans Ew24.out (Ext.trans Ew25.out (Ext.trans Ew26.out (Ext.trans Ew27.out (Ext.trans Ew28.out (Ext.trans Ew29.out (Ext.trans Ew30.out (Ext.trans Ew31.out (Ext.trans Ew32.out (Ext.trans Ew33.out (Ext.trans Ew34.out (Ext.trans Ew35.out (Ext.trans Ew36.out (Ext.trans Ew37.out (Ext.trans Ew38.out (Ext.trans Ew39.out (Ext.trans Ew40.out (Ext.trans Ew41.out (Ext.trans Ew42.out (Ext.trans Ew43.out (Ext.trans Ew44.out (Ext.trans Ew45.out (Ext.trans Ew46.out (Ext.trans Ew47.out (Ext.trans Ew48.out (Ext.trans Ew49.out (Ext.trans Ew50.out (Ext.trans Ew51.out (Ext.trans Ew52.out Ew53.out)))))))))))))))))))))))))))))))))) (by simp [maxLen]) (Qp.out.arg (sz_qOf (z := 5) (y := 2) (k := 1) (by omega) (by decide) (by decide)) (by omega))).mono ?_
    rintro e w54 ⟨rfl, hE⟩
    have Ew54 := Lib.hid hE
    clear hE
    rw [decide_eq_true sx_want.1]
    go_wp2_with fail
    refine And.intro (inX_of_ext _ (Ext.trans Ew40.out (Ext.trans Ew41.out (Ext.trans Ew42.out (Ext.trans Ew43.out (Ext.trans Ew44.out (Ext.trans Ew45.out (Ext.trans Ew46.out (Ext.trans Ew47.out (Ext.trans Ew48.out (Ext.trans Ew49.out (Ext.trans Ew50.out (Ext.trans Ew51.out (Ext.trans Ew52.out (Ext.trans Ew53.out Ew54.out))))))))))))))) ?_
    repeat (refine lexAt_still (by rfl) ?_; go_big_quiet_step (fail); refine wpQuiet_nil ?_)
    clear Qp llp lmp
    refine lexAt_move (by rfl) (by kernel_rfl) ?_
    go_wp2_with fail
    refine (rqof_any 15 2 w54 ⟨by omega, by omega⟩ ⟨by omega, by omega⟩).mono ?_
    rintro e w55 ⟨sp, Ap, np, cp, tp, Bp, mp, dp, rfl, hQ, hE⟩
    have Ew55 := Lib.hid hE
    clear hE
    have Qp := Lib.hid hQ
    clear hQ
    go_wp2_with fail
    refine And.intro (inX_of_ext _ (Ext.trans Ew40.out (Ext.trans Ew41.out (Ext.trans Ew42.out (Ext.trans Ew43.out (Ext.trans Ew44.out (Ext.trans Ew45.out (Ext.trans Ew46.out (Ext.trans Ew47.out (Ext.trans Ew48.out (Ext.trans Ew49.out (Ext.trans Ew50.out (Ext.trans Ew51.out (Ext.trans Ew52.out (Ext.trans Ew53.out (Ext.trans Ew54.out Ew55.out)))))))))))))))) ?_
    repeat (refine lexAt_still (by rfl) ?_; go_big_quiet_step (fail); refine wpQuiet_nil ?_)
    obtain ⟨llp, lmp⟩ := Qp.out.len (sz_qOf (z := 15) (y := 2) (k := 1) (by omega) (by decide) (by decide))
    refine lexAt_move (by rfl) (by kernel_rfl) ?_
    go_wp2_with fail
    refine (wanted_off ASl 2 cSl [((10 : Int), (3 : Int)), (5, 7)] sp Ap np cp tp Bp mp dp (qOf 15 2) 15 15 w55 (HSl.out.below (Ext.trans Ew20.out (Ext.trans Ew21.out (Ext.trans Ew22.out (Ext.trans Ew23.out (Ext.trans Ew24.out (Ext.trans Ew25.out (Ext.trans Ew26.out (Ext.trans Ew27.out (Ext.trans Ew28.out (Ext.trans Ew29.out (Ext.trans Ew30.out (Ext.trans Ew31.out (Ext.trans Ew32.out (Ext.trans Ew33.out (Ext.trans Ew34.out (Ext.trans Ew35.out (Ext.trans Ew36.out (Ext.trans Ew37.out (Ext.trans Ew38.out (Ext.trans Ew39.out (Ext.trans Ew40.out (Ext.trans Ew41.out (Ext.trans Ew42.out (Ext.trans Ew43.out (Ext.trans Ew44.out (Ext.trans Ew45.out (Ext.trans Ew46.out (Ext.trans Ew47.out (Ext.trans Ew48.out (Ext.trans Ew49.out (Ext.trans Ew50.out (Ext.trans Ew51.out (Ext.trans Ew52.out (Ext.trans Ew53.out (Ext.trans Ew54.out Ew55.out)))))))))))))))))))))))))))))))))))) (by simp [maxLen]) (Qp.out.arg (sz_qOf (z := 15) (y := 2) (k := 1) (by omega) (by decide) (by decide)) (by omega))).mono ?_
    rintro e w56 ⟨rfl, hE⟩
    have Ew56 := Lib.hid hE
    clear hE
    rw [decide_eq_true sx_want.2]
    go_wp2_with fail
    refine And.intro (inX_of_ext _ (Ext.trans Ew40.out (Ext.trans Ew41.out (Ext.trans Ew42.out (Ext.trans Ew43.out (Ext.trans Ew44.out (Ext.trans Ew45.out (Ext.trans Ew46.out (Ext.trans Ew47.out (Ext.trans Ew48.out (Ext.trans Ew49.out (Ext.trans Ew50.out (Ext.trans Ew51.out (Ext.trans Ew52.out (Ext.trans Ew53.out (Ext.trans Ew54.out (Ext.trans Ew55.out Ew56.out))))))))))))))))) ?_
    repeat (refine lexAt_still (by rfl) ?_; go_big_quiet_step (fail); refine wpQuiet_nil ?_)
    clear Qp llp lmp
    refine lexAt_move (by rfl) (by kernel_rfl) ?_
    go_wp2_with fail
    refine (negate_any none 0 0 [] w56 ⟨rfl, fun h => absurd h (by decide)⟩ (by omega)).mono ?_
    rintro e w57 ⟨AZ, cZ, rfl, -, -, -, hE⟩
    have Ew57 := Lib.hid hE
    clear hE
    go_wp2_with fail
    refine And.intro (inX_of_ext _ (Ext.trans Ew40.out (Ext.trans Ew41.out (Ext.trans Ew42.out (Ext.trans Ew43.out (Ext.trans Ew44.out (Ext.trans Ew45.out (Ext.trans Ew46.out (Ext.trans Ew47.out (Ext.trans Ew48.out (Ext.trans Ew49.out (Ext.trans Ew50.out (Ext.trans Ew51.out (Ext.trans Ew52.out (Ext.trans Ew53.out (Ext.trans Ew54.out (Ext.trans Ew55.out (Ext.trans Ew56.out Ew57.out)))))))))))))))))) ?_
    repeat (refine lexAt_still (by rfl) ?_; go_big_quiet_step (fail); refine wpQuiet_nil ?_)
    refine lexAt_nil ?_
    clear fO0 fO1 fO2 fO3 ft0 ft1
    go_wp2_with fail
    go_ret
    exact ⟨rfl, (Ext.trans HE.out (Ext.trans Ew19.out (Ext.trans Ew20.out (Ext.trans Ew21.out (Ext.trans Ew22.out (Ext.trans Ew23.out (Ext.trans Ew24.out (Ext.trans Ew25.out (Ext.trans Ew26.out (Ext.trans Ew27.out (Ext.trans Ew28.out (Ext.trans Ew29.out (Ext.trans Ew30.out (Ext.trans Ew31.out (Ext.trans Ew32.out (Ext.trans Ew33.out (Ext.trans Ew34.out (Ext.trans Ew35.out (Ext.trans Ew36.out (Ext.trans Ew37.out (Ext.trans Ew38.out (Ext.trans Ew39.out (Ext.trans Ew40.out (Ext.trans Ew41.out (Ext.trans Ew42.out (Ext.trans Ew43.out (Ext.trans Ew44.out (Ext.trans Ew45.out (Ext.trans Ew46.out (Ext.trans Ew47.out (Ext.trans Ew48.out (Ext.trans Ew49.out (Ext.trans Ew50.out (Ext.trans Ew51.out (Ext.trans Ew52.out (Ext.trans Ew53.out (Ext.trans Ew54.out (Ext.trans Ew55.out (Ext.trans Ew56.out Ew57.out)))))))))))))))))))))))))))))))))))))))⟩
end Go.Proofs.Ytppcpklnnbgcjaa
