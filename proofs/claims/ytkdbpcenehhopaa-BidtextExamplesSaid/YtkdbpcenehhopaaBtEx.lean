/- The law BidtextExamples returns true. Printed by gen_ex.py. -/
import Derived.Test.YtkdbpcenehhopaaBtFo
import Derived.Lib.SlBytesRow
namespace Go.Proofs.Ytkdbpcenehhopaa
open Go.RowKit
theorem zeros_ex (n : Nat) : ∃ S : ByteArray, S.size = n ∧ ∀ i (h : i < S.size), S[i] = 0 := by
  refine ⟨bs (List.replicate n 0), by rw [bs_size]; simp, fun i h => ?_⟩
  show (List.replicate n (0 : UInt8)).toArray[i] = 0
  simp
theorem made_one (v : Value) (n i : Nat) (h : i < n) : (madeCells #[v] (n * 1))[i]? = some v := by
  simp [madeCells, Nat.mod_one, h]
theorem bytes_made {w w' : World} {t : TypeId} {n : Nat} {S : ByteArray} (hS : S.size = n) (h0 : ∀ i (h : i < S.size), S[i] = 0) (h : w.alloc (.cells (madeCells (Value.int .u8 0).cells (n * 1)) t) = w') : Lib.Bytes w' w.heap.size 0 S ∧ Ext w w' := by
  subst h
  refine ⟨fun i hi => ?_, Ext.al Ext.rfl' _⟩
  have hb := Blk.new w t (madeCells (Value.int .u8 0).cells (n * 1))
  rw [Nat.zero_add, hb.cell, h0 i hi]
  exact made_one _ n i (by omega)
/-- The rows of a table: a text and an error. -/
def rowCells (R : List (ByteArray × Int)) : List Value := R.flatMap fun x => [.string x.1, .int .i64 x.2]
theorem rowCells_get : ∀ (R : List (ByteArray × Int)) (i : Nat), i < R.length → (rowCells R)[i * 2]? = some (.string (R.getD i (⟨#[]⟩, 0)).1) ∧ (rowCells R)[i * 2 + 1]? = some (.int .i64 (R.getD i (⟨#[]⟩, 0)).2)
  | [], i, h => by simp at h
  | z :: R, 0, _ => ⟨rfl, rfl⟩
  | z :: R, i + 1, h => by
    have := rowCells_get R i (by simpa using h)
    have e1 : (rowCells (z :: R))[(i + 1) * 2]? = (rowCells R)[i * 2]? := by
      show ([Value.string z.1, Value.int .i64 z.2] ++ rowCells R)[(i + 1) * 2]? = _
      rw [List.getElem?_append_right (by simp; omega)]
      congr 1
      simp
      omega
    have e2 : (rowCells (z :: R))[(i + 1) * 2 + 1]? = (rowCells R)[i * 2 + 1]? := by
      show ([Value.string z.1, Value.int .i64 z.2] ++ rowCells R)[(i + 1) * 2 + 1]? = _
      rw [List.getElem?_append_right (by simp; omega)]
      congr 1
      simp
      omega
    rw [e1, e2]
    simpa [List.getD] using this
/-- A table in memory. -/
def TabAt (w : World) (g : Nat) (R : List (ByteArray × Int)) : Prop := g < w.heap.size ∧ ∀ i, i < R.length → w.cell? ⟨g, i * 2, none⟩ = some (.string (R.getD i (⟨#[]⟩, 0)).1) ∧ w.cell? ⟨g, i * 2 + 1, none⟩ = some (.int .i64 (R.getD i (⟨#[]⟩, 0)).2)
theorem TabAt.of {w : World} {g : Nat} {t : TypeId} {R : List (ByteArray × Int)} (h : Blk w g t (rowCells R).toArray) : TabAt w g R := ⟨h.lt, fun i hi => by
  obtain ⟨h1, h2⟩ := rowCells_get R i hi
  rw [h.cell, h.cell]
  simp only [List.getElem?_toArray]
  exact ⟨h1, h2⟩⟩
theorem TabAt.ext {w w' : World} {g : Nat} {R : List (ByteArray × Int)} (h : TabAt w g R) (hE : Ext w w') : TabAt w' g R := ⟨Nat.lt_of_lt_of_le h.1 hE.size, fun i hi => ⟨Ext.cellOf hE (h.2 i hi).1, Ext.cellOf hE (h.2 i hi).2⟩⟩
theorem get_in {R : List (ByteArray × Int)} {i : Nat} (h : i < R.length) : R.getD i (⟨#[]⟩, 0) ∈ R := by
  rw [show R.getD i (⟨#[]⟩, 0) = R[i] by simp [List.getD, List.getElem?_eq_getElem h]]
  exact List.getElem_mem h
theorem next_long {l : Bs} (h : 65536 < l.length) (kd : Int) : psE l ⟨0, 0⟩ kd = ⟨0, 5⟩ := by
  have h1 : nextT l 0 = nxE 5 := by unfold nextT; rw [if_pos h]
  have h2 : expectT l 0 kd = nxE 5 := by
    unfold expectT
    rw [h1]
    simp [nxE]
  unfold psE
  rw [if_neg (by simp), h2]
  simp [PS.adv, nxE]
theorem unit_long {l : Bs} (h : 65536 < l.length) : unitR l 0 = ⟨U0, 0, 5⟩ := by
  have h1 := next_long h 1
  have hd : unitHd l 0 = ⟨0, 5⟩ := by unfold unitHd; rw [h1]; unfold psW; rw [if_pos (by simp)]
  have h2 : psI l ⟨0, 5⟩ = ⟨0, 5⟩ := by unfold psI; rw [if_pos (by simp)]
  have h8 : psIs l 8 ⟨0, 5⟩ = ⟨0, 5⟩ := by
    rw [psIs, psIs, psIs, psIs, psIs, psIs, psIs, psIs, psIs, h2, h2, h2, h2, h2, h2, h2, h2]
  have h3 : psMore l ⟨0, 5⟩ = false := rfl
  have h4 : psE l ⟨0, 5⟩ 2 = ⟨0, 5⟩ := by unfold psE; rw [if_pos (by simp)]
  unfold unitR
  rw [hd, h8]
  unfold listP
  rw [stepsP_stop h3, h4]
  unfold unitEnd
  rw [if_pos (by simp)]
def rowsU (S : ByteArray) : List (ByteArray × Int) := [(⟨#[]⟩, 4), (⟨#[32, 32, 10]⟩, 4), (⟨#[117, 110, 105, 116]⟩, 3), (⟨#[40]⟩, 4), (⟨#[40, 41]⟩, 3), (⟨#[40, 98, 105, 100, 32, 48, 32, 50, 41]⟩, 3), (⟨#[40, 117, 110, 105, 116]⟩, 4), (⟨#[40, 117, 110, 105, 116, 32, 40]⟩, 3), (⟨#[40, 117, 110, 105, 116, 32, 120]⟩, 3), (⟨#[40, 117, 110, 105, 116, 32, 48, 32, 50, 41]⟩, 3), (⟨#[40, 117, 110, 105, 116, 32, 48, 32, 50, 32, 50, 32, 50, 32, 53, 32, 51, 32, 48, 32, 45, 49, 41]⟩, 4), (⟨#[40, 117, 110, 105, 116, 32, 48, 32, 50, 32, 50, 32, 50, 32, 53, 32, 51, 32, 48, 32, 45, 49]⟩, 4), (⟨#[40, 117, 110, 105, 116, 32, 48, 32, 50, 32, 50, 32, 50, 32, 53, 32, 51, 32, 48, 32, 45, 49, 32, 53, 32, 49, 41]⟩, 3), (⟨#[40, 117, 110, 105, 116, 32, 48, 32, 50, 32, 50, 32, 50, 32, 53, 32, 51, 32, 48, 32, 45, 49, 32, 40, 53, 41, 41]⟩, 3), (⟨#[40, 117, 110, 105, 116, 32, 48, 32, 50, 32, 50, 32, 50, 32, 53, 32, 51, 32, 48, 32, 45, 49, 32, 40, 53, 32, 49, 32, 50, 41, 41]⟩, 3), (⟨#[40, 117, 110, 105, 116, 32, 48, 32, 50, 32, 50, 32, 50, 32, 53, 32, 51, 32, 48, 32, 45, 49, 32, 40, 53, 32, 49, 41]⟩, 4), (⟨#[40, 117, 110, 105, 116, 32, 48, 32, 50, 32, 50, 32, 50, 32, 53, 32, 51, 32, 48, 32, 45, 49, 32, 40, 53, 32, 49, 41, 32, 48, 48, 55, 41]⟩, 3), (⟨#[40, 117, 110, 105, 116, 32, 48, 32, 50, 32, 50, 32, 50, 32, 53, 32, 51, 32, 48, 32, 45, 49, 32, 40, 53, 32, 49, 41, 32, 40, 52, 32, 49, 41, 41]⟩, 3), (⟨#[40, 117, 110, 105, 116, 32, 54, 32, 50, 32, 50, 32, 50, 32, 53, 32, 51, 32, 48, 32, 45, 49, 32, 40, 53, 32, 49, 41, 32, 40, 52, 32, 51, 41, 41]⟩, 1), (⟨#[40, 117, 110, 105, 116, 32, 48, 32, 50, 32, 50, 32, 50, 32, 53, 32, 51, 32, 48, 32, 48, 32, 40, 53, 32, 49, 41, 32, 40, 52, 32, 51, 41, 41]⟩, 1), (⟨#[40, 117, 110, 105, 116, 32, 48, 32, 50, 32, 50, 32, 50, 32, 53, 32, 51, 32, 48, 32, 49, 47, 50, 32, 40, 53, 32, 49, 41, 32, 40, 52, 32, 51, 41, 41]⟩, 1), (⟨#[40, 117, 110, 105, 116, 32, 48, 32, 57, 50, 50, 51, 51, 55, 50, 48, 51, 54, 56, 53, 52, 55, 55, 53, 56, 48, 56, 32, 50, 32, 50, 32, 53, 32, 51, 32, 48, 32, 45, 49, 32, 40, 53, 32, 49, 41, 41]⟩, 1), (⟨#[40, 117, 110, 105, 116, 32, 48, 32, 50, 32, 50, 32, 50, 32, 53, 32, 51, 32, 48, 32, 45, 49, 32, 40, 53, 32, 49, 41, 32, 40, 52, 32, 51, 41, 32, 40, 49, 32, 52, 41, 32, 40, 49, 32, 53, 41, 41]⟩, 5), (⟨#[40, 117, 110, 105, 116, 32, 48, 32, 50, 32, 50, 32, 50, 32, 53, 32, 51, 32, 48, 32, 45, 49, 32, 40, 53, 32, 49, 41, 32, 120, 41]⟩, 3), (S, 5), (⟨#[40, 117, 110, 105, 116, 32, 48, 32, 50, 32, 50, 32, 50, 32, 53, 32, 51, 32, 48, 32, 45, 49, 32, 40, 53, 32, 49, 93, 32, 41]⟩, 3)]
theorem rowsU_ok (S : ByteArray) (hS : S.size = 65537) : ∀ x ∈ (rowsU S), unitR x.1.data.toList 0 = ⟨U0, 0, x.2⟩ ∧ x.1.size ≤ maxLen := by
  intro x hx
  simp only [rowsU, List.mem_cons, List.not_mem_nil, or_false] at hx
  rcases hx with rfl | rfl | rfl | rfl | rfl | rfl | rfl | rfl | rfl | rfl | rfl | rfl | rfl | rfl | rfl | rfl | rfl | rfl | rfl | rfl | rfl | rfl | rfl | rfl | rfl | rfl
  · exact ⟨ur_ext (by decide +kernel), by decide +kernel⟩
  · exact ⟨ur_ext (by decide +kernel), by decide +kernel⟩
  · exact ⟨ur_ext (by decide +kernel), by decide +kernel⟩
  · exact ⟨ur_ext (by decide +kernel), by decide +kernel⟩
  · exact ⟨ur_ext (by decide +kernel), by decide +kernel⟩
  · exact ⟨ur_ext (by decide +kernel), by decide +kernel⟩
  · exact ⟨ur_ext (by decide +kernel), by decide +kernel⟩
  · exact ⟨ur_ext (by decide +kernel), by decide +kernel⟩
  · exact ⟨ur_ext (by decide +kernel), by decide +kernel⟩
  · exact ⟨ur_ext (by decide +kernel), by decide +kernel⟩
  · exact ⟨ur_ext (by decide +kernel), by decide +kernel⟩
  · exact ⟨ur_ext (by decide +kernel), by decide +kernel⟩
  · exact ⟨ur_ext (by decide +kernel), by decide +kernel⟩
  · exact ⟨ur_ext (by decide +kernel), by decide +kernel⟩
  · exact ⟨ur_ext (by decide +kernel), by decide +kernel⟩
  · exact ⟨ur_ext (by decide +kernel), by decide +kernel⟩
  · exact ⟨ur_ext (by decide +kernel), by decide +kernel⟩
  · exact ⟨ur_ext (by decide +kernel), by decide +kernel⟩
  · exact ⟨ur_ext (by decide +kernel), by decide +kernel⟩
  · exact ⟨ur_ext (by decide +kernel), by decide +kernel⟩
  · exact ⟨ur_ext (by decide +kernel), by decide +kernel⟩
  · exact ⟨ur_ext (by decide +kernel), by decide +kernel⟩
  · exact ⟨ur_ext (by decide +kernel), by decide +kernel⟩
  · exact ⟨ur_ext (by decide +kernel), by decide +kernel⟩
  · exact ⟨unit_long (show 65536 < S.size by omega), by show S.size ≤ maxLen; rw [hS]; decide +kernel⟩
  · exact ⟨ur_ext (by decide +kernel), by decide +kernel⟩
def rowsB : List (ByteArray × Int) := [(⟨#[]⟩, 4), (⟨#[40, 117, 110, 105, 116, 32, 49, 32, 40, 52, 32, 50, 41, 41]⟩, 3), (⟨#[40, 98, 105, 100, 41]⟩, 3), (⟨#[40, 98, 105, 100, 32, 49, 41]⟩, 4), (⟨#[40, 98, 105, 100, 32, 49]⟩, 4), (⟨#[40, 98, 105, 100, 32, 49, 32, 40, 52, 32, 50, 41]⟩, 4), (⟨#[40, 98, 105, 100, 32, 49, 32, 40, 52]⟩, 4), (⟨#[40, 98, 105, 100, 32, 49, 32, 40, 52, 32, 50, 41, 32, 40, 52, 32, 57, 41, 41]⟩, 3), (⟨#[40, 98, 105, 100, 32, 49, 47, 50, 32, 40, 52, 32, 50, 41, 41]⟩, 1), (⟨#[40, 98, 105, 100, 32, 54, 32, 40, 52, 32, 50, 41, 41]⟩, 1), (⟨#[40, 98, 105, 100, 32, 45, 49, 41]⟩, 1), (⟨#[40, 98, 97, 100, 32, 49, 32, 40, 52, 32, 50, 41, 41]⟩, 3), (⟨#[40, 98, 105, 100, 32, 49, 32, 40, 48, 32, 50, 41, 41]⟩, 1), (⟨#[40, 98, 105, 100, 32, 49, 32, 40, 52, 32, 51, 41, 32, 40, 52, 32, 50, 41, 32, 40, 52, 32, 49, 41, 32, 40, 52, 32, 48, 41, 41]⟩, 5)]
theorem rowsB_ok : ∀ x ∈ rowsB, bidR x.1.data.toList 0 = ⟨0, [], 0, x.2⟩ ∧ x.1.size ≤ maxLen := by
  intro x hx
  simp only [rowsB, List.mem_cons, List.not_mem_nil, or_false] at hx
  rcases hx with rfl | rfl | rfl | rfl | rfl | rfl | rfl | rfl | rfl | rfl | rfl | rfl | rfl | rfl
  · exact ⟨br_ext (by decide +kernel), by decide +kernel⟩
  · exact ⟨br_ext (by decide +kernel), by decide +kernel⟩
  · exact ⟨br_ext (by decide +kernel), by decide +kernel⟩
  · exact ⟨br_ext (by decide +kernel), by decide +kernel⟩
  · exact ⟨br_ext (by decide +kernel), by decide +kernel⟩
  · exact ⟨br_ext (by decide +kernel), by decide +kernel⟩
  · exact ⟨br_ext (by decide +kernel), by decide +kernel⟩
  · exact ⟨br_ext (by decide +kernel), by decide +kernel⟩
  · exact ⟨br_ext (by decide +kernel), by decide +kernel⟩
  · exact ⟨br_ext (by decide +kernel), by decide +kernel⟩
  · exact ⟨br_ext (by decide +kernel), by decide +kernel⟩
  · exact ⟨br_ext (by decide +kernel), by decide +kernel⟩
  · exact ⟨br_ext (by decide +kernel), by decide +kernel⟩
  · exact ⟨br_ext (by decide +kernel), by decide +kernel⟩
theorem be0 : unitR [32, 40, 32, 117, 110, 105, 116, 32, 48, 10, 50, 32, 50, 32, 50, 32, 53, 32, 51, 32, 48, 32, 45, 49, 40, 53, 32, 49, 41, 40, 32, 52, 32, 51, 32, 41, 32, 41, 32, 120] 0 = ⟨exU, 38, 0⟩ := ur_ext (by decide +kernel)
theorem be1 : bidR [40, 98, 105, 100, 32, 49, 40, 52, 32, 49, 48, 48, 48, 48, 48, 48, 41, 40, 52, 32, 50, 41, 41, 40] (0) = ⟨1, exBs, 23, 0⟩ := br_ext (by decide +kernel)
theorem be2 : bidR [120, 121, 40, 98, 105, 100, 32, 48, 32, 40, 49, 32, 45, 49, 48, 48, 48, 48, 48, 48, 41, 41, 41] (2) = ⟨0, [(1, -1000000)], 22, 0⟩ := br_ext (by decide +kernel)
theorem be3 : unitR [40] 2 = ⟨U0, 0, 1⟩ := ur_ext (by decide +kernel)
theorem be4 : bidR [40] (-1) = ⟨0, [], 0, 1⟩ := br_ext (by decide +kernel)
theorem be5 : bidR [40, 98, 105, 100, 32, 49, 32, 40, 52, 32, 50, 41, 41] (13) = ⟨0, [], 0, 4⟩ := br_ext (by decide +kernel)
theorem one_made (w : World) : StepsAt (w.alloc (.cells #[.int .i64 1, .int .i64 (-1000000)] 40)) (some ⟨w.heap.size, 0, none⟩) 1 [(1, -1000000)] := by
  have hb := Blk.new w 40 #[.int .i64 1, .int .i64 (-1000000)]
  refine ⟨rfl, fun _ => ⟨_, 0, rfl, hb.lt, fun i hi => ?_⟩⟩
  obtain rfl : i = 0 := by omega
  simp only [hb.cell]
  exact ⟨rfl, rfl⟩
set_option maxRecDepth 100000 in
set_option maxHeartbeats 64000000 in
theorem bex_any (w : World) : Calls Try.prog 3 #[] w fun e w' => e = .returned (.bool true) ∧ Ext w w' := by
  obtain ⟨S, hS, h0⟩ := zeros_ex 65537
  have HS := Lib.hid hS
  have H0 := Lib.hid h0
  clear hS h0
  go_enter Try.func3, Try.ntmps3
  go_wp2_with fail
  refine (bt_awake w).mono ?_
  rintro e w1 ⟨rfl, hE⟩
  have HE1 := Lib.hid hE
  clear hE
  go_wp2_with (
    refine wpList_makeV rfl 25 5 _ _ rfl (.int .u8 0) 1 1 Try.underlying25 (by kernel_rfl) 65537 65537 rfl rfl rfl (by omega) (by omega) ?_
    intro wM hO
    obtain ⟨hby, hEM⟩ := bytes_made HS.out H0.out hO
    clear hO
    have hcv := Lib.run_convert_whole (P := Try.prog) wM 25 5 9 (by kernel_rfl) (by kernel_rfl) (by kernel_rfl) w1.heap.size 0 S hby 65537
    rw [HS.out] at hcv
    have HEM := Lib.hid (Ext.trans HE1.out hEM)
    clear hby hEM)
  clear hcv
  have hE : Ext wM (wM.alloc (.cells (rowCells (rowsU S)).toArray 24)) := Ext.al Ext.rfl' _
  have hT := TabAt.of (R := rowsU S) (Blk.new wM 24 (rowCells (rowsU S)).toArray)
  obtain ⟨w2, hw2⟩ : ∃ w2, wM.alloc (.cells (rowCells (rowsU S)).toArray 24) = w2 := ⟨_, rfl⟩
  rw [hw2] at hE hT
  change Code.wp _ _ _ _ (wM.alloc (.cells (rowCells (rowsU S)).toArray 24))
  rw [hw2]
  clear hw2
  obtain ⟨g, hg⟩ : ∃ g, wM.heap.size = g := ⟨_, rfl⟩
  rw [hg] at hT ⊢
  have HTB := Lib.hid hT
  have HE := Lib.hid (Ext.trans HEM.out hE)
  clear hg hT hE HE1 HEM H0
  go_loopw [50] (fun i wr => ∃ k : Nat, k ≤ 26 ∧ i = .int .i64 (k : Int) ∧ Hid (TabAt wr g (rowsU S)) ∧ Hid (Ext w wr)) (fun i _ => 26 - (intOf i).toNat)
  case atStart => exact ⟨0, by omega, rfl, HTB, HE⟩
  case round =>
    clear HTB HE
    obtain ⟨k, hk, rfl, HTB, HE⟩ := hrel
    by_cases hlt : k < 26
    · have hbv : decide ((k : Int) < 26) = true := by simp; omega
      have hbv2 : decide (k < 26) = true := by simp; omega
      have hz0 : (0 : Int) ≤ (k : Int) := by omega
      have hzn : (k : Int) < 26 := by omega
      obtain ⟨y0, y1⟩ := HTB.out.2 k (by rw [show (rowsU S).length = 26 from rfl]; exact hlt)
      have HOKR := Lib.hid (rowsU_ok S HS.out _ (get_in (i := k) (by rw [show (rowsU S).length = 26 from rfl]; exact hlt)))
      generalize ((rowsU S)).getD k (⟨#[]⟩, 0) = x at *
      obtain ⟨xs, xe⟩ := x
      simp only at y0 y1
      have hC := Cell2.new wr _ rfl (.string xs) (.int .i64 xe) 24
      have hE1 : Ext wr (wr.alloc (.cells #[.string xs, .int .i64 xe] 24)) := Ext.al Ext.rfl' _
      have HC := Lib.hid hC
      have HE1 := Lib.hid (Ext.trans HE.out hE1)
      have HTB1 := Lib.hid (HTB.out.ext hE1)
      clear hC hE1
      obtain ⟨c0, c1, -, -, -⟩ := HC.out
      go_wp2_with fail
      clear y0 y1 c0 c1
      refine (bt_unit xs 0 U0 none 0 0 0 xe _ HOKR.out.1 (steps_none _) HOKR.out.2 (by omega)).mono ?_
      rintro e w9 ⟨rfl, hE⟩
      have HE9 := Lib.hid (Ext.trans HE1.out hE)
      have HTB9 := Lib.hid (HTB1.out.ext hE)
      clear hE
      go_wp2_with fail
      go_roundw
      case rel =>
        first
        | exact ⟨k + 1, by omega, by go_num, HTB9, HE9⟩
        | (refine ⟨_, _, _, _, _, _, _, _, _, _, _, _, _, _, ?_, rfl⟩; exact ⟨k + 1, by omega, by go_num, HTB9, HE9⟩)
      case measure => simp [intOf]; omega
    · obtain rfl : k = 26 := by omega
      have hbv : decide ((26 : Int) < 26) = false := by simp
      clear HTB
      go_wp2_with fail
      have hE : Ext wr (wr.alloc (.cells (rowCells rowsB).toArray 24)) := Ext.al Ext.rfl' _
      have hT := TabAt.of (R := rowsB) (Blk.new wr 24 (rowCells rowsB).toArray)
      obtain ⟨w2, hw2⟩ : ∃ w2, wr.alloc (.cells (rowCells rowsB).toArray 24) = w2 := ⟨_, rfl⟩
      rw [hw2] at hE hT
      change Code.wp _ _ _ _ (wr.alloc (.cells (rowCells rowsB).toArray 24))
      rw [hw2]
      clear hw2 hbv
      obtain ⟨g2, hg⟩ : ∃ g, wr.heap.size = g := ⟨_, rfl⟩
      rw [hg] at hT ⊢
      have HTB := Lib.hid hT
      have HE2 := Lib.hid (Ext.trans HE.out hE)
      clear hg hT hE HE
      have HE := HE2
      clear HE2
      go_loopw [78] (fun i wr => ∃ k : Nat, k ≤ 14 ∧ i = .int .i64 (k : Int) ∧ Hid (TabAt wr g2 rowsB) ∧ Hid (Ext w wr)) (fun i _ => 14 - (intOf i).toNat)
      case atStart => exact ⟨0, by omega, rfl, HTB, HE⟩
      case round =>
        clear HTB HE
        obtain ⟨k, hk, rfl, HTB, HE⟩ := hrel
        by_cases hlt : k < 14
        · have hbv : decide ((k : Int) < 14) = true := by simp; omega
          have hbv2 : decide (k < 14) = true := by simp; omega
          have hz0 : (0 : Int) ≤ (k : Int) := by omega
          have hzn : (k : Int) < 14 := by omega
          obtain ⟨y0, y1⟩ := HTB.out.2 k (by rw [show rowsB.length = 14 from rfl]; exact hlt)
          have HOKR := Lib.hid (rowsB_ok _ (get_in (i := k) (by rw [show rowsB.length = 14 from rfl]; exact hlt)))
          generalize (rowsB).getD k (⟨#[]⟩, 0) = x at *
          obtain ⟨xs, xe⟩ := x
          simp only at y0 y1
          have hC := Cell2.new wr _ rfl (.string xs) (.int .i64 xe) 24
          have hE1 : Ext wr (wr.alloc (.cells #[.string xs, .int .i64 xe] 24)) := Ext.al Ext.rfl' _
          have HC := Lib.hid hC
          have HE1 := Lib.hid (Ext.trans HE.out hE1)
          have HTB1 := Lib.hid (HTB.out.ext hE1)
          clear hC hE1
          obtain ⟨c0, c1, -, -, -⟩ := HC.out
          go_wp2_with fail
          clear y0 y1 c0 c1
          refine (bt_bid xs 0 0 [] none 0 0 0 xe _ HOKR.out.1 (steps_none _) HOKR.out.2 (by omega)).mono ?_
          rintro e w9 ⟨rfl, hE⟩
          have HE9 := Lib.hid (Ext.trans HE1.out hE)
          have HTB9 := Lib.hid (HTB1.out.ext hE)
          clear hE
          go_wp2_with fail
          go_roundw
          case rel =>
            first
            | exact ⟨k + 1, by omega, by go_num, HTB9, HE9⟩
            | (refine ⟨_, _, _, _, _, _, _, _, _, _, _, _, _, _, ?_, rfl⟩; exact ⟨k + 1, by omega, by go_num, HTB9, HE9⟩)
          case measure => simp [intOf]; omega
        · obtain rfl : k = 14 := by omega
          have hbv : decide ((14 : Int) < 14) = false := by simp
          clear HTB
          go_wp2_with fail
          refine (bt_exBid wr).mono ?_
          rintro e w3 ⟨A, c, rfl, hL, hE⟩
          have HE3 := Lib.hid (Ext.trans HE.out hE)
          clear hbv hE HE
          have hE4 : Ext w3 (w3.alloc (.cells #[.int .i64 6, .slice A 2 c] 33)) := Ext.al Ext.rfl' _
          have HL := Lib.hid (hL.below hE4)
          have HC := Lib.hid (Cell2.new w3 _ rfl (.int .i64 6) (.slice A 2 c) 33)
          have HE4 := Lib.hid (Ext.trans HE3.out hE4)
          clear hL hE4 HE3
          go_wp2_with fail
          have hf := bfmtunit_any U0 none 0 0 (w3.alloc (.cells #[.int .i64 6, .slice A 2 c] 33)) (steps_none _) (by omega)
          rw [show unitT U0 = ([], 4) by decide +kernel] at hf
          refine hf.mono ?_
          clear hf
          rintro e w5 ⟨rfl, hE⟩
          have HC5 := Lib.hid (HC.out.ext hE)
          have HL5 := Lib.hid (HL.out.below hE)
          have HE5 := Lib.hid (Ext.trans HE4.out hE)
          clear hE HC HL HE4
          obtain ⟨c0, c1, -, -, -⟩ := HC5.out
          go_wp2_with fail
          clear c0 c1
          have hf := bfmtbid_any 6 exBs A 2 c w5 HL5.out (by omega)
          rw [show bidT 6 exBs = ([], 1) by decide +kernel] at hf
          refine hf.mono ?_
          clear hf
          rintro e w6 ⟨rfl, hE⟩
          have HE6 := Lib.hid (Ext.trans HE5.out hE)
          clear hE HE5 HC5 HL5
          go_wp2_with fail
          have hf := bfmtbid_any 0 [] none 0 0 w6 (steps_none _) (by omega)
          rw [show bidT 0 [] = ([], 4) by decide +kernel] at hf
          refine hf.mono ?_
          clear hf
          rintro e w7 ⟨rfl, hE⟩
          have HE7 := Lib.hid (Ext.trans HE6.out hE)
          clear hE HE6
          go_wp2_with fail
          refine (bt_ex w7).mono ?_
          rintro e w8 ⟨A8, c8, rfl, hL, hE⟩
          have HL8 := Lib.hid hL
          have HE8 := Lib.hid (Ext.trans HE7.out hE)
          clear hE hL HE7
          go_wp2_with fail
          refine (bt_unit ⟨#[32, 40, 32, 117, 110, 105, 116, 32, 48, 10, 50, 32, 50, 32, 50, 32, 53, 32, 51, 32, 48, 32, 45, 49, 40, 53, 32, 49, 41, 40, 32, 52, 32, 51, 32, 41, 32, 41, 32, 120]⟩ 0 exU A8 2 c8 38 0 w8 be0 HL8.out (show (⟨#[32, 40, 32, 117, 110, 105, 116, 32, 48, 10, 50, 32, 50, 32, 50, 32, 53, 32, 51, 32, 48, 32, 45, 49, 40, 53, 32, 49, 41, 40, 32, 52, 32, 51, 32, 41, 32, 41, 32, 120]⟩ : ByteArray).size ≤ maxLen by decide +kernel) (by omega)).mono ?_
          rintro e w9 ⟨rfl, hE⟩
          have HE9 := Lib.hid (Ext.trans HE8.out hE)
          clear hE HE8
          go_wp2_with fail
          refine (bt_exBid w9).mono ?_
          rintro e w10 ⟨A9, c9, rfl, hL, hE⟩
          have HL9 := Lib.hid hL
          have HE10 := Lib.hid (Ext.trans HE9.out hE)
          clear hE hL HE9
          go_wp2_with fail
          refine (bt_bid ⟨#[40, 98, 105, 100, 32, 49, 40, 52, 32, 49, 48, 48, 48, 48, 48, 48, 41, 40, 52, 32, 50, 41, 41, 40]⟩ (0) 1 exBs A9 2 c9 23 0 w10 be1 HL9.out (show (⟨#[40, 98, 105, 100, 32, 49, 40, 52, 32, 49, 48, 48, 48, 48, 48, 48, 41, 40, 52, 32, 50, 41, 41, 40]⟩ : ByteArray).size ≤ maxLen by decide +kernel) (by omega)).mono ?_
          rintro e w11 ⟨rfl, hE⟩
          have HE11 := Lib.hid (Ext.trans HE10.out hE)
          clear hE HE10
          go_wp2_with fail
          have hE1 : Ext w11 (w11.alloc (.cells #[.int .i64 1, .int .i64 (-1000000)] 40)) := Ext.al Ext.rfl' _
          have HE11' := Lib.hid (Ext.trans HE11.out hE1)
          clear hE1 HE11
          refine (bt_bid ⟨#[120, 121, 40, 98, 105, 100, 32, 48, 32, 40, 49, 32, 45, 49, 48, 48, 48, 48, 48, 48, 41, 41, 41]⟩ (2) 0 [(1, -1000000)] (some ⟨w11.heap.size, 0, none⟩) 1 1 22 0 (w11.alloc (.cells #[.int .i64 1, .int .i64 (-1000000)] 40)) be2 (one_made w11) (show (⟨#[120, 121, 40, 98, 105, 100, 32, 48, 32, 40, 49, 32, 45, 49, 48, 48, 48, 48, 48, 48, 41, 41, 41]⟩ : ByteArray).size ≤ maxLen by decide +kernel) (by omega)).mono ?_
          rintro e w12 ⟨rfl, hE⟩
          have HE12 := Lib.hid (Ext.trans HE11'.out hE)
          clear hE HE11'
          go_wp2_with fail
          refine (bt_unit ⟨#[40]⟩ 2 U0 none 0 0 0 1 w12 be3 (steps_none _) (show (⟨#[40]⟩ : ByteArray).size ≤ maxLen by decide +kernel) (by omega)).mono ?_
          rintro e w13 ⟨rfl, hE⟩
          have HE13 := Lib.hid (Ext.trans HE12.out hE)
          clear hE HE12
          go_wp2_with fail
          refine (bt_bid ⟨#[40]⟩ (-1) 0 [] none 0 0 0 1 w13 be4 (steps_none _) (show (⟨#[40]⟩ : ByteArray).size ≤ maxLen by decide +kernel) (by omega)).mono ?_
          rintro e w14 ⟨rfl, hE⟩
          have HE14 := Lib.hid (Ext.trans HE13.out hE)
          clear hE HE13
          go_wp2_with fail
          refine (bt_bid ⟨#[40, 98, 105, 100, 32, 49, 32, 40, 52, 32, 50, 41, 41]⟩ (13) 0 [] none 0 0 0 4 w14 be5 (steps_none _) (show (⟨#[40, 98, 105, 100, 32, 49, 32, 40, 52, 32, 50, 41, 41]⟩ : ByteArray).size ≤ maxLen by decide +kernel) (by omega)).mono ?_
          rintro e w15 ⟨rfl, hE⟩
          have HE15 := Lib.hid (Ext.trans HE14.out hE)
          clear hE HE14
          go_wp2_with fail
          go_ret
          exact ⟨rfl, HE15.out⟩
end Go.Proofs.Ytkdbpcenehhopaa
