/- The law NettextExamples returns true. Printed by gen_ex.py. -/
import Derived.Test.YtnofbjcikfofgaaTxAw
namespace Go.Proofs.Ytnofbjcikfofgaa
open Go.RowKit
theorem zeros_ex (n : Nat) : ∃ S : ByteArray, S.size = n ∧ ∀ i (h : i < S.size), S[i] = 0 := by
  refine ⟨bs (List.replicate n 0), by rw [bs_size]; simp, fun i h => ?_⟩
  show (List.replicate n (0 : UInt8)).toArray[i] = 0
  simp
theorem made_one (v : Value) (n i : Nat) (h : i < n) : (madeCells #[v] (n * 1))[i]? = some v := by
  simp [madeCells, Nat.mod_one, h]
theorem bytes_made {w w' : World} {t : TypeId} {n : Nat} {S : ByteArray} (hS : S.size = n) (h0 : ∀ i (h : i < S.size), S[i] = 0) (h : w.alloc (.cells (madeCells (Value.int .u8 0).cells (n * 1)) t) = w') : Lib.Bytes w' w.heap.size 0 S ∧ Ext w w' := by
  subst h
  refine ⟨fun i hi => ?_, Ext.al Ext.rfl' _⟩
  have hb := Blk.new w t (madeCells (Value.int .u8 0).cells (n * 1))
  rw [Nat.zero_add, hb.cell, h0 i hi]
  exact made_one _ n i (by omega)
/-- The rows of a table: a text and an error. -/
def rowCells (R : List (ByteArray × Int)) : List Value := R.flatMap fun x => [.string x.1, .int .i64 x.2]
theorem rowCells_get : ∀ (R : List (ByteArray × Int)) (i : Nat), i < R.length → (rowCells R)[i * 2]? = some (.string (R.getD i (⟨#[]⟩, 0)).1) ∧ (rowCells R)[i * 2 + 1]? = some (.int .i64 (R.getD i (⟨#[]⟩, 0)).2)
  | [], i, h => by simp at h
  | z :: R, 0, _ => ⟨rfl, rfl⟩
  | z :: R, i + 1, h => by
    have := rowCells_get R i (by simpa using h)
    have e1 : (rowCells (z :: R))[(i + 1) * 2]? = (rowCells R)[i * 2]? := by
      show ([Value.string z.1, Value.int .i64 z.2] ++ rowCells R)[(i + 1) * 2]? = _
      rw [List.getElem?_append_right (by simp; omega)]
      congr 1
      simp
      omega
    have e2 : (rowCells (z :: R))[(i + 1) * 2 + 1]? = (rowCells R)[i * 2 + 1]? := by
      show ([Value.string z.1, Value.int .i64 z.2] ++ rowCells R)[(i + 1) * 2 + 1]? = _
      rw [List.getElem?_append_right (by simp; omega)]
      congr 1
      simp
      omega
    rw [e1, e2]
    simpa [List.getD] using this
/-- A table in memory. -/
def TabAt (w : World) (g : Nat) (R : List (ByteArray × Int)) : Prop := g < w.heap.size ∧ ∀ i, i < R.length → w.cell? ⟨g, i * 2, none⟩ = some (.string (R.getD i (⟨#[]⟩, 0)).1) ∧ w.cell? ⟨g, i * 2 + 1, none⟩ = some (.int .i64 (R.getD i (⟨#[]⟩, 0)).2)
theorem TabAt.of {w : World} {g : Nat} {t : TypeId} {R : List (ByteArray × Int)} (h : Blk w g t (rowCells R).toArray) : TabAt w g R := ⟨h.lt, fun i hi => by
  obtain ⟨h1, h2⟩ := rowCells_get R i hi
  rw [h.cell, h.cell]
  simp only [List.getElem?_toArray]
  exact ⟨h1, h2⟩⟩
theorem TabAt.ext {w w' : World} {g : Nat} {R : List (ByteArray × Int)} (h : TabAt w g R) (hE : Ext w w') : TabAt w' g R := ⟨Nat.lt_of_lt_of_le h.1 hE.size, fun i hi => ⟨Ext.cellOf hE (h.2 i hi).1, Ext.cellOf hE (h.2 i hi).2⟩⟩
theorem get_in {R : List (ByteArray × Int)} {i : Nat} (h : i < R.length) : R.getD i (⟨#[]⟩, 0) ∈ R := by
  rw [show R.getD i (⟨#[]⟩, 0) = R[i] by simp [List.getD, List.getElem?_eq_getElem h]]
  exact List.getElem_mem h
theorem next_long {l : Bs} (h : 65536 < l.length) (kd : Int) : psE l ⟨0, 0⟩ kd = ⟨0, 5⟩ := by
  have h1 : nextT l 0 = nxE 5 := by unfold nextT; rw [if_pos h]
  have h2 : expectT l 0 kd = nxE 5 := by
    unfold expectT
    rw [h1]
    simp [nxE]
  unfold psE
  rw [if_neg (by simp), h2]
  simp [PS.adv, nxE]
theorem net_long {l : Bs} (h : 65536 < l.length) : netR l 0 = ⟨0, [], 0, 5⟩ := by
  have h1 := next_long h 1
  have hd : netHd l 0 = ⟨0, 5⟩ := by unfold netHd; rw [h1]; unfold psW; rw [if_pos (by simp)]
  have h2 : psI l ⟨0, 5⟩ = ⟨0, 5⟩ := by unfold psI; rw [if_pos (by simp)]
  have h3 : psMore l ⟨0, 5⟩ = false := rfl
  have h4 : psE l ⟨0, 5⟩ 2 = ⟨0, 5⟩ := by unfold psE; rw [if_pos (by simp)]
  unfold netR
  rw [hd, h2, linesP_stop h3]
  unfold netEnd netE
  rw [h4]
  simp
def rowsN (S : ByteArray) : List (ByteArray × Int) := [(⟨#[]⟩, 4), (⟨#[110, 101, 116, 32, 49]⟩, 3), (⟨#[40]⟩, 4), (⟨#[40, 110, 101, 116, 115, 32, 49, 41]⟩, 3), (⟨#[40, 49, 41]⟩, 3), (⟨#[40, 110, 101, 116, 41]⟩, 3), (⟨#[40, 110, 101, 116]⟩, 4), (⟨#[40, 110, 101, 116, 32, 120, 41]⟩, 3), (⟨#[40, 110, 101, 116, 32, 49, 47, 50, 41]⟩, 1), (⟨#[40, 110, 101, 116, 32, 49]⟩, 4), (⟨#[40, 110, 101, 116, 32, 49, 32, 49, 41]⟩, 3), (⟨#[40, 110, 101, 116, 32, 55, 41]⟩, 1), (⟨#[40, 110, 101, 116, 32, 45, 49, 41]⟩, 1), (⟨#[40, 110, 101, 116, 32, 50, 32, 40, 108, 105, 110, 101, 32, 48, 32, 49, 32, 49, 48, 32, 49, 48, 48, 41]⟩, 4), (⟨#[40, 110, 101, 116, 32, 50, 32, 40, 108, 105, 110, 101, 32, 48, 32, 49, 32, 49, 48]⟩, 4), (⟨#[40, 110, 101, 116, 32, 50, 32, 40, 108, 105, 110, 101, 115, 32, 48, 32, 49, 32, 49, 48, 32, 49, 48, 48, 41, 41]⟩, 3), (⟨#[40, 110, 101, 116, 32, 50, 32, 40, 108, 105, 110, 101, 32, 48, 32, 49, 32, 49, 48, 32, 49, 48, 48, 32, 49, 41, 41]⟩, 3), (⟨#[40, 110, 101, 116, 32, 50, 32, 40, 108, 105, 110, 101, 32, 48, 32, 49, 32, 48, 32, 49, 48, 48, 41, 41]⟩, 1), (⟨#[40, 110, 101, 116, 32, 50, 32, 40, 108, 105, 110, 101, 32, 48, 32, 49, 32, 49, 48, 48, 49, 32, 49, 41, 41]⟩, 1), (⟨#[40, 110, 101, 116, 32, 50, 32, 40, 108, 105, 110, 101, 32, 48, 32, 49, 32, 49, 32, 49, 48, 48, 48, 48, 48, 49, 41, 41]⟩, 1), (⟨#[40, 110, 101, 116, 32, 50, 32, 40, 108, 105, 110, 101, 32, 48, 32, 50, 32, 49, 32, 49, 41, 41]⟩, 1), (⟨#[40, 110, 101, 116, 32, 50, 32, 40, 108, 105, 110, 101, 32, 48, 32, 49, 32, 49, 32, 57, 50, 50, 51, 51, 55, 50, 48, 51, 54, 56, 53, 52, 55, 55, 53, 56, 48, 56, 41, 41]⟩, 1), (⟨#[40, 110, 101, 116, 32, 50, 32, 40, 108, 105, 110, 101, 32, 48, 32, 49, 32, 49, 32, 48, 49, 41, 41]⟩, 3), (⟨#[40, 110, 101, 116, 32, 49, 32, 120, 41]⟩, 3), (⟨#[40, 112, 108, 97, 110, 32, 48, 32, 48, 32, 48, 41]⟩, 3), (S, 5)]
theorem rowsN_ok (S : ByteArray) (hS : S.size = 65537) : ∀ x ∈ (rowsN S), netR x.1.data.toList 0 = ⟨0, [], 0, x.2⟩ ∧ x.1.size ≤ maxLen := by
  intro x hx
  simp only [rowsN, List.mem_cons, List.not_mem_nil, or_false] at hx
  rcases hx with rfl | rfl | rfl | rfl | rfl | rfl | rfl | rfl | rfl | rfl | rfl | rfl | rfl | rfl | rfl | rfl | rfl | rfl | rfl | rfl | rfl | rfl | rfl | rfl | rfl | rfl
  · exact ⟨nr_ext (by decide +kernel), by decide +kernel⟩
  · exact ⟨nr_ext (by decide +kernel), by decide +kernel⟩
  · exact ⟨nr_ext (by decide +kernel), by decide +kernel⟩
  · exact ⟨nr_ext (by decide +kernel), by decide +kernel⟩
  · exact ⟨nr_ext (by decide +kernel), by decide +kernel⟩
  · exact ⟨nr_ext (by decide +kernel), by decide +kernel⟩
  · exact ⟨nr_ext (by decide +kernel), by decide +kernel⟩
  · exact ⟨nr_ext (by decide +kernel), by decide +kernel⟩
  · exact ⟨nr_ext (by decide +kernel), by decide +kernel⟩
  · exact ⟨nr_ext (by decide +kernel), by decide +kernel⟩
  · exact ⟨nr_ext (by decide +kernel), by decide +kernel⟩
  · exact ⟨nr_ext (by decide +kernel), by decide +kernel⟩
  · exact ⟨nr_ext (by decide +kernel), by decide +kernel⟩
  · exact ⟨nr_ext (by decide +kernel), by decide +kernel⟩
  · exact ⟨nr_ext (by decide +kernel), by decide +kernel⟩
  · exact ⟨nr_ext (by decide +kernel), by decide +kernel⟩
  · exact ⟨nr_ext (by decide +kernel), by decide +kernel⟩
  · exact ⟨nr_ext (by decide +kernel), by decide +kernel⟩
  · exact ⟨nr_ext (by decide +kernel), by decide +kernel⟩
  · exact ⟨nr_ext (by decide +kernel), by decide +kernel⟩
  · exact ⟨nr_ext (by decide +kernel), by decide +kernel⟩
  · exact ⟨nr_ext (by decide +kernel), by decide +kernel⟩
  · exact ⟨nr_ext (by decide +kernel), by decide +kernel⟩
  · exact ⟨nr_ext (by decide +kernel), by decide +kernel⟩
  · exact ⟨nr_ext (by decide +kernel), by decide +kernel⟩
  · exact ⟨net_long (show 65536 < S.size by omega), by show S.size ≤ maxLen; rw [hS]; decide +kernel⟩
def rowsO : List (ByteArray × Int) := [(⟨#[]⟩, 4), (⟨#[112, 108, 97, 110, 32, 48, 32, 48, 32, 48]⟩, 3), (⟨#[40, 112, 108, 97, 110]⟩, 4), (⟨#[40, 112, 108, 97, 110, 115, 32, 48, 32, 48, 32, 48, 41]⟩, 3), (⟨#[40, 110, 101, 116, 32, 49, 41]⟩, 3), (⟨#[40, 112, 108, 97, 110, 32, 48, 32, 48, 41]⟩, 3), (⟨#[40, 112, 108, 97, 110, 32, 48, 32, 48, 32, 48]⟩, 4), (⟨#[40, 112, 108, 97, 110, 32, 48, 32, 48, 32, 48, 32, 48, 41]⟩, 3), (⟨#[40, 112, 108, 97, 110, 32, 48, 32, 48, 32, 49, 47, 50, 41]⟩, 1), (⟨#[40, 112, 108, 97, 110, 32, 49, 48, 32, 48, 32, 48, 41]⟩, 1), (⟨#[40, 112, 108, 97, 110, 32, 45, 49, 32, 48, 32, 48, 41]⟩, 1), (⟨#[40, 108, 111, 115, 115, 32, 49, 48, 32, 48, 32, 48, 41]⟩, 1), (⟨#[40, 116, 114, 105, 112, 32, 53, 32, 48, 32, 48, 41]⟩, 1), (⟨#[40, 112, 108, 97, 110, 32, 48, 32, 45, 49, 32, 48, 41]⟩, 1), (⟨#[40, 112, 108, 97, 110, 32, 48, 32, 48, 32, 56, 41]⟩, 1), (⟨#[40, 112, 108, 97, 110, 32, 48, 32, 51, 32, 50, 41]⟩, 1)]
theorem rowsO_ok : ∀ x ∈ rowsO, outR x.1.data.toList 0 = ⟨0, 0, 0, 0, 0, x.2⟩ ∧ x.1.size ≤ maxLen := by
  intro x hx
  simp only [rowsO, List.mem_cons, List.not_mem_nil, or_false] at hx
  rcases hx with rfl | rfl | rfl | rfl | rfl | rfl | rfl | rfl | rfl | rfl | rfl | rfl | rfl | rfl | rfl | rfl
  · exact ⟨or_ext (by decide +kernel), by decide +kernel⟩
  · exact ⟨or_ext (by decide +kernel), by decide +kernel⟩
  · exact ⟨or_ext (by decide +kernel), by decide +kernel⟩
  · exact ⟨or_ext (by decide +kernel), by decide +kernel⟩
  · exact ⟨or_ext (by decide +kernel), by decide +kernel⟩
  · exact ⟨or_ext (by decide +kernel), by decide +kernel⟩
  · exact ⟨or_ext (by decide +kernel), by decide +kernel⟩
  · exact ⟨or_ext (by decide +kernel), by decide +kernel⟩
  · exact ⟨or_ext (by decide +kernel), by decide +kernel⟩
  · exact ⟨or_ext (by decide +kernel), by decide +kernel⟩
  · exact ⟨or_ext (by decide +kernel), by decide +kernel⟩
  · exact ⟨or_ext (by decide +kernel), by decide +kernel⟩
  · exact ⟨or_ext (by decide +kernel), by decide +kernel⟩
  · exact ⟨or_ext (by decide +kernel), by decide +kernel⟩
  · exact ⟨or_ext (by decide +kernel), by decide +kernel⟩
  · exact ⟨or_ext (by decide +kernel), by decide +kernel⟩
theorem ne0 : netR [32, 40, 32, 110, 101, 116, 10, 51, 40, 108, 105, 110, 101, 32, 48, 32, 49, 32, 49, 48, 32, 49, 48, 48, 41, 40, 32, 108, 105, 110, 101, 32, 49, 32, 50, 32, 53, 32, 53, 48, 32, 41, 32, 41, 32, 120] 0 = ⟨3, exLs, 44, 0⟩ := nr_ext (by decide +kernel)
theorem ne1 : netR [120, 121, 40, 110, 101, 116, 32, 49, 41, 41] 2 = ⟨1, [], 9, 0⟩ := nr_ext (by decide +kernel)
theorem ne2 : outR [120, 40, 116, 114, 105, 112, 32, 52, 32, 55, 32, 55, 41, 40] (1) = ⟨3, 4, 7, 7, 13, 0⟩ := or_ext (by decide +kernel)
theorem ne3 : outR [40, 108, 111, 115, 115, 32, 57, 32, 48, 32, 55, 41] (0) = ⟨2, 9, 0, 7, 12, 0⟩ := or_ext (by decide +kernel)
theorem ne4 : netR [40] 2 = ⟨0, [], 0, 1⟩ := nr_ext (by decide +kernel)
theorem ne5 : outR [40] (-1) = ⟨0, 0, 0, 0, 0, 1⟩ := or_ext (by decide +kernel)
theorem made_zero4 (n j : Nat) (h : j < n) : (madeCells (Value.agg #[.int .i64 0, .int .i64 0, .int .i64 0, .int .i64 0]).cells n)[j]? = some (.int .i64 0) := by
  have e : (Value.agg #[.int .i64 0, .int .i64 0, .int .i64 0, .int .i64 0]).cells = #[.int .i64 0, .int .i64 0, .int .i64 0, .int .i64 0] := rfl
  rw [e]
  have h4 : j % 4 < 4 := Nat.mod_lt _ (by omega)
  simp [madeCells, h]
  generalize j % 4 = m at *
  match m, h4 with
  | 0, _ => rfl
  | 1, _ => rfl
  | 2, _ => rfl
  | 3, _ => rfl
theorem wide_made {w w' : World} {t : TypeId} (h : w.alloc (.cells (madeCells (Value.agg #[.int .i64 0, .int .i64 0, .int .i64 0, .int .i64 0]).cells (11 * 4)) t) = w') : LinesAt w' (some ⟨w.heap.size, 0, none⟩) 11 (List.replicate 11 [0, 0, 0, 0]) ∧ Ext w w' := by
  subst h
  have hb := Blk.new w t (madeCells (Value.agg #[.int .i64 0, .int .i64 0, .int .i64 0, .int .i64 0]).cells (11 * 4))
  refine ⟨⟨rfl, fun _ => ⟨_, 0, rfl, hb.lt, fun i hi => ?_⟩⟩, Ext.al Ext.rfl' _⟩
  simp only [hb.cell]
  match i, hi with
  | 0, _ => exact ⟨made_zero4 _ _ (by omega), made_zero4 _ _ (by omega), made_zero4 _ _ (by omega), made_zero4 _ _ (by omega)⟩
  | 1, _ => exact ⟨made_zero4 _ _ (by omega), made_zero4 _ _ (by omega), made_zero4 _ _ (by omega), made_zero4 _ _ (by omega)⟩
  | 2, _ => exact ⟨made_zero4 _ _ (by omega), made_zero4 _ _ (by omega), made_zero4 _ _ (by omega), made_zero4 _ _ (by omega)⟩
  | 3, _ => exact ⟨made_zero4 _ _ (by omega), made_zero4 _ _ (by omega), made_zero4 _ _ (by omega), made_zero4 _ _ (by omega)⟩
  | 4, _ => exact ⟨made_zero4 _ _ (by omega), made_zero4 _ _ (by omega), made_zero4 _ _ (by omega), made_zero4 _ _ (by omega)⟩
  | 5, _ => exact ⟨made_zero4 _ _ (by omega), made_zero4 _ _ (by omega), made_zero4 _ _ (by omega), made_zero4 _ _ (by omega)⟩
  | 6, _ => exact ⟨made_zero4 _ _ (by omega), made_zero4 _ _ (by omega), made_zero4 _ _ (by omega), made_zero4 _ _ (by omega)⟩
  | 7, _ => exact ⟨made_zero4 _ _ (by omega), made_zero4 _ _ (by omega), made_zero4 _ _ (by omega), made_zero4 _ _ (by omega)⟩
  | 8, _ => exact ⟨made_zero4 _ _ (by omega), made_zero4 _ _ (by omega), made_zero4 _ _ (by omega), made_zero4 _ _ (by omega)⟩
  | 9, _ => exact ⟨made_zero4 _ _ (by omega), made_zero4 _ _ (by omega), made_zero4 _ _ (by omega), made_zero4 _ _ (by omega)⟩
  | 10, _ => exact ⟨made_zero4 _ _ (by omega), made_zero4 _ _ (by omega), made_zero4 _ _ (by omega), made_zero4 _ _ (by omega)⟩
set_option maxRecDepth 100000 in
set_option maxHeartbeats 64000000 in
theorem nex_any (w : World) : Calls Try.prog 3 #[] w fun e w' => e = .returned (.bool true) ∧ Ext w w' := by
  obtain ⟨S, hS, h0⟩ := zeros_ex 65537
  have HS := Lib.hid hS
  have H0 := Lib.hid h0
  clear hS h0
  go_enter Try.func3, Try.ntmps3
  go_wp2_with fail
  refine (awake_true w).mono ?_
  rintro e w1 ⟨rfl, hE⟩
  have HE1 := Lib.hid hE
  clear hE
  go_wp2_with (
    refine wpList_makeV rfl 26 5 _ _ rfl (.int .u8 0) 1 1 Try.underlying26 (by kernel_rfl) 65537 65537 rfl rfl rfl (by omega) (by omega) ?_
    intro wM hO
    obtain ⟨hby, hEM⟩ := bytes_made HS.out H0.out hO
    clear hO
    have hcv := Lib.run_convert_whole (P := Try.prog) wM 26 5 9 (by kernel_rfl) (by kernel_rfl) (by kernel_rfl) w1.heap.size 0 S hby 65537
    rw [HS.out] at hcv
    have HEM := Lib.hid (Ext.trans HE1.out hEM)
    clear hby hEM)
  clear hcv
  have hE : Ext wM (wM.alloc (.cells (rowCells (rowsN S)).toArray 25)) := Ext.al Ext.rfl' _
  have hT := TabAt.of (R := rowsN S) (Blk.new wM 25 (rowCells (rowsN S)).toArray)
  obtain ⟨w2, hw2⟩ : ∃ w2, wM.alloc (.cells (rowCells (rowsN S)).toArray 25) = w2 := ⟨_, rfl⟩
  rw [hw2] at hE hT
  change Code.wp _ _ _ _ (wM.alloc (.cells (rowCells (rowsN S)).toArray 25))
  rw [hw2]
  clear hw2
  obtain ⟨g, hg⟩ : ∃ g, wM.heap.size = g := ⟨_, rfl⟩
  rw [hg] at hT ⊢
  have HTB := Lib.hid hT
  have HE := Lib.hid (Ext.trans HEM.out hE)
  clear hg hT hE HE1 HEM H0
  go_loopw [54] (fun i wr => ∃ k : Nat, k ≤ 26 ∧ i = .int .i64 (k : Int) ∧ Hid (TabAt wr g (rowsN S)) ∧ Hid (Ext w wr)) (fun i _ => 26 - (intOf i).toNat)
  case atStart => exact ⟨0, by omega, rfl, HTB, HE⟩
  case round =>
    clear HTB HE
    obtain ⟨k, hk, rfl, HTB, HE⟩ := hrel
    by_cases hlt : k < 26
    · have hbv : decide ((k : Int) < 26) = true := by simp; omega
      have hbv2 : decide (k < 26) = true := by simp; omega
      have hz0 : (0 : Int) ≤ (k : Int) := by omega
      have hzn : (k : Int) < 26 := by omega
      obtain ⟨y0, y1⟩ := HTB.out.2 k (by rw [show (rowsN S).length = 26 from rfl]; exact hlt)
      have HOKR := Lib.hid (rowsN_ok S HS.out _ (get_in (i := k) (by rw [show (rowsN S).length = 26 from rfl]; exact hlt)))
      generalize ((rowsN S)).getD k (⟨#[]⟩, 0) = x at *
      obtain ⟨xs, xe⟩ := x
      simp only at y0 y1
      have hC := Cell2.new wr _ rfl (.string xs) (.int .i64 xe) 25
      have hE1 : Ext wr (wr.alloc (.cells #[.string xs, .int .i64 xe] 25)) := Ext.al Ext.rfl' _
      have HC := Lib.hid hC
      have HE1 := Lib.hid (Ext.trans HE.out hE1)
      have HTB1 := Lib.hid (HTB.out.ext hE1)
      clear hC hE1
      obtain ⟨c0, c1, -, -, -⟩ := HC.out
      go_wp2_with fail
      clear y0 y1 c0 c1
      refine (grid_true xs 0 0 none 0 0 0 xe [] _ HOKR.out.1 (lines_nil _) HOKR.out.2 (by omega)).mono ?_
      rintro e w9 ⟨rfl, hE⟩
      have HE9 := Lib.hid (Ext.trans HE1.out hE)
      have HTB9 := Lib.hid (HTB1.out.ext hE)
      clear hE
      go_wp2_with fail
      go_roundw
      case rel =>
        first
        | exact ⟨k + 1, by omega, by go_num, HTB9, HE9⟩
        | (refine ⟨_, _, _, _, _, _, _, _, _, _, _, _, _, _, ?_, rfl⟩; exact ⟨k + 1, by omega, by go_num, HTB9, HE9⟩)
      case measure => simp [intOf]; omega
    · obtain rfl : k = 26 := by omega
      have hbv : decide ((26 : Int) < 26) = false := by simp
      clear HTB
      go_wp2_with fail
      have hE : Ext wr (wr.alloc (.cells (rowCells rowsO).toArray 25)) := Ext.al Ext.rfl' _
      have hT := TabAt.of (R := rowsO) (Blk.new wr 25 (rowCells rowsO).toArray)
      obtain ⟨w2, hw2⟩ : ∃ w2, wr.alloc (.cells (rowCells rowsO).toArray 25) = w2 := ⟨_, rfl⟩
      rw [hw2] at hE hT
      change Code.wp _ _ _ _ (wr.alloc (.cells (rowCells rowsO).toArray 25))
      rw [hw2]
      clear hw2 hbv
      obtain ⟨g2, hg⟩ : ∃ g, wr.heap.size = g := ⟨_, rfl⟩
      rw [hg] at hT ⊢
      have HTB := Lib.hid hT
      have HE2 := Lib.hid (Ext.trans HE.out hE)
      clear hg hT hE HE
      have HE := HE2
      clear HE2
      go_loopw [84] (fun i wr => ∃ k : Nat, k ≤ 16 ∧ i = .int .i64 (k : Int) ∧ Hid (TabAt wr g2 rowsO) ∧ Hid (Ext w wr)) (fun i _ => 16 - (intOf i).toNat)
      case atStart => exact ⟨0, by omega, rfl, HTB, HE⟩
      case round =>
        clear HTB HE
        obtain ⟨k, hk, rfl, HTB, HE⟩ := hrel
        by_cases hlt : k < 16
        · have hbv : decide ((k : Int) < 16) = true := by simp; omega
          have hbv2 : decide (k < 16) = true := by simp; omega
          have hz0 : (0 : Int) ≤ (k : Int) := by omega
          have hzn : (k : Int) < 16 := by omega
          obtain ⟨y0, y1⟩ := HTB.out.2 k (by rw [show rowsO.length = 16 from rfl]; exact hlt)
          have HOKR := Lib.hid (rowsO_ok _ (get_in (i := k) (by rw [show rowsO.length = 16 from rfl]; exact hlt)))
          generalize (rowsO).getD k (⟨#[]⟩, 0) = x at *
          obtain ⟨xs, xe⟩ := x
          simp only at y0 y1
          have hC := Cell2.new wr _ rfl (.string xs) (.int .i64 xe) 25
          have hE1 : Ext wr (wr.alloc (.cells #[.string xs, .int .i64 xe] 25)) := Ext.al Ext.rfl' _
          have HC := Lib.hid hC
          have HE1 := Lib.hid (Ext.trans HE.out hE1)
          have HTB1 := Lib.hid (HTB.out.ext hE1)
          clear hC hE1
          obtain ⟨c0, c1, -, -, -⟩ := HC.out
          go_wp2_with fail
          clear y0 y1 c0 c1
          refine (lost_true xs 0 0 0 0 0 0 xe _ HOKR.out.1 HOKR.out.2).mono ?_
          rintro e w9 ⟨rfl, hE⟩
          have HE9 := Lib.hid (Ext.trans HE1.out hE)
          have HTB9 := Lib.hid (HTB1.out.ext hE)
          clear hE
          go_wp2_with fail
          go_roundw
          case rel =>
            first
            | exact ⟨k + 1, by omega, by go_num, HTB9, HE9⟩
            | (refine ⟨_, _, _, _, _, _, _, _, _, _, _, _, _, _, ?_, rfl⟩; exact ⟨k + 1, by omega, by go_num, HTB9, HE9⟩)
          case measure => simp [intOf]; omega
        · obtain rfl : k = 16 := by omega
          have hbv : decide ((16 : Int) < 16) = false := by simp
          clear HTB
          go_wp2_with (
            refine wpList_makeV rfl 29 58 _ _ rfl (.agg #[.int .i64 0, .int .i64 0, .int .i64 0, .int .i64 0]) 4 32 Try.underlying29 (by kernel_rfl) 11 11 rfl rfl rfl (by omega) (by omega) ?_
            intro wM hO
            obtain ⟨hL, hEM⟩ := wide_made hO
            clear hO
            have hE5 : Ext wM (wM.alloc (.cells #[.int .i64 2, .slice (some ⟨wr.heap.size, 0, none⟩) 11 11] 31)) := Ext.al Ext.rfl' _
            have HL := Lib.hid (hL.ext hE5)
            have HEM := Lib.hid (Ext.trans (Ext.trans HE.out hEM) hE5)
            obtain ⟨c0, c1, -, -, -⟩ := Cell2.new wM _ rfl (.int .i64 2) (.slice (some ⟨wr.heap.size, 0, none⟩) 11 11) 31
            clear hL hEM hE5)
          clear c0 c1 hbv
          have hf := fmtnet_any 2 (some ⟨wr.heap.size, 0, none⟩) 11 11 (List.replicate 11 [0, 0, 0, 0]) (wM.alloc (.cells #[.int .i64 2, .slice (some ⟨wr.heap.size, 0, none⟩) 11 11] 31)) HL.out (by omega)
          rw [show netT 2 (List.replicate 11 [0, 0, 0, 0]) = ([], 5) by decide +kernel] at hf
          refine hf.mono ?_
          clear hf
          rintro e w3 ⟨rfl, hE⟩
          have HE3 := Lib.hid (Ext.trans HEM.out hE)
          clear hE HEM HL HE
          go_wp2_with fail
          have hf := fmtout_any 4 (-1) 0 0 w3
          rw [show outT 4 (-1) 0 0 = ([], 12) by decide +kernel] at hf
          refine hf.mono ?_
          clear hf
          rintro e w4 ⟨rfl, hE⟩
          have HE4 := Lib.hid (Ext.trans HE3.out hE)
          clear hE HE3
          go_wp2_with fail
          have hf := fmtout_any 3 5 0 0 w4
          rw [show outT 3 5 0 0 = ([], 1) by decide +kernel] at hf
          refine hf.mono ?_
          clear hf
          rintro e w5 ⟨rfl, hE⟩
          have HE5 := Lib.hid (Ext.trans HE4.out hE)
          clear hE HE4
          go_wp2_with fail
          have hf := fmtout_any 2 9 7 7 w5
          obtain ⟨TT, hTT⟩ : ∃ T, bs (outT 2 9 7 7).1 = T := ⟨_, rfl⟩
          rw [hTT, show (outT 2 9 7 7).2 = 0 by decide +kernel] at hf
          clear hTT
          refine hf.mono ?_
          clear hf
          rintro e w6 ⟨rfl, hE⟩
          have HE6 := Lib.hid (Ext.trans HE5.out hE)
          clear hE HE5
          go_wp2_with fail
          refine (ex_any w6).mono ?_
          rintro e w7 ⟨A, c, rfl, hL, hE⟩
          have HL := Lib.hid hL
          have HE7 := Lib.hid (Ext.trans HE6.out hE)
          clear hE hL HE6
          go_wp2_with fail
          refine (grid_true ⟨#[32, 40, 32, 110, 101, 116, 10, 51, 40, 108, 105, 110, 101, 32, 48, 32, 49, 32, 49, 48, 32, 49, 48, 48, 41, 40, 32, 108, 105, 110, 101, 32, 49, 32, 50, 32, 53, 32, 53, 48, 32, 41, 32, 41, 32, 120]⟩ 0 3 A 2 c 44 0 exLs w7 ne0 HL.out (show (⟨#[32, 40, 32, 110, 101, 116, 10, 51, 40, 108, 105, 110, 101, 32, 48, 32, 49, 32, 49, 48, 32, 49, 48, 48, 41, 40, 32, 108, 105, 110, 101, 32, 49, 32, 50, 32, 53, 32, 53, 48, 32, 41, 32, 41, 32, 120]⟩ : ByteArray).size ≤ maxLen by decide +kernel) (by omega)).mono ?_
          rintro e w8 ⟨rfl, hE⟩
          have HE8 := Lib.hid (Ext.trans HE7.out hE)
          clear hE HE7
          go_wp2_with fail
          refine (grid_true ⟨#[120, 121, 40, 110, 101, 116, 32, 49, 41, 41]⟩ 2 1 none 0 0 9 0 [] w8 ne1 (lines_nil _) (show (⟨#[120, 121, 40, 110, 101, 116, 32, 49, 41, 41]⟩ : ByteArray).size ≤ maxLen by decide +kernel) (by omega)).mono ?_
          rintro e w9 ⟨rfl, hE⟩
          have HE9 := Lib.hid (Ext.trans HE8.out hE)
          clear hE HE8
          go_wp2_with fail
          refine (lost_true ⟨#[120, 40, 116, 114, 105, 112, 32, 52, 32, 55, 32, 55, 41, 40]⟩ (1) 3 4 7 7 13 0 w9 ne2 (show (⟨#[120, 40, 116, 114, 105, 112, 32, 52, 32, 55, 32, 55, 41, 40]⟩ : ByteArray).size ≤ maxLen by decide +kernel)).mono ?_
          rintro e w10 ⟨rfl, hE⟩
          have HE10 := Lib.hid (Ext.trans HE9.out hE)
          clear hE HE9
          go_wp2_with fail
          refine (lost_true ⟨#[40, 108, 111, 115, 115, 32, 57, 32, 48, 32, 55, 41]⟩ (0) 2 9 0 7 12 0 w10 ne3 (show (⟨#[40, 108, 111, 115, 115, 32, 57, 32, 48, 32, 55, 41]⟩ : ByteArray).size ≤ maxLen by decide +kernel)).mono ?_
          rintro e w11 ⟨rfl, hE⟩
          have HE11 := Lib.hid (Ext.trans HE10.out hE)
          clear hE HE10
          go_wp2_with fail
          refine (grid_true ⟨#[40]⟩ 2 0 none 0 0 0 1 [] w11 ne4 (lines_nil _) (show (⟨#[40]⟩ : ByteArray).size ≤ maxLen by decide +kernel) (by omega)).mono ?_
          rintro e w12 ⟨rfl, hE⟩
          have HE12 := Lib.hid (Ext.trans HE11.out hE)
          clear hE HE11
          go_wp2_with fail
          refine (lost_true ⟨#[40]⟩ (-1) 0 0 0 0 0 1 w12 ne5 (show (⟨#[40]⟩ : ByteArray).size ≤ maxLen by decide +kernel)).mono ?_
          rintro e w13 ⟨rfl, hE⟩
          have HE13 := Lib.hid (Ext.trans HE12.out hE)
          clear hE HE12
          go_wp2_with fail
          go_ret
          exact ⟨rfl, HE13.out⟩
end Go.Proofs.Ytnofbjcikfofgaa
