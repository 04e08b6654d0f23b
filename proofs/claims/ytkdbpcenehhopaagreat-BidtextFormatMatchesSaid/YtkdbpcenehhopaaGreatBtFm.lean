/- The law BidtextFormatMatches returns true. Printed by gen_btx.py. -/
import Derived.Test.YtkdbpcenehhopaaGreatBtRf
namespace Go.Proofs.YtkdbpcenehhopaaGreat
open Go.RowKit
set_option maxRecDepth 100000 in
set_option maxHeartbeats 64000000 in
theorem bfm_any (u : U) (A : Option Addr) (n c : Nat) (b : Int) (xs : List (Int × Int)) (B : Option Addr) (m d : Nat) (w : World) (h : StepsAt w A n u.steps) (h' : StepsAt w B m xs) (hz : (∀ z ∈ unitZs u, I64r z) ∧ ∀ x ∈ u.steps, I64r x.1 ∧ I64r x.2) (hz' : I64r b ∧ ∀ x ∈ xs, I64r x.1 ∧ I64r x.2) :
    Calls Tryz.prog 5 #[u.val A n c, .agg #[.int .i64 b, .slice B m d]] w fun e w' => e = .returned (.bool true) ∧ Ext w w' := by
  have H := Lib.hid h
  have H' := Lib.hid h'
  clear h h'
  have HZ := Lib.hid hz
  have HZ' := Lib.hid hz'
  clear hz hz'
  go_enter Tryz.func5, Tryz.ntmps5
  have hAB : Ext (w.alloc (.cells #[.int .i64 u.bus, .int .i64 u.mn, .slice A n c, .int .i64 u.up, .int .i64 u.down, .int .i64 u.start, .int .i64 u.idle, .int .i64 u.spin, .int .i64 u.on] 24)) ((w.alloc (.cells #[.int .i64 u.bus, .int .i64 u.mn, .slice A n c, .int .i64 u.up, .int .i64 u.down, .int .i64 u.start, .int .i64 u.idle, .int .i64 u.spin, .int .i64 u.on] 24)).alloc (.cells #[.int .i64 b, .slice B m d] 26)) := Ext.al Ext.rfl' _
  have hA := (UBk.new w u A n c).ext hAB
  have hB := Cell2.new (w.alloc (.cells #[.int .i64 u.bus, .int .i64 u.mn, .slice A n c, .int .i64 u.up, .int .i64 u.down, .int .i64 u.start, .int .i64 u.idle, .int .i64 u.spin, .int .i64 u.on] 24)) _ rfl (.int .i64 b) (.slice B m d) 26
  have hE0 : Ext w ((w.alloc (.cells #[.int .i64 u.bus, .int .i64 u.mn, .slice A n c, .int .i64 u.up, .int .i64 u.down, .int .i64 u.start, .int .i64 u.idle, .int .i64 u.spin, .int .i64 u.on] 24)).alloc (.cells #[.int .i64 b, .slice B m d] 26)) := Ext.trans (Ext.al Ext.rfl' _) hAB
  have he : (w.alloc (.cells #[.int .i64 u.bus, .int .i64 u.mn, .slice A n c, .int .i64 u.up, .int .i64 u.down, .int .i64 u.start, .int .i64 u.idle, .int .i64 u.spin, .int .i64 u.on] 24)).heap.size = w.heap.size + 1 := by simp
  rw [he] at hB
  have HA := Lib.hid hA
  have HB := Lib.hid hB
  have HE := Lib.hid hE0
  clear hA hAB hB hE0 he
  obtain ⟨a0, a1, a2, a3, a4, a5, a6, a7, a8⟩ := HA.out.cells
  obtain ⟨b0, b1, -, -, -⟩ := HB.out
  go_wp2_with fail
  clear a0 a1 a2 a3 a4 a5 a6 a7 a8 b0 b1
  generalize ((w.alloc (.cells #[.int .i64 u.bus, .int .i64 u.mn, .slice A n c, .int .i64 u.up, .int .i64 u.down, .int .i64 u.start, .int .i64 u.idle, .int .i64 u.spin, .int .i64 u.on] 24)).alloc (.cells #[.int .i64 b, .slice B m d] 26)) = w0 at *
  obtain ⟨ga, hga⟩ : ∃ x, w.heap.size = x := ⟨_, rfl⟩
  rw [hga] at HA HB ⊢
  clear hga
  obtain ⟨gb, hgb⟩ : ∃ x, ga + 1 = x := ⟨_, rfl⟩
  rw [hgb] at HB ⊢
  clear hgb
  refine (blong_any ⟨#[]⟩ A n c w0).mono ?_
  rintro e w1 ⟨rfl, hE⟩
  have HA2 := Lib.hid (HA.out.ext hE)
  have HB2 := Lib.hid (HB.out.ext hE)
  have HE2 := Lib.hid (Ext.trans HE.out hE)
  clear HA HB HE hE
  have HA := HA2
  clear HA2
  have HB := HB2
  clear HB2
  have HE := HE2
  clear HE2
  obtain ⟨lg, hlg⟩ : ∃ v, (decide (5000 < (⟨#[]⟩ : ByteArray).size) || decide (50 < n)) = v := ⟨_, rfl⟩
  rw [hlg]
  have HL10 := Lib.hid hlg
  clear hlg
  cases lg with
  | true =>
    obtain ⟨a0, a1, a2, a3, a4, a5, a6, a7, a8⟩ := HA.out.cells
    obtain ⟨b0, b1, -, -, -⟩ := HB.out
    go_wp2_with fail
    clear a0 a1 a2 a3 a4 a5 a6 a7 a8 b0 b1
    refine (bt_awake w1).mono ?_
    rintro e w2 ⟨rfl, hE⟩
    have HA2 := Lib.hid (HA.out.ext hE)
    have HB2 := Lib.hid (HB.out.ext hE)
    have HE2 := Lib.hid (Ext.trans HE.out hE)
    clear HA HB HE hE
    have HA := HA2
    clear HA2
    have HB := HB2
    clear HB2
    have HE := HE2
    clear HE2
    obtain ⟨a0, a1, a2, a3, a4, a5, a6, a7, a8⟩ := HA.out.cells
    obtain ⟨b0, b1, -, -, -⟩ := HB.out
    go_wp2_with fail
    go_ret
    exact ⟨rfl, HE.out⟩
  | false =>
    have HL1 : Hid (n ≤ 50) := by
      have h1 := HL10.out
      simp only [Bool.or_eq_false_iff, decide_eq_false_iff_not] at h1
      unfold Hid
      omega
    clear HL10
    obtain ⟨a0, a1, a2, a3, a4, a5, a6, a7, a8⟩ := HA.out.cells
    obtain ⟨b0, b1, -, -, -⟩ := HB.out
    go_wp2_with fail
    clear a0 a1 a2 a3 a4 a5 a6 a7 a8 b0 b1
    refine (blong_any ⟨#[]⟩ B m d w1).mono ?_
    rintro e w2 ⟨rfl, hE⟩
    have HA2 := Lib.hid (HA.out.ext hE)
    have HB2 := Lib.hid (HB.out.ext hE)
    have HE2 := Lib.hid (Ext.trans HE.out hE)
    clear HA HB HE hE
    have HA := HA2
    clear HA2
    have HB := HB2
    clear HB2
    have HE := HE2
    clear HE2
    obtain ⟨lg, hlg⟩ : ∃ v, (decide (5000 < (⟨#[]⟩ : ByteArray).size) || decide (50 < m)) = v := ⟨_, rfl⟩
    rw [hlg]
    have HL20 := Lib.hid hlg
    clear hlg
    cases lg with
    | true =>
      obtain ⟨a0, a1, a2, a3, a4, a5, a6, a7, a8⟩ := HA.out.cells
      obtain ⟨b0, b1, -, -, -⟩ := HB.out
      go_wp2_with fail
      clear a0 a1 a2 a3 a4 a5 a6 a7 a8 b0 b1
      refine (bt_awake w2).mono ?_
      rintro e w3 ⟨rfl, hE⟩
      have HA2 := Lib.hid (HA.out.ext hE)
      have HB2 := Lib.hid (HB.out.ext hE)
      have HE2 := Lib.hid (Ext.trans HE.out hE)
      clear HA HB HE hE
      have HA := HA2
      clear HA2
      have HB := HB2
      clear HB2
      have HE := HE2
      clear HE2
      obtain ⟨a0, a1, a2, a3, a4, a5, a6, a7, a8⟩ := HA.out.cells
      obtain ⟨b0, b1, -, -, -⟩ := HB.out
      go_wp2_with fail
      go_ret
      exact ⟨rfl, HE.out⟩
    | false =>
      have HL2 : Hid (m ≤ 50) := by
        have h1 := HL20.out
        simp only [Bool.or_eq_false_iff, decide_eq_false_iff_not] at h1
        unfold Hid
        omega
      clear HL20
      obtain ⟨a0, a1, a2, a3, a4, a5, a6, a7, a8⟩ := HA.out.cells
      obtain ⟨b0, b1, -, -, -⟩ := HB.out
      go_wp2_with fail
      clear a0 a1 a2 a3 a4 a5 a6 a7 a8 b0 b1
      obtain ⟨F, f, hF1, hF2⟩ : ∃ (F : ByteArray) (f : Int), bs (unitT u).1 = F ∧ (unitT u).2 = f := ⟨_, _, rfl, rfl⟩
      obtain ⟨Y, e, hY1, hY2⟩ : ∃ (Y : ByteArray) (e : Int), bs (bidT b xs).1 = Y ∧ (bidT b xs).2 = e := ⟨_, _, rfl, rfl⟩
      have HF := Lib.hid (And.intro hF1 hF2)
      have HY := Lib.hid (And.intro hY1 hY2)
      clear hF1 hF2 hY1 hY2
      have hf := bfmtunit_any u A n c w2 (H.out.below HE.out) (by have := HL1.out; omega)
      rw [HF.out.1, HF.out.2] at hf
      refine (hf).mono ?_
      rintro e w3 ⟨rfl, hE⟩
      have HA2 := Lib.hid (HA.out.ext hE)
      have HB2 := Lib.hid (HB.out.ext hE)
      have HE2 := Lib.hid (Ext.trans HE.out hE)
      clear HA HB HE hE
      have HA := HA2
      clear HA2
      have HB := HB2
      clear HB2
      have HE := HE2
      clear HE2
      clear hf
      obtain ⟨a0, a1, a2, a3, a4, a5, a6, a7, a8⟩ := HA.out.cells
      obtain ⟨b0, b1, -, -, -⟩ := HB.out
      go_wp2_with fail
      clear a0 a1 a2 a3 a4 a5 a6 a7 a8 b0 b1
      have hf := rfmtunit_any u A n c w3 (H.out.below HE.out) HZ.out.1 HZ.out.2 (by have := HL1.out; omega)
      rw [HF.out.1, HF.out.2] at hf
      refine (hf).mono ?_
      rintro e w4 ⟨rfl, hE⟩
      have HA2 := Lib.hid (HA.out.ext hE)
      have HB2 := Lib.hid (HB.out.ext hE)
      have HE2 := Lib.hid (Ext.trans HE.out hE)
      clear HA HB HE hE
      have HA := HA2
      clear HA2
      have HB := HB2
      clear HB2
      have HE := HE2
      clear HE2
      clear hf
      obtain ⟨a0, a1, a2, a3, a4, a5, a6, a7, a8⟩ := HA.out.cells
      obtain ⟨b0, b1, -, -, -⟩ := HB.out
      go_wp2_with fail
      clear a0 a1 a2 a3 a4 a5 a6 a7 a8 b0 b1
      have hf := bfmtbid_any b xs B m d w4 (H'.out.below HE.out) (by have := HL2.out; omega)
      rw [HY.out.1, HY.out.2] at hf
      refine (hf).mono ?_
      rintro e w5 ⟨rfl, hE⟩
      have HA2 := Lib.hid (HA.out.ext hE)
      have HB2 := Lib.hid (HB.out.ext hE)
      have HE2 := Lib.hid (Ext.trans HE.out hE)
      clear HA HB HE hE
      have HA := HA2
      clear HA2
      have HB := HB2
      clear HB2
      have HE := HE2
      clear HE2
      clear hf
      obtain ⟨a0, a1, a2, a3, a4, a5, a6, a7, a8⟩ := HA.out.cells
      obtain ⟨b0, b1, -, -, -⟩ := HB.out
      go_wp2_with fail
      clear a0 a1 a2 a3 a4 a5 a6 a7 a8 b0 b1
      have hf := rfmtbid_any b xs B m d w5 (H'.out.below HE.out) HZ'.out.1 HZ'.out.2 (by have := HL2.out; omega)
      rw [HY.out.1, HY.out.2] at hf
      refine (hf).mono ?_
      rintro e w6 ⟨rfl, hE⟩
      have HA2 := Lib.hid (HA.out.ext hE)
      have HB2 := Lib.hid (HB.out.ext hE)
      have HE2 := Lib.hid (Ext.trans HE.out hE)
      clear HA HB HE hE
      have HA := HA2
      clear HA2
      have HB := HB2
      clear HB2
      have HE := HE2
      clear HE2
      clear hf
      have t1 : (F.toList == F.toList) = true := by simp
      have t2 : (Y.toList == Y.toList) = true := by simp
      have t3 : (f == f) = true := by simp
      have t4 : (e == e) = true := by simp
      obtain ⟨a0, a1, a2, a3, a4, a5, a6, a7, a8⟩ := HA.out.cells
      obtain ⟨b0, b1, -, -, -⟩ := HB.out
      go_wp2_with fail
      clear a0 a1 a2 a3 a4 a5 a6 a7 a8 b0 b1
      refine (bt_awake w6).mono ?_
      rintro e w7 ⟨rfl, hE⟩
      have HA2 := Lib.hid (HA.out.ext hE)
      have HB2 := Lib.hid (HB.out.ext hE)
      have HE2 := Lib.hid (Ext.trans HE.out hE)
      clear HA HB HE hE
      have HA := HA2
      clear HA2
      have HB := HB2
      clear HB2
      have HE := HE2
      clear HE2
      obtain ⟨a0, a1, a2, a3, a4, a5, a6, a7, a8⟩ := HA.out.cells
      obtain ⟨b0, b1, -, -, -⟩ := HB.out
      go_wp2_with fail
      go_ret
      exact ⟨rfl, HE.out⟩
end Go.Proofs.YtkdbpcenehhopaaGreat
