/- The law NettextFormatMatches returns true. Printed by gen_txinv.py. -/
import Derived.Test.YtnofbjcikfofgaaGreatTxAw
import Derived.Test.YtnofbjcikfofgaaGreatTxRf
namespace Go.Proofs.YtnofbjcikfofgaaGreat
open Go.RowKit
set_option maxRecDepth 100000 in
set_option maxHeartbeats 64000000 in
theorem fm_any (b : Int) (P : Option Addr) (n c : Nat) (ls : List (List Int)) (kd wh fr to_ : Int) (w : World) (h : LinesAt w P n ls) (hb : I64r b) (hi : ∀ z ∈ ls, z.length = 4 ∧ ∀ x ∈ z, I64r x) (hk : 0 ≤ kd ∧ kd ≤ 255) (i1 : I64r wh) (i2 : I64r fr) (i3 : I64r to_) :
    Calls Tryz.prog 3 #[.agg #[.int .i64 b, .slice P n c], .agg #[.int .u8 kd, .int .i64 wh, .int .i64 fr, .int .i64 to_]] w fun e w' => e = .returned (.bool true) ∧ Ext w w' := by
  have H := Lib.hid h
  have HI := Lib.hid (And.intro hb hi)
  have HO := Lib.hid (And.intro i1 (And.intro i2 i3))
  have HK := Lib.hid hk
  clear h hb hi i1 i2 i3 hk
  go_enter Tryz.func3, Tryz.ntmps3
  have hA := Cell2.new w _ rfl (.int .i64 b) (.slice P n c) 24
  have hAB : Ext (w.alloc (.cells #[.int .i64 b, .slice P n c] 24)) ((w.alloc (.cells #[.int .i64 b, .slice P n c] 24)).alloc (.cells #[.int .u8 kd, .int .i64 wh, .int .i64 fr, .int .i64 to_] 26)) := Ext.al Ext.rfl' _
  have hB := Cell4.new (w.alloc (.cells #[.int .i64 b, .slice P n c] 24)) _ rfl (.int .u8 kd) (.int .i64 wh) (.int .i64 fr) (.int .i64 to_) 26
  have hE0 : Ext w ((w.alloc (.cells #[.int .i64 b, .slice P n c] 24)).alloc (.cells #[.int .u8 kd, .int .i64 wh, .int .i64 fr, .int .i64 to_] 26)) := Ext.trans (Ext.al Ext.rfl' _) hAB
  have hA2 := hA.ext hAB
  have he : (w.alloc (.cells #[.int .i64 b, .slice P n c] 24)).heap.size = w.heap.size + 1 := by simp
  rw [he] at hB
  have HA := Lib.hid hA2
  have HB := Lib.hid hB
  have HE := Lib.hid hE0
  clear hA hAB hB hE0 hA2 he
  obtain ⟨a0, a1, -, -, -⟩ := HA.out
  obtain ⟨⟨b0, b1, b2, b3⟩, -, -⟩ := HB.out
  go_wp2_with fail
  clear a0 a1 b0 b1 b2 b3
  generalize ((w.alloc (.cells #[.int .i64 b, .slice P n c] 24)).alloc (.cells #[.int .u8 kd, .int .i64 wh, .int .i64 fr, .int .i64 to_] 26)) = w0 at *
  obtain ⟨ga, hga⟩ : ∃ x, w.heap.size = x := ⟨_, rfl⟩
  rw [hga] at HA HB ⊢
  clear hga
  obtain ⟨gb, hgb⟩ : ∃ x, ga + 1 = x := ⟨_, rfl⟩
  rw [hgb] at HB ⊢
  clear hgb
  refine (long_any ⟨#[]⟩ b P n c w0).mono ?_
  rintro e w1 ⟨rfl, hE⟩
  have HA2 := Lib.hid (HA.out.ext hE)
  have HB2 := Lib.hid (HB.out.ext hE)
  have HE2 := Lib.hid (Ext.trans HE.out hE)
  clear HA HB HE hE
  have HA := HA2
  clear HA2
  have HB := HB2
  clear HB2
  have HE := HE2
  clear HE2
  obtain ⟨lg, hlg⟩ : ∃ v, (decide (5000 < (⟨#[]⟩ : ByteArray).size) || decide (40 < n)) = v := ⟨_, rfl⟩
  rw [hlg]
  have HLG := Lib.hid hlg
  clear hlg
  cases lg with
  | true =>
    obtain ⟨a0, a1, -, -, -⟩ := HA.out
    obtain ⟨⟨b0, b1, b2, b3⟩, -, -⟩ := HB.out
    go_wp2_with fail
    clear a0 a1 b0 b1 b2 b3
    refine (awake_true w1).mono ?_
    rintro e w2 ⟨rfl, hE⟩
    have HA2 := Lib.hid (HA.out.ext hE)
    have HB2 := Lib.hid (HB.out.ext hE)
    have HE2 := Lib.hid (Ext.trans HE.out hE)
    clear HA HB HE hE
    have HA := HA2
    clear HA2
    have HB := HB2
    clear HB2
    have HE := HE2
    clear HE2
    obtain ⟨a0, a1, -, -, -⟩ := HA.out
    obtain ⟨⟨b0, b1, b2, b3⟩, -, -⟩ := HB.out
    go_wp2_with fail
    go_ret
    exact ⟨rfl, HE.out⟩
  | false =>
    have HN : Hid (n ≤ 40) := by
      have := HLG.out
      simp only [Bool.or_eq_false_iff, decide_eq_false_iff_not] at this
      unfold Hid
      omega
    clear HLG
    obtain ⟨a0, a1, -, -, -⟩ := HA.out
    obtain ⟨⟨b0, b1, b2, b3⟩, -, -⟩ := HB.out
    go_wp2_with fail
    clear a0 a1 b0 b1 b2 b3
    obtain ⟨F, f, hF1, hF2⟩ : ∃ (F : ByteArray) (f : Int), bs (netT b ls).1 = F ∧ (netT b ls).2 = f := ⟨_, _, rfl, rfl⟩
    obtain ⟨Y, e, hY1, hY2⟩ : ∃ (Y : ByteArray) (e : Int), bs (outT kd wh fr to_).1 = Y ∧ (outT kd wh fr to_).2 = e := ⟨_, _, rfl, rfl⟩
    have HF := Lib.hid (And.intro hF1 hF2)
    have HY := Lib.hid (And.intro hY1 hY2)
    clear hF1 hF2 hY1 hY2
    have hf := fmtnet_any b P n c ls w1 (H.out.ext HE.out) (by have := HN.out; omega)
    rw [HF.out.1, HF.out.2] at hf
    refine (hf).mono ?_
    rintro e w2 ⟨rfl, hE⟩
    have HA2 := Lib.hid (HA.out.ext hE)
    have HB2 := Lib.hid (HB.out.ext hE)
    have HE2 := Lib.hid (Ext.trans HE.out hE)
    clear HA HB HE hE
    have HA := HA2
    clear HA2
    have HB := HB2
    clear HB2
    have HE := HE2
    clear HE2
    clear hf
    obtain ⟨a0, a1, -, -, -⟩ := HA.out
    obtain ⟨⟨b0, b1, b2, b3⟩, -, -⟩ := HB.out
    go_wp2_with fail
    clear a0 a1 b0 b1 b2 b3
    have hf := rfmtnet_any b P n c ls w2 (H.out.ext HE.out) HI.out.1 HI.out.2 (by have := HN.out; omega)
    rw [HF.out.1, HF.out.2] at hf
    refine (hf).mono ?_
    rintro e w3 ⟨rfl, hE⟩
    have HA2 := Lib.hid (HA.out.ext hE)
    have HB2 := Lib.hid (HB.out.ext hE)
    have HE2 := Lib.hid (Ext.trans HE.out hE)
    clear HA HB HE hE
    have HA := HA2
    clear HA2
    have HB := HB2
    clear HB2
    have HE := HE2
    clear HE2
    clear hf
    obtain ⟨a0, a1, -, -, -⟩ := HA.out
    obtain ⟨⟨b0, b1, b2, b3⟩, -, -⟩ := HB.out
    go_wp2_with fail
    clear a0 a1 b0 b1 b2 b3
    have hf := fmtout_any kd wh fr to_ w3
    rw [HY.out.1, HY.out.2] at hf
    refine (hf).mono ?_
    rintro e w4 ⟨rfl, hE⟩
    have HA2 := Lib.hid (HA.out.ext hE)
    have HB2 := Lib.hid (HB.out.ext hE)
    have HE2 := Lib.hid (Ext.trans HE.out hE)
    clear HA HB HE hE
    have HA := HA2
    clear HA2
    have HB := HB2
    clear HB2
    have HE := HE2
    clear HE2
    clear hf
    obtain ⟨a0, a1, -, -, -⟩ := HA.out
    obtain ⟨⟨b0, b1, b2, b3⟩, -, -⟩ := HB.out
    go_wp2_with fail
    clear a0 a1 b0 b1 b2 b3
    have hf := rfmtout_any kd wh fr to_ w4 HO.out.1 HO.out.2.1 HO.out.2.2
    rw [HY.out.1, HY.out.2] at hf
    refine (hf).mono ?_
    rintro e w5 ⟨rfl, hE⟩
    have HA2 := Lib.hid (HA.out.ext hE)
    have HB2 := Lib.hid (HB.out.ext hE)
    have HE2 := Lib.hid (Ext.trans HE.out hE)
    clear HA HB HE hE
    have HA := HA2
    clear HA2
    have HB := HB2
    clear HB2
    have HE := HE2
    clear HE2
    clear hf
    have t1 : (F.toList == F.toList) = true := by simp
    have t2 : (Y.toList == Y.toList) = true := by simp
    have t3 : (f == f) = true := by simp
    have t4 : (e == e) = true := by simp
    obtain ⟨a0, a1, -, -, -⟩ := HA.out
    obtain ⟨⟨b0, b1, b2, b3⟩, -, -⟩ := HB.out
    go_wp2_with fail
    clear a0 a1 b0 b1 b2 b3
    refine (awake_true w5).mono ?_
    rintro e w6 ⟨rfl, hE⟩
    have HA2 := Lib.hid (HA.out.ext hE)
    have HB2 := Lib.hid (HB.out.ext hE)
    have HE2 := Lib.hid (Ext.trans HE.out hE)
    clear HA HB HE hE
    have HA := HA2
    clear HA2
    have HB := HB2
    clear HB2
    have HE := HE2
    clear HE2
    obtain ⟨a0, a1, -, -, -⟩ := HA.out
    obtain ⟨⟨b0, b1, b2, b3⟩, -, -⟩ := HB.out
    go_wp2_with fail
    go_ret
    exact ⟨rfl, HE.out⟩
end Go.Proofs.YtnofbjcikfofgaaGreat
