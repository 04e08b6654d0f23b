/- The law BidtextWhiteSpace returns true. Printed by gen_btx.py. -/
import Derived.Test.YtkdbpcenehhopaaGreatBtGp
namespace Go.Proofs.YtkdbpcenehhopaaGreat
open Go.RowKit
theorem U8.ofP {n : Int} (h : (Lit.int .u8 n).wf = true) : 0 ≤ n ∧ n ≤ 255 := by
  have h' := h
  simp [Lit.wf, IntKind.min, IntKind.max, IntKind.signed, IntKind.bits] at h'
  exact ⟨by omega, by omega⟩
theorem unit_packg (m : Nat) (hm : m ≤ 5) (u : U) : ∃ (F : ByteArray) (f : Int), bs (unitT u).1 = F ∧ (unitT u).2 = f ∧ (F.size ≤ 5000 ∧ (f = 0 → (bs (gapsT m F.data.toList)).size ≤ 65536 ∧ unitR (bs (gapsT m F.data.toList)).data.toList 0 = ⟨u, ((bs (gapsT m F.data.toList)).size : Int), 0⟩)) := by
  rcases unit_cases u with ⟨hc, e⟩ | ⟨hc, e⟩
  · rw [e]
    have hl2 := unit_len hc
    obtain ⟨hz, hi, -⟩ := unit_zs hc
    refine ⟨_, _, rfl, rfl, by rw [bs_size]; simp only; omega, fun _ => ?_⟩
    simp only
    rw [bs_list, bs_list, bs_size]
    have hg : (gapsT m (fmtT (unitToks u))).length ≤ 65536 := by
      have h1 := gapsT_len m (fmtT (unitToks u))
      have h2 := Nat.mul_le_mul (show m + 1 ≤ 6 by omega) hl2
      omega
    have hr : Rd (gapsT m (fmtT (unitToks u))) 0 (unitToks u) ((gapsT m (fmtT (unitToks u))).length : Int) := by
      rw [unitToks_init] at hg ⊢
      exact rd_gaps m (unitInit u) (fun t ht => (unit_good hz hi t (by rw [unitToks_init]; exact List.mem_append_left _ ht)).1) hg
    refine ⟨hg, ?_⟩
    rw [unit_rd hz hi hr]
    unfold unitEnd
    rw [if_neg (by simp), if_neg (by rw [hc]; simp)]
  · rw [e]
    exact ⟨_, _, rfl, rfl, by rw [bs_size]; simp, fun h => absurd h hc⟩
theorem bid_packg (m : Nat) (hm : m ≤ 5) (b : Int) (xs : List (Int × Int)) : ∃ (F : ByteArray) (f : Int), bs (bidT b xs).1 = F ∧ (bidT b xs).2 = f ∧ (F.size ≤ 5000 ∧ (f = 0 → (bs (gapsT m F.data.toList)).size ≤ 65536 ∧ bidR (bs (gapsT m F.data.toList)).data.toList 0 = ⟨b, xs, ((bs (gapsT m F.data.toList)).size : Int), 0⟩)) := by
  rcases bid_cases b xs with ⟨hc, e⟩ | ⟨hc, e⟩
  · rw [e]
    have hl2 := bid_len hc
    obtain ⟨hz, hi, -⟩ := bid_zs hc
    refine ⟨_, _, rfl, rfl, by rw [bs_size]; simp only; omega, fun _ => ?_⟩
    simp only
    rw [bs_list, bs_list, bs_size]
    have hg : (gapsT m (fmtT (bidToks b xs))).length ≤ 65536 := by
      have h1 := gapsT_len m (fmtT (bidToks b xs))
      have h2 := Nat.mul_le_mul (show m + 1 ≤ 6 by omega) hl2
      omega
    have hr : Rd (gapsT m (fmtT (bidToks b xs))) 0 (bidToks b xs) ((gapsT m (fmtT (bidToks b xs))).length : Int) := by
      rw [bidToks_init] at hg ⊢
      exact rd_gaps m (bidInit b xs) (fun t ht => (bid_good hz hi t (by rw [bidToks_init]; exact List.mem_append_left _ ht)).1) hg
    refine ⟨hg, ?_⟩
    rw [bid_rd hz hi hr]
    unfold bidEnd
    rw [if_neg (by simp), if_neg (by rw [hc]; simp)]
  · rw [e]
    exact ⟨_, _, rfl, rfl, by rw [bs_size]; simp, fun h => absurd h hc⟩
set_option maxRecDepth 100000 in
set_option maxHeartbeats 64000000 in
theorem bws_any (u : U) (A : Option Addr) (n c : Nat) (b : Int) (xs : List (Int × Int)) (B : Option Addr) (m d : Nat) (z : Int) (w : World) (h : StepsAt w A n u.steps) (h' : StepsAt w B m xs) (hz : 0 ≤ z ∧ z ≤ 255) :
    Calls Tryz.prog 6 #[u.val A n c, .agg #[.int .i64 b, .slice B m d], .int .u8 z] w fun e w' => e = .returned (.bool true) ∧ Ext w w' := by
  have H := Lib.hid h
  have H' := Lib.hid h'
  clear h h'
  have HZ := Lib.hid hz
  clear hz
  go_enter Tryz.func6, Tryz.ntmps6
  have hAB : Ext (w.alloc (.cells #[.int .i64 u.bus, .int .i64 u.mn, .slice A n c, .int .i64 u.up, .int .i64 u.down, .int .i64 u.start, .int .i64 u.idle, .int .i64 u.spin, .int .i64 u.on] 24)) ((w.alloc (.cells #[.int .i64 u.bus, .int .i64 u.mn, .slice A n c, .int .i64 u.up, .int .i64 u.down, .int .i64 u.start, .int .i64 u.idle, .int .i64 u.spin, .int .i64 u.on] 24)).alloc (.cells #[.int .i64 b, .slice B m d] 26)) := Ext.al Ext.rfl' _
  have hA := (UBk.new w u A n c).ext hAB
  have hB := Cell2.new (w.alloc (.cells #[.int .i64 u.bus, .int .i64 u.mn, .slice A n c, .int .i64 u.up, .int .i64 u.down, .int .i64 u.start, .int .i64 u.idle, .int .i64 u.spin, .int .i64 u.on] 24)) _ rfl (.int .i64 b) (.slice B m d) 26
  have hE0 : Ext w ((w.alloc (.cells #[.int .i64 u.bus, .int .i64 u.mn, .slice A n c, .int .i64 u.up, .int .i64 u.down, .int .i64 u.start, .int .i64 u.idle, .int .i64 u.spin, .int .i64 u.on] 24)).alloc (.cells #[.int .i64 b, .slice B m d] 26)) := Ext.trans (Ext.al Ext.rfl' _) hAB
  have he : (w.alloc (.cells #[.int .i64 u.bus, .int .i64 u.mn, .slice A n c, .int .i64 u.up, .int .i64 u.down, .int .i64 u.start, .int .i64 u.idle, .int .i64 u.spin, .int .i64 u.on] 24)).heap.size = w.heap.size + 1 := by simp
  rw [he] at hB
  have HA := Lib.hid hA
  have HB := Lib.hid hB
  have HE := Lib.hid hE0
  clear hA hAB hB hE0 he
  obtain ⟨a0, a1, a2, a3, a4, a5, a6, a7, a8⟩ := HA.out.cells
  obtain ⟨b0, b1, -, -, -⟩ := HB.out
  go_wp2_with fail
  clear a0 a1 a2 a3 a4 a5 a6 a7 a8 b0 b1
  generalize ((w.alloc (.cells #[.int .i64 u.bus, .int .i64 u.mn, .slice A n c, .int .i64 u.up, .int .i64 u.down, .int .i64 u.start, .int .i64 u.idle, .int .i64 u.spin, .int .i64 u.on] 24)).alloc (.cells #[.int .i64 b, .slice B m d] 26)) = w0 at *
  obtain ⟨ga, hga⟩ : ∃ x, w.heap.size = x := ⟨_, rfl⟩
  rw [hga] at HA HB ⊢
  clear hga
  obtain ⟨gb, hgb⟩ : ∃ x, ga + 1 = x := ⟨_, rfl⟩
  rw [hgb] at HB ⊢
  clear hgb
  refine (blong_any ⟨#[]⟩ A n c w0).mono ?_
  rintro e w1 ⟨rfl, hE⟩
  have HA2 := Lib.hid (HA.out.ext hE)
  have HB2 := Lib.hid (HB.out.ext hE)
  have HE2 := Lib.hid (Ext.trans HE.out hE)
  clear HA HB HE hE
  have HA := HA2
  clear HA2
  have HB := HB2
  clear HB2
  have HE := HE2
  clear HE2
  obtain ⟨lg, hlg⟩ : ∃ v, (decide (5000 < (⟨#[]⟩ : ByteArray).size) || decide (50 < n)) = v := ⟨_, rfl⟩
  rw [hlg]
  have HL1 := Lib.hid hlg
  clear hlg
  cases lg with
  | true =>
    obtain ⟨a0, a1, a2, a3, a4, a5, a6, a7, a8⟩ := HA.out.cells
    obtain ⟨b0, b1, -, -, -⟩ := HB.out
    go_wp2_with fail
    clear a0 a1 a2 a3 a4 a5 a6 a7 a8 b0 b1
    refine (bt_awake w1).mono ?_
    rintro e w2 ⟨rfl, hE⟩
    have HA2 := Lib.hid (HA.out.ext hE)
    have HB2 := Lib.hid (HB.out.ext hE)
    have HE2 := Lib.hid (Ext.trans HE.out hE)
    clear HA HB HE hE
    have HA := HA2
    clear HA2
    have HB := HB2
    clear HB2
    have HE := HE2
    clear HE2
    obtain ⟨a0, a1, a2, a3, a4, a5, a6, a7, a8⟩ := HA.out.cells
    obtain ⟨b0, b1, -, -, -⟩ := HB.out
    go_wp2_with fail
    go_ret
    exact ⟨rfl, HE.out⟩
  | false =>
    have HL1' : Hid ((⟨#[]⟩ : ByteArray).size ≤ 5000 ∧ n ≤ 50) := by
      have h1 := HL1.out
      simp only [Bool.or_eq_false_iff, decide_eq_false_iff_not] at h1
      unfold Hid
      omega
    clear HL1
    have HL1 := HL1'
    clear HL1'
    obtain ⟨a0, a1, a2, a3, a4, a5, a6, a7, a8⟩ := HA.out.cells
    obtain ⟨b0, b1, -, -, -⟩ := HB.out
    go_wp2_with fail
    clear a0 a1 a2 a3 a4 a5 a6 a7 a8 b0 b1
    refine (blong_any ⟨#[]⟩ B m d w1).mono ?_
    rintro e w2 ⟨rfl, hE⟩
    have HA2 := Lib.hid (HA.out.ext hE)
    have HB2 := Lib.hid (HB.out.ext hE)
    have HE2 := Lib.hid (Ext.trans HE.out hE)
    clear HA HB HE hE
    have HA := HA2
    clear HA2
    have HB := HB2
    clear HB2
    have HE := HE2
    clear HE2
    obtain ⟨lg, hlg⟩ : ∃ v, (decide (5000 < (⟨#[]⟩ : ByteArray).size) || decide (50 < m)) = v := ⟨_, rfl⟩
    rw [hlg]
    have HL2 := Lib.hid hlg
    clear hlg
    cases lg with
    | true =>
      obtain ⟨a0, a1, a2, a3, a4, a5, a6, a7, a8⟩ := HA.out.cells
      obtain ⟨b0, b1, -, -, -⟩ := HB.out
      go_wp2_with fail
      clear a0 a1 a2 a3 a4 a5 a6 a7 a8 b0 b1
      refine (bt_awake w2).mono ?_
      rintro e w3 ⟨rfl, hE⟩
      have HA2 := Lib.hid (HA.out.ext hE)
      have HB2 := Lib.hid (HB.out.ext hE)
      have HE2 := Lib.hid (Ext.trans HE.out hE)
      clear HA HB HE hE
      have HA := HA2
      clear HA2
      have HB := HB2
      clear HB2
      have HE := HE2
      clear HE2
      obtain ⟨a0, a1, a2, a3, a4, a5, a6, a7, a8⟩ := HA.out.cells
      obtain ⟨b0, b1, -, -, -⟩ := HB.out
      go_wp2_with fail
      go_ret
      exact ⟨rfl, HE.out⟩
    | false =>
      have HL2' : Hid ((⟨#[]⟩ : ByteArray).size ≤ 5000 ∧ m ≤ 50) := by
        have h1 := HL2.out
        simp only [Bool.or_eq_false_iff, decide_eq_false_iff_not] at h1
        unfold Hid
        omega
      clear HL2
      have HL2 := HL2'
      clear HL2'
      obtain ⟨a0, a1, a2, a3, a4, a5, a6, a7, a8⟩ := HA.out.cells
      obtain ⟨b0, b1, -, -, -⟩ := HB.out
      go_wp2_with fail
      clear a0 a1 a2 a3 a4 a5 a6 a7 a8 b0 b1
      refine (bt_awake w2).mono ?_
      rintro e w3 ⟨rfl, hE⟩
      have HA2 := Lib.hid (HA.out.ext hE)
      have HB2 := Lib.hid (HB.out.ext hE)
      have HE2 := Lib.hid (Ext.trans HE.out hE)
      clear HA HB HE hE
      have HA := HA2
      clear HA2
      have HB := HB2
      clear HB2
      have HE := HE2
      clear HE2
      obtain ⟨a0, a1, a2, a3, a4, a5, a6, a7, a8⟩ := HA.out.cells
      obtain ⟨b0, b1, -, -, -⟩ := HB.out
      go_wp2_with fail
      clear a0 a1 a2 a3 a4 a5 a6 a7 a8 b0 b1
      obtain ⟨mm, hm⟩ : ∃ mm : Nat, z % 5 = (mm : Int) := ⟨(z % 5).toNat, by have := HZ.out; omega⟩
      have hm5 : mm ≤ 5 := by omega
      obtain ⟨F, f, hF1, hF2, hF4⟩ := unit_packg mm hm5 u
      have hf := bfmtunit_any u A n c w3 (H.out.below HE.out) (by have := HL1.out; omega)
      rw [hF1, hF2] at hf
      have HF4 := Lib.hid hF4
      clear hF1 hF2 hF4
      refine (hf).mono ?_
      rintro e w4 ⟨rfl, hE⟩
      have HA2 := Lib.hid (HA.out.ext hE)
      have HB2 := Lib.hid (HB.out.ext hE)
      have HE2 := Lib.hid (Ext.trans HE.out hE)
      clear HA HB HE hE
      have HA := HA2
      clear HA2
      have HB := HB2
      clear HB2
      have HE := HE2
      clear HE2
      clear hf
      obtain ⟨a0, a1, a2, a3, a4, a5, a6, a7, a8⟩ := HA.out.cells
      obtain ⟨b0, b1, -, -, -⟩ := HB.out
      go_wp2_with fail
      clear a0 a1 a2 a3 a4 a5 a6 a7 a8 b0 b1
      obtain ⟨Y, e, hY1, hY2, hY4⟩ := bid_packg mm hm5 b xs
      have hf := bfmtbid_any b xs B m d w4 (H'.out.below HE.out) (by have := HL2.out; omega)
      rw [hY1, hY2] at hf
      have HY4 := Lib.hid hY4
      clear hY1 hY2 hY4
      refine (hf).mono ?_
      rintro e w5 ⟨rfl, hE⟩
      have HA2 := Lib.hid (HA.out.ext hE)
      have HB2 := Lib.hid (HB.out.ext hE)
      have HE2 := Lib.hid (Ext.trans HE.out hE)
      clear HA HB HE hE
      have HA := HA2
      clear HA2
      have HB := HB2
      clear HB2
      have HE := HE2
      clear HE2
      clear hf
      have t1 : z.tmod 5 = (mm : Int) := by rw [Int.tmod_eq_emod_of_nonneg HZ.out.1]; exact hm
      have hz0 := HZ.out.1
      have hz1 := HZ.out.2
      obtain ⟨a0, a1, a2, a3, a4, a5, a6, a7, a8⟩ := HA.out.cells
      obtain ⟨b0, b1, -, -, -⟩ := HB.out
      go_wp2_with fail
      clear a0 a1 a2 a3 a4 a5 a6 a7 a8 b0 b1
      refine (gaps_any F mm w5 HF4.out.1 hm5).mono ?_
      rintro e w6 ⟨rfl, hE⟩
      have HA2 := Lib.hid (HA.out.ext hE)
      have HB2 := Lib.hid (HB.out.ext hE)
      have HE2 := Lib.hid (Ext.trans HE.out hE)
      clear HA HB HE hE
      have HA := HA2
      clear HA2
      have HB := HB2
      clear HB2
      have HE := HE2
      clear HE2
      obtain ⟨a0, a1, a2, a3, a4, a5, a6, a7, a8⟩ := HA.out.cells
      obtain ⟨b0, b1, -, -, -⟩ := HB.out
      go_wp2_with fail
      clear a0 a1 a2 a3 a4 a5 a6 a7 a8 b0 b1
      refine (gaps_any Y mm w6 HY4.out.1 hm5).mono ?_
      rintro e w7 ⟨rfl, hE⟩
      have HA2 := Lib.hid (HA.out.ext hE)
      have HB2 := Lib.hid (HB.out.ext hE)
      have HE2 := Lib.hid (Ext.trans HE.out hE)
      clear HA HB HE hE
      have HA := HA2
      clear HA2
      have HB := HB2
      clear HB2
      have HE := HE2
      clear HE2
      generalize bs (gapsT mm F.data.toList) = GF at *
      generalize bs (gapsT mm Y.data.toList) = GY at *
      by_cases hc : f = 0
      · subst hc
        by_cases hf0 : e = 0
        · subst hf0
          obtain ⟨a0, a1, a2, a3, a4, a5, a6, a7, a8⟩ := HA.out.cells
          obtain ⟨b0, b1, -, -, -⟩ := HB.out
          go_wp2_with fail
          clear a0 a1 a2 a3 a4 a5 a6 a7 a8 b0 b1
          refine (bt_unit GF 0 u A n c (GF.size : Int) 0 w7 (HF4.out.2 (by first | rfl | trivial)).2 (H.out.below HE.out) (by have := (HF4.out.2 (by first | rfl | trivial)).1; unfold maxLen; omega) (by have := HL1.out; omega)).mono ?_
          rintro e w8 ⟨rfl, hE⟩
          have HA2 := Lib.hid (HA.out.ext hE)
          have HB2 := Lib.hid (HB.out.ext hE)
          have HE2 := Lib.hid (Ext.trans HE.out hE)
          clear HA HB HE hE
          have HA := HA2
          clear HA2
          have HB := HB2
          clear HB2
          have HE := HE2
          clear HE2
          obtain ⟨a0, a1, a2, a3, a4, a5, a6, a7, a8⟩ := HA.out.cells
          obtain ⟨b0, b1, -, -, -⟩ := HB.out
          go_wp2_with fail
          clear a0 a1 a2 a3 a4 a5 a6 a7 a8 b0 b1
          refine (bt_bid GY 0 b xs B m d (GY.size : Int) 0 w8 (HY4.out.2 (by first | rfl | trivial)).2 (H'.out.below HE.out) (by have := (HY4.out.2 (by first | rfl | trivial)).1; unfold maxLen; omega) (by have := HL2.out; omega)).mono ?_
          rintro e w9 ⟨rfl, hE⟩
          have HA2 := Lib.hid (HA.out.ext hE)
          have HB2 := Lib.hid (HB.out.ext hE)
          have HE2 := Lib.hid (Ext.trans HE.out hE)
          clear HA HB HE hE
          have HA := HA2
          clear HA2
          have HB := HB2
          clear HB2
          have HE := HE2
          clear HE2
          obtain ⟨a0, a1, a2, a3, a4, a5, a6, a7, a8⟩ := HA.out.cells
          obtain ⟨b0, b1, -, -, -⟩ := HB.out
          go_wp2_with fail
          go_ret
          exact ⟨rfl, HE.out⟩
        · have f1 : (e != 0) = true := by simp [hf0]
          clear hf0
          obtain ⟨a0, a1, a2, a3, a4, a5, a6, a7, a8⟩ := HA.out.cells
          obtain ⟨b0, b1, -, -, -⟩ := HB.out
          go_wp2_with fail
          clear a0 a1 a2 a3 a4 a5 a6 a7 a8 b0 b1
          refine (bt_unit GF 0 u A n c (GF.size : Int) 0 w7 (HF4.out.2 (by first | rfl | trivial)).2 (H.out.below HE.out) (by have := (HF4.out.2 (by first | rfl | trivial)).1; unfold maxLen; omega) (by have := HL1.out; omega)).mono ?_
          rintro e w8 ⟨rfl, hE⟩
          have HA2 := Lib.hid (HA.out.ext hE)
          have HB2 := Lib.hid (HB.out.ext hE)
          have HE2 := Lib.hid (Ext.trans HE.out hE)
          clear HA HB HE hE
          have HA := HA2
          clear HA2
          have HB := HB2
          clear HB2
          have HE := HE2
          clear HE2
          obtain ⟨a0, a1, a2, a3, a4, a5, a6, a7, a8⟩ := HA.out.cells
          obtain ⟨b0, b1, -, -, -⟩ := HB.out
          go_wp2_with fail
          go_ret
          exact ⟨rfl, HE.out⟩
      · have n1 : (f != 0) = true := by simp [hc]
        clear hc
        by_cases hf0 : e = 0
        · subst hf0
          obtain ⟨a0, a1, a2, a3, a4, a5, a6, a7, a8⟩ := HA.out.cells
          obtain ⟨b0, b1, -, -, -⟩ := HB.out
          go_wp2_with fail
          clear a0 a1 a2 a3 a4 a5 a6 a7 a8 b0 b1
          refine (bt_bid GY 0 b xs B m d (GY.size : Int) 0 w7 (HY4.out.2 (by first | rfl | trivial)).2 (H'.out.below HE.out) (by have := (HY4.out.2 (by first | rfl | trivial)).1; unfold maxLen; omega) (by have := HL2.out; omega)).mono ?_
          rintro e w8 ⟨rfl, hE⟩
          have HA2 := Lib.hid (HA.out.ext hE)
          have HB2 := Lib.hid (HB.out.ext hE)
          have HE2 := Lib.hid (Ext.trans HE.out hE)
          clear HA HB HE hE
          have HA := HA2
          clear HA2
          have HB := HB2
          clear HB2
          have HE := HE2
          clear HE2
          obtain ⟨a0, a1, a2, a3, a4, a5, a6, a7, a8⟩ := HA.out.cells
          obtain ⟨b0, b1, -, -, -⟩ := HB.out
          go_wp2_with fail
          go_ret
          exact ⟨rfl, HE.out⟩
        · have f1 : (e != 0) = true := by simp [hf0]
          clear hf0
          obtain ⟨a0, a1, a2, a3, a4, a5, a6, a7, a8⟩ := HA.out.cells
          obtain ⟨b0, b1, -, -, -⟩ := HB.out
          go_wp2_with fail
          go_ret
          exact ⟨rfl, HE.out⟩
end Go.Proofs.YtkdbpcenehhopaaGreat
