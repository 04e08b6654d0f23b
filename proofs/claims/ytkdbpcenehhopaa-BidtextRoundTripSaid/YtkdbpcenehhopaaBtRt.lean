/- The law BidtextRoundTrip returns true. Printed by gen_btx.py. -/
import Derived.Test.YtkdbpcenehhopaaBtFo
namespace Go.Proofs.Ytkdbpcenehhopaa
open Go.RowKit
theorem unit_packr (u : U) : ∃ (F : ByteArray) (f : Int), bs (unitT u).1 = F ∧ (unitT u).2 = f ∧ (u.check 6 = f ∧ (f ≠ 0 → F = ⟨#[]⟩) ∧ (f = 0 → F.size ≤ 5000 ∧ unitR F.data.toList 0 = ⟨u, (F.size : Int), 0⟩)) := by
  rcases unit_cases u with ⟨hc, e⟩ | ⟨hc, e⟩
  · rw [e]
    refine ⟨_, _, rfl, rfl, hc, fun h => absurd rfl h, fun _ => ?_⟩
    have hl := unit_len hc
    have h := unit_read hc [] [] (by simp; omega)
    simp only [List.nil_append, List.append_nil, List.length_nil, Nat.zero_add] at h
    rw [bs_list, bs_size]
    exact ⟨by simp only; omega, h⟩
  · rw [e]
    exact ⟨_, _, rfl, rfl, rfl, fun _ => rfl, fun h => absurd h hc⟩
theorem bid_packr (b : Int) (xs : List (Int × Int)) : ∃ (F : ByteArray) (f : Int), bs (bidT b xs).1 = F ∧ (bidT b xs).2 = f ∧ (bidC b xs = f ∧ (f ≠ 0 → F = ⟨#[]⟩) ∧ (f = 0 → F.size ≤ 5000 ∧ bidR F.data.toList 0 = ⟨b, xs, (F.size : Int), 0⟩)) := by
  rcases bid_cases b xs with ⟨hc, e⟩ | ⟨hc, e⟩
  · rw [e]
    refine ⟨_, _, rfl, rfl, hc, fun h => absurd rfl h, fun _ => ?_⟩
    have hl := bid_len hc
    have h := bid_read hc [] [] (by simp; omega)
    simp only [List.nil_append, List.append_nil, List.length_nil, Nat.zero_add] at h
    rw [bs_list, bs_size]
    exact ⟨by simp only; omega, h⟩
  · rw [e]
    exact ⟨_, _, rfl, rfl, rfl, fun _ => rfl, fun h => absurd h hc⟩
set_option maxRecDepth 100000 in
set_option maxHeartbeats 64000000 in
theorem brt_any (u : U) (A : Option Addr) (n c : Nat) (b : Int) (xs : List (Int × Int)) (B : Option Addr) (m d : Nat) (S : ByteArray) (k : Int) (w : World) (h : StepsAt w A n u.steps) (h' : StepsAt w B m xs) (hS : S.size ≤ maxLen) :
    Calls Try.prog 4 #[u.val A n c, .agg #[.int .i64 b, .slice B m d], .string S, .int .i64 k] w fun e w' => e = .returned (.bool true) ∧ Ext w w' := by
  have H := Lib.hid h
  have H' := Lib.hid h'
  clear h h'
  have HS := Lib.hid hS
  clear hS
  go_enter Try.func4, Try.ntmps4
  have hAB : Ext (w.alloc (.cells #[.int .i64 u.bus, .int .i64 u.mn, .slice A n c, .int .i64 u.up, .int .i64 u.down, .int .i64 u.start, .int .i64 u.idle, .int .i64 u.spin, .int .i64 u.on] 30)) ((w.alloc (.cells #[.int .i64 u.bus, .int .i64 u.mn, .slice A n c, .int .i64 u.up, .int .i64 u.down, .int .i64 u.start, .int .i64 u.idle, .int .i64 u.spin, .int .i64 u.on] 30)).alloc (.cells #[.int .i64 b, .slice B m d] 33)) := Ext.al Ext.rfl' _
  have hA := (UBk.new w u A n c).ext hAB
  have hB := Cell2.new (w.alloc (.cells #[.int .i64 u.bus, .int .i64 u.mn, .slice A n c, .int .i64 u.up, .int .i64 u.down, .int .i64 u.start, .int .i64 u.idle, .int .i64 u.spin, .int .i64 u.on] 30)) _ rfl (.int .i64 b) (.slice B m d) 33
  have hE0 : Ext w ((w.alloc (.cells #[.int .i64 u.bus, .int .i64 u.mn, .slice A n c, .int .i64 u.up, .int .i64 u.down, .int .i64 u.start, .int .i64 u.idle, .int .i64 u.spin, .int .i64 u.on] 30)).alloc (.cells #[.int .i64 b, .slice B m d] 33)) := Ext.trans (Ext.al Ext.rfl' _) hAB
  have he : (w.alloc (.cells #[.int .i64 u.bus, .int .i64 u.mn, .slice A n c, .int .i64 u.up, .int .i64 u.down, .int .i64 u.start, .int .i64 u.idle, .int .i64 u.spin, .int .i64 u.on] 30)).heap.size = w.heap.size + 1 := by simp
  rw [he] at hB
  have HA := Lib.hid hA
  have HB := Lib.hid hB
  have HE := Lib.hid hE0
  clear hA hAB hB hE0 he
  obtain ⟨a0, a1, a2, a3, a4, a5, a6, a7, a8⟩ := HA.out.cells
  obtain ⟨b0, b1, -, -, -⟩ := HB.out
  go_wp2_with fail
  clear a0 a1 a2 a3 a4 a5 a6 a7 a8 b0 b1
  generalize ((w.alloc (.cells #[.int .i64 u.bus, .int .i64 u.mn, .slice A n c, .int .i64 u.up, .int .i64 u.down, .int .i64 u.start, .int .i64 u.idle, .int .i64 u.spin, .int .i64 u.on] 30)).alloc (.cells #[.int .i64 b, .slice B m d] 33)) = w0 at *
  obtain ⟨ga, hga⟩ : ∃ x, w.heap.size = x := ⟨_, rfl⟩
  rw [hga] at HA HB ⊢
  clear hga
  obtain ⟨gb, hgb⟩ : ∃ x, ga + 1 = x := ⟨_, rfl⟩
  rw [hgb] at HB ⊢
  clear hgb
  refine (blong_any S A n c w0).mono ?_
  rintro e w1 ⟨rfl, hE⟩
  have HA2 := Lib.hid (HA.out.ext hE)
  have HB2 := Lib.hid (HB.out.ext hE)
  have HE2 := Lib.hid (Ext.trans HE.out hE)
  clear HA HB HE hE
  have HA := HA2
  clear HA2
  have HB := HB2
  clear HB2
  have HE := HE2
  clear HE2
  obtain ⟨lg, hlg⟩ : ∃ v, (decide (5000 < (S : ByteArray).size) || decide (50 < n)) = v := ⟨_, rfl⟩
  rw [hlg]
  have HL1 := Lib.hid hlg
  clear hlg
  cases lg with
  | true =>
    obtain ⟨a0, a1, a2, a3, a4, a5, a6, a7, a8⟩ := HA.out.cells
    obtain ⟨b0, b1, -, -, -⟩ := HB.out
    go_wp2_with fail
    clear a0 a1 a2 a3 a4 a5 a6 a7 a8 b0 b1
    refine (bt_awake w1).mono ?_
    rintro e w2 ⟨rfl, hE⟩
    have HA2 := Lib.hid (HA.out.ext hE)
    have HB2 := Lib.hid (HB.out.ext hE)
    have HE2 := Lib.hid (Ext.trans HE.out hE)
    clear HA HB HE hE
    have HA := HA2
    clear HA2
    have HB := HB2
    clear HB2
    have HE := HE2
    clear HE2
    obtain ⟨a0, a1, a2, a3, a4, a5, a6, a7, a8⟩ := HA.out.cells
    obtain ⟨b0, b1, -, -, -⟩ := HB.out
    go_wp2_with fail
    go_ret
    exact ⟨rfl, HE.out⟩
  | false =>
    have HL1' : Hid ((S : ByteArray).size ≤ 5000 ∧ n ≤ 50) := by
      have h1 := HL1.out
      simp only [Bool.or_eq_false_iff, decide_eq_false_iff_not] at h1
      unfold Hid
      omega
    clear HL1
    have HL1 := HL1'
    clear HL1'
    obtain ⟨a0, a1, a2, a3, a4, a5, a6, a7, a8⟩ := HA.out.cells
    obtain ⟨b0, b1, -, -, -⟩ := HB.out
    go_wp2_with fail
    clear a0 a1 a2 a3 a4 a5 a6 a7 a8 b0 b1
    refine (blong_any ⟨#[]⟩ B m d w1).mono ?_
    rintro e w2 ⟨rfl, hE⟩
    have HA2 := Lib.hid (HA.out.ext hE)
    have HB2 := Lib.hid (HB.out.ext hE)
    have HE2 := Lib.hid (Ext.trans HE.out hE)
    clear HA HB HE hE
    have HA := HA2
    clear HA2
    have HB := HB2
    clear HB2
    have HE := HE2
    clear HE2
    obtain ⟨lg, hlg⟩ : ∃ v, (decide (5000 < (⟨#[]⟩ : ByteArray).size) || decide (50 < m)) = v := ⟨_, rfl⟩
    rw [hlg]
    have HL2 := Lib.hid hlg
    clear hlg
    cases lg with
    | true =>
      obtain ⟨a0, a1, a2, a3, a4, a5, a6, a7, a8⟩ := HA.out.cells
      obtain ⟨b0, b1, -, -, -⟩ := HB.out
      go_wp2_with fail
      clear a0 a1 a2 a3 a4 a5 a6 a7 a8 b0 b1
      refine (bt_awake w2).mono ?_
      rintro e w3 ⟨rfl, hE⟩
      have HA2 := Lib.hid (HA.out.ext hE)
      have HB2 := Lib.hid (HB.out.ext hE)
      have HE2 := Lib.hid (Ext.trans HE.out hE)
      clear HA HB HE hE
      have HA := HA2
      clear HA2
      have HB := HB2
      clear HB2
      have HE := HE2
      clear HE2
      obtain ⟨a0, a1, a2, a3, a4, a5, a6, a7, a8⟩ := HA.out.cells
      obtain ⟨b0, b1, -, -, -⟩ := HB.out
      go_wp2_with fail
      go_ret
      exact ⟨rfl, HE.out⟩
    | false =>
      have HL2' : Hid ((⟨#[]⟩ : ByteArray).size ≤ 5000 ∧ m ≤ 50) := by
        have h1 := HL2.out
        simp only [Bool.or_eq_false_iff, decide_eq_false_iff_not] at h1
        unfold Hid
        omega
      clear HL2
      have HL2 := HL2'
      clear HL2'
      obtain ⟨a0, a1, a2, a3, a4, a5, a6, a7, a8⟩ := HA.out.cells
      obtain ⟨b0, b1, -, -, -⟩ := HB.out
      go_wp2_with fail
      clear a0 a1 a2 a3 a4 a5 a6 a7 a8 b0 b1
      refine (bt_awake w2).mono ?_
      rintro e w3 ⟨rfl, hE⟩
      have HA2 := Lib.hid (HA.out.ext hE)
      have HB2 := Lib.hid (HB.out.ext hE)
      have HE2 := Lib.hid (Ext.trans HE.out hE)
      clear HA HB HE hE
      have HA := HA2
      clear HA2
      have HB := HB2
      clear HB2
      have HE := HE2
      clear HE2
      obtain ⟨a0, a1, a2, a3, a4, a5, a6, a7, a8⟩ := HA.out.cells
      obtain ⟨b0, b1, -, -, -⟩ := HB.out
      go_wp2_with fail
      clear a0 a1 a2 a3 a4 a5 a6 a7 a8 b0 b1
      obtain ⟨F, f, hF1, hF2, hF4⟩ := unit_packr u
      have hf := bfmtunit_any u A n c w3 (H.out.below HE.out) (by have := HL1.out; omega)
      rw [hF1, hF2] at hf
      have HF4 := Lib.hid hF4
      clear hF1 hF2 hF4
      refine (hf).mono ?_
      rintro e w4 ⟨rfl, hE⟩
      have HA2 := Lib.hid (HA.out.ext hE)
      have HB2 := Lib.hid (HB.out.ext hE)
      have HE2 := Lib.hid (Ext.trans HE.out hE)
      clear HA HB HE hE
      have HA := HA2
      clear HA2
      have HB := HB2
      clear HB2
      have HE := HE2
      clear HE2
      clear hf
      obtain ⟨a0, a1, a2, a3, a4, a5, a6, a7, a8⟩ := HA.out.cells
      obtain ⟨b0, b1, -, -, -⟩ := HB.out
      go_wp2_with fail
      clear a0 a1 a2 a3 a4 a5 a6 a7 a8 b0 b1
      obtain ⟨Y, e, hY1, hY2, hY4⟩ := bid_packr b xs
      have hf := bfmtbid_any b xs B m d w4 (H'.out.below HE.out) (by have := HL2.out; omega)
      rw [hY1, hY2] at hf
      have HY4 := Lib.hid hY4
      clear hY1 hY2 hY4
      refine (hf).mono ?_
      rintro e w5 ⟨rfl, hE⟩
      have HA2 := Lib.hid (HA.out.ext hE)
      have HB2 := Lib.hid (HB.out.ext hE)
      have HE2 := Lib.hid (Ext.trans HE.out hE)
      clear HA HB HE hE
      have HA := HA2
      clear HA2
      have HB := HB2
      clear HB2
      have HE := HE2
      clear HE2
      clear hf
      by_cases hc : f = 0
      · subst hc
        by_cases hf0 : e = 0
        · subst hf0
          obtain ⟨a0, a1, a2, a3, a4, a5, a6, a7, a8⟩ := HA.out.cells
          obtain ⟨b0, b1, -, -, -⟩ := HB.out
          go_wp2_with fail
          clear a0 a1 a2 a3 a4 a5 a6 a7 a8 b0 b1
          have hf := ucheck_any u 6 A n c w5 (H.out.below HE.out) (by have := HL1.out; unfold maxLen; omega)
          rw [HF4.out.1] at hf
          refine (hf).mono ?_
          rintro e w6 ⟨rfl, hE⟩
          have HA2 := Lib.hid (HA.out.ext hE)
          have HB2 := Lib.hid (HB.out.ext hE)
          have HE2 := Lib.hid (Ext.trans HE.out hE)
          clear HA HB HE hE
          have HA := HA2
          clear HA2
          have HB := HB2
          clear HB2
          have HE := HE2
          clear HE2
          clear hf
          obtain ⟨a0, a1, a2, a3, a4, a5, a6, a7, a8⟩ := HA.out.cells
          obtain ⟨b0, b1, -, -, -⟩ := HB.out
          go_wp2_with fail
          clear a0 a1 a2 a3 a4 a5 a6 a7 a8 b0 b1
          refine (bt_unit F 0 u A n c (F.size : Int) 0 w6 (HF4.out.2.2 (by first | rfl | trivial)).2 (H.out.below HE.out) (by have := (HF4.out.2.2 (by first | rfl | trivial)).1; unfold maxLen; omega) (by have := HL1.out; omega)).mono ?_
          rintro e w7 ⟨rfl, hE⟩
          have HA2 := Lib.hid (HA.out.ext hE)
          have HB2 := Lib.hid (HB.out.ext hE)
          have HE2 := Lib.hid (Ext.trans HE.out hE)
          clear HA HB HE hE
          have HA := HA2
          clear HA2
          have HB := HB2
          clear HB2
          have HE := HE2
          clear HE2
          obtain ⟨a0, a1, a2, a3, a4, a5, a6, a7, a8⟩ := HA.out.cells
          obtain ⟨b0, b1, -, -, -⟩ := HB.out
          go_wp2_with fail
          clear a0 a1 a2 a3 a4 a5 a6 a7 a8 b0 b1
          refine (bt_bid Y 0 b xs B m d (Y.size : Int) 0 w7 (HY4.out.2.2 (by first | rfl | trivial)).2 (H'.out.below HE.out) (by have := (HY4.out.2.2 (by first | rfl | trivial)).1; unfold maxLen; omega) (by have := HL2.out; omega)).mono ?_
          rintro e w8 ⟨rfl, hE⟩
          have HA2 := Lib.hid (HA.out.ext hE)
          have HB2 := Lib.hid (HB.out.ext hE)
          have HE2 := Lib.hid (Ext.trans HE.out hE)
          clear HA HB HE hE
          have HA := HA2
          clear HA2
          have HB := HB2
          clear HB2
          have HE := HE2
          clear HE2
          obtain ⟨a0, a1, a2, a3, a4, a5, a6, a7, a8⟩ := HA.out.cells
          obtain ⟨b0, b1, -, -, -⟩ := HB.out
          go_wp2_with fail
          clear a0 a1 a2 a3 a4 a5 a6 a7 a8 b0 b1
          obtain ⟨NX, hNX⟩ : ∃ x, unitR S.data.toList k = x := ⟨_, rfl⟩
          have hf := parseunit_any S k w8 HS.out
          have hok := @unit_ok S.data.toList k
          rw [hNX] at hf hok
          clear hNX
          obtain ⟨mu, p, g⟩ := NX
          simp only at hok
          have HOKN := Lib.hid hok
          clear hok
          refine hf.mono ?_
          clear hf
          rintro e w9 ⟨MA, mc, rfl, hLM, hE⟩
          simp only at hLM ⊢
          obtain ⟨mn, hmn⟩ : ∃ x, mu.steps.length = x := ⟨_, rfl⟩
          rw [hmn] at hLM ⊢
          have HMN := Lib.hid hmn
          clear hmn
          have HA2 := Lib.hid (HA.out.ext hE)
          have HB2 := Lib.hid (HB.out.ext hE)
          have HE2 := Lib.hid (Ext.trans HE.out hE)
          clear HA HB HE hE
          have HA := HA2
          clear HA2
          have HB := HB2
          clear HB2
          have HE := HE2
          clear HE2
          have hC := UBk.new w9 mu MA mn mc
          have hE : Ext w9 (w9.alloc (.cells #[.int .i64 mu.bus, .int .i64 mu.mn, .slice MA mn mc, .int .i64 mu.up, .int .i64 mu.down, .int .i64 mu.start, .int .i64 mu.idle, .int .i64 mu.spin, .int .i64 mu.on] 30)) := Ext.al Ext.rfl' _
          have HLM := Lib.hid (hLM.below hE)
          clear hLM
          have HA2 := Lib.hid (HA.out.ext hE)
          have HB2 := Lib.hid (HB.out.ext hE)
          have HE2 := Lib.hid (Ext.trans HE.out hE)
          clear HA HB HE hE
          have HA := HA2
          clear HA2
          have HB := HB2
          clear HB2
          have HE := HE2
          clear HE2
          have HC := Lib.hid hC
          clear hC
          by_cases hg : g = 0
          · subst hg
            obtain ⟨hm0, hp1, hp2⟩ := HOKN.out.1 rfl
            have r1 : decide (p ≤ k) = false := decide_eq_false (by omega)
            have r2 : decide ((S.size : Int) < p) = false := decide_eq_false (by rw [← size_list]; omega)
            have HM0 := Lib.hid hm0
            have HMLE : Hid (mn ≤ 10) := by have := (unit_zs hm0).2.2; have := HMN.out; unfold Hid; omega
            clear hm0 hp1 hp2
            obtain ⟨a0, a1, a2, a3, a4, a5, a6, a7, a8⟩ := HA.out.cells
            obtain ⟨b0, b1, -, -, -⟩ := HB.out
            obtain ⟨c0, c1, c2, c3, c4, c5, c6, c7, c8⟩ := HC.out.cells
            go_wp2_with fail
            clear a0 a1 a2 a3 a4 a5 a6 a7 a8 b0 b1 c0 c1 c2 c3 c4 c5 c6 c7 c8
            obtain ⟨Z0, f3, hZ1, hZ2, hZ3, hZ4, hZ5⟩ := unit_packr mu
            obtain rfl : f3 = 0 := by rw [← hZ3]; exact HM0.out
            have hf := bfmtunit_any mu MA mn mc (w9.alloc (.cells #[.int .i64 mu.bus, .int .i64 mu.mn, .slice MA mn mc, .int .i64 mu.up, .int .i64 mu.down, .int .i64 mu.start, .int .i64 mu.idle, .int .i64 mu.spin, .int .i64 mu.on] 30)) HLM.out (by have := HMLE.out; omega)
            rw [hZ1, hZ2] at hf
            have HZ0 := Lib.hid (hZ5 rfl)
            clear hZ1 hZ2 hZ3 hZ4 hZ5
            have HLM2 := HLM
            refine hf.mono ?_
            clear hf
            rintro e w10 ⟨rfl, hE⟩
            have HLM := Lib.hid (HLM2.out.below hE)
            clear HLM2
            have HA2 := Lib.hid (HA.out.ext hE)
            have HB2 := Lib.hid (HB.out.ext hE)
            have HC2 := Lib.hid (HC.out.ext hE)
            have HE2 := Lib.hid (Ext.trans HE.out hE)
            clear HA HB HC HE hE
            have HA := HA2
            clear HA2
            have HB := HB2
            clear HB2
            have HC := HC2
            clear HC2
            have HE := HE2
            clear HE2
            obtain ⟨a0, a1, a2, a3, a4, a5, a6, a7, a8⟩ := HA.out.cells
            obtain ⟨b0, b1, -, -, -⟩ := HB.out
            obtain ⟨c0, c1, c2, c3, c4, c5, c6, c7, c8⟩ := HC.out.cells
            go_wp2_with fail
            clear a0 a1 a2 a3 a4 a5 a6 a7 a8 b0 b1 c0 c1 c2 c3 c4 c5 c6 c7 c8
            refine (bt_unit Z0 0 mu MA mn mc (Z0.size : Int) 0 w10 HZ0.out.2 HLM.out (by have := HZ0.out.1; unfold maxLen; omega) (by have := HMLE.out; omega)).mono ?_
            rintro e w11 ⟨rfl, hE⟩
            have HA2 := Lib.hid (HA.out.ext hE)
            have HB2 := Lib.hid (HB.out.ext hE)
            have HC2 := Lib.hid (HC.out.ext hE)
            have HE2 := Lib.hid (Ext.trans HE.out hE)
            clear HA HB HC HE hE
            have HA := HA2
            clear HA2
            have HB := HB2
            clear HB2
            have HC := HC2
            clear HC2
            have HE := HE2
            clear HE2
            clear r1 r2
            obtain ⟨a0, a1, a2, a3, a4, a5, a6, a7, a8⟩ := HA.out.cells
            obtain ⟨b0, b1, -, -, -⟩ := HB.out
            obtain ⟨c0, c1, c2, c3, c4, c5, c6, c7, c8⟩ := HC.out.cells
            go_wp2_with fail
            clear a0 a1 a2 a3 a4 a5 a6 a7 a8 b0 b1 c0 c1 c2 c3 c4 c5 c6 c7 c8
            obtain ⟨OX, hOX⟩ : ∃ x, bidR S.data.toList k = x := ⟨_, rfl⟩
            have hf := parsebid_any S k w11 HS.out
            have hok := @bid_ok S.data.toList k
            rw [hOX] at hf hok
            clear hOX
            obtain ⟨lb, lx, q, ie⟩ := OX
            simp only at hok
            have HOK := Lib.hid hok
            clear hok
            refine hf.mono ?_
            clear hf
            rintro e w12 ⟨LA, lc, rfl, hLM, hE⟩
            simp only at hLM ⊢
            obtain ⟨ln, hln⟩ : ∃ x, lx.length = x := ⟨_, rfl⟩
            rw [hln] at hLM ⊢
            have HLN := Lib.hid hln
            clear hln
            have HA2 := Lib.hid (HA.out.ext hE)
            have HB2 := Lib.hid (HB.out.ext hE)
            have HC2 := Lib.hid (HC.out.ext hE)
            have HE2 := Lib.hid (Ext.trans HE.out hE)
            clear HA HB HC HE hE
            have HA := HA2
            clear HA2
            have HB := HB2
            clear HB2
            have HC := HC2
            clear HC2
            have HE := HE2
            clear HE2
            have hD := Cell2.new w12 _ rfl (.int .i64 lb) (.slice LA ln lc) 33
            have hE : Ext w12 (w12.alloc (.cells #[.int .i64 lb, .slice LA ln lc] 33)) := Ext.al Ext.rfl' _
            have HLX := Lib.hid (hLM.below hE)
            clear hLM
            have HA2 := Lib.hid (HA.out.ext hE)
            have HB2 := Lib.hid (HB.out.ext hE)
            have HC2 := Lib.hid (HC.out.ext hE)
            have HE2 := Lib.hid (Ext.trans HE.out hE)
            clear HA HB HC HE hE
            have HA := HA2
            clear HA2
            have HB := HB2
            clear HB2
            have HC := HC2
            clear HC2
            have HE := HE2
            clear HE2
            have HD := Lib.hid hD
            clear hD
            by_cases hi : ie = 0
            · subst hi
              obtain ⟨hk0, hq1, hq2⟩ := HOK.out.1 rfl
              have r1 : decide (k < q) = true := decide_eq_true hq1
              have r2 : decide (q ≤ (S.size : Int)) = true := decide_eq_true (by rw [← size_list]; exact hq2)
              have HK0 := Lib.hid hk0
              have HLNE : Hid (ln ≤ 10) := by have := (bid_zs hk0).2.2; have := HLN.out; unfold Hid; omega
              clear hq1 hq2 hk0
              obtain ⟨a0, a1, a2, a3, a4, a5, a6, a7, a8⟩ := HA.out.cells
              obtain ⟨b0, b1, -, -, -⟩ := HB.out
              obtain ⟨c0, c1, c2, c3, c4, c5, c6, c7, c8⟩ := HC.out.cells
              obtain ⟨d0, d1, -, -, -⟩ := HD.out
              go_wp2_with fail
              clear a0 a1 a2 a3 a4 a5 a6 a7 a8 b0 b1 c0 c1 c2 c3 c4 c5 c6 c7 c8 d0 d1
              obtain ⟨Z, f3, hZ1, hZ2, hZ3, hZ4, hZ5⟩ := bid_packr lb lx
              obtain rfl : f3 = 0 := by rw [← hZ3]; exact HK0.out
              have hf := bfmtbid_any lb lx LA ln lc (w12.alloc (.cells #[.int .i64 lb, .slice LA ln lc] 33)) HLX.out (by have := HLNE.out; omega)
              rw [hZ1, hZ2] at hf
              have HZ5 := Lib.hid (hZ5 rfl)
              clear hZ1 hZ2 hZ3 hZ4 hZ5
              have HLX2 := HLX
              refine hf.mono ?_
              clear hf
              rintro e w13 ⟨rfl, hE⟩
              have HLX := Lib.hid (HLX2.out.below hE)
              clear HLX2
              have HA2 := Lib.hid (HA.out.ext hE)
              have HB2 := Lib.hid (HB.out.ext hE)
              have HC2 := Lib.hid (HC.out.ext hE)
              have HD2 := Lib.hid (HD.out.ext hE)
              have HE2 := Lib.hid (Ext.trans HE.out hE)
              clear HA HB HC HD HE hE
              have HA := HA2
              clear HA2
              have HB := HB2
              clear HB2
              have HC := HC2
              clear HC2
              have HD := HD2
              clear HD2
              have HE := HE2
              clear HE2
              obtain ⟨a0, a1, a2, a3, a4, a5, a6, a7, a8⟩ := HA.out.cells
              obtain ⟨b0, b1, -, -, -⟩ := HB.out
              obtain ⟨c0, c1, c2, c3, c4, c5, c6, c7, c8⟩ := HC.out.cells
              obtain ⟨d0, d1, -, -, -⟩ := HD.out
              go_wp2_with fail
              clear a0 a1 a2 a3 a4 a5 a6 a7 a8 b0 b1 c0 c1 c2 c3 c4 c5 c6 c7 c8 d0 d1
              refine (bt_bid Z 0 lb lx LA ln lc (Z.size : Int) 0 w13 HZ5.out.2 HLX.out (by have := HZ5.out.1; unfold maxLen; omega) (by have := HLNE.out; omega)).mono ?_
              rintro e w14 ⟨rfl, hE⟩
              have HA2 := Lib.hid (HA.out.ext hE)
              have HB2 := Lib.hid (HB.out.ext hE)
              have HC2 := Lib.hid (HC.out.ext hE)
              have HD2 := Lib.hid (HD.out.ext hE)
              have HE2 := Lib.hid (Ext.trans HE.out hE)
              clear HA HB HC HD HE hE
              have HA := HA2
              clear HA2
              have HB := HB2
              clear HB2
              have HC := HC2
              clear HC2
              have HD := HD2
              clear HD2
              have HE := HE2
              clear HE2
              obtain ⟨a0, a1, a2, a3, a4, a5, a6, a7, a8⟩ := HA.out.cells
              obtain ⟨b0, b1, -, -, -⟩ := HB.out
              obtain ⟨c0, c1, c2, c3, c4, c5, c6, c7, c8⟩ := HC.out.cells
              obtain ⟨d0, d1, -, -, -⟩ := HD.out
              go_wp2_with fail
              go_ret
              exact ⟨rfl, HE.out⟩
            · have hq := HOK.out.2 hi
              subst hq
              have i1 : (ie != 0) = true := by simp [hi]
              have i2 : (ie == 0) = false := by simp [hi]
              clear hi
              obtain ⟨a0, a1, a2, a3, a4, a5, a6, a7, a8⟩ := HA.out.cells
              obtain ⟨b0, b1, -, -, -⟩ := HB.out
              obtain ⟨c0, c1, c2, c3, c4, c5, c6, c7, c8⟩ := HC.out.cells
              obtain ⟨d0, d1, -, -, -⟩ := HD.out
              go_wp2_with fail
              go_ret
              exact ⟨rfl, HE.out⟩
          · have g1 : (g == 0) = false := by simp [hg]
            have g2 : (g != 0) = true := by simp [hg]
            clear hg
            obtain ⟨a0, a1, a2, a3, a4, a5, a6, a7, a8⟩ := HA.out.cells
            obtain ⟨b0, b1, -, -, -⟩ := HB.out
            obtain ⟨c0, c1, c2, c3, c4, c5, c6, c7, c8⟩ := HC.out.cells
            go_wp2_with fail
            clear a0 a1 a2 a3 a4 a5 a6 a7 a8 b0 b1 c0 c1 c2 c3 c4 c5 c6 c7 c8
            obtain ⟨OX, hOX⟩ : ∃ x, bidR S.data.toList k = x := ⟨_, rfl⟩
            have hf := parsebid_any S k (w9.alloc (.cells #[.int .i64 mu.bus, .int .i64 mu.mn, .slice MA mn mc, .int .i64 mu.up, .int .i64 mu.down, .int .i64 mu.start, .int .i64 mu.idle, .int .i64 mu.spin, .int .i64 mu.on] 30)) HS.out
            have hok := @bid_ok S.data.toList k
            rw [hOX] at hf hok
            clear hOX
            obtain ⟨lb, lx, q, ie⟩ := OX
            simp only at hok
            have HOK := Lib.hid hok
            clear hok
            refine hf.mono ?_
            clear hf
            rintro e w10 ⟨LA, lc, rfl, hLM, hE⟩
            simp only at hLM ⊢
            obtain ⟨ln, hln⟩ : ∃ x, lx.length = x := ⟨_, rfl⟩
            rw [hln] at hLM ⊢
            have HLN := Lib.hid hln
            clear hln
            have HA2 := Lib.hid (HA.out.ext hE)
            have HB2 := Lib.hid (HB.out.ext hE)
            have HC2 := Lib.hid (HC.out.ext hE)
            have HE2 := Lib.hid (Ext.trans HE.out hE)
            clear HA HB HC HE hE
            have HA := HA2
            clear HA2
            have HB := HB2
            clear HB2
            have HC := HC2
            clear HC2
            have HE := HE2
            clear HE2
            have hD := Cell2.new w10 _ rfl (.int .i64 lb) (.slice LA ln lc) 33
            have hE : Ext w10 (w10.alloc (.cells #[.int .i64 lb, .slice LA ln lc] 33)) := Ext.al Ext.rfl' _
            have HLX := Lib.hid (hLM.below hE)
            clear hLM
            have HA2 := Lib.hid (HA.out.ext hE)
            have HB2 := Lib.hid (HB.out.ext hE)
            have HC2 := Lib.hid (HC.out.ext hE)
            have HE2 := Lib.hid (Ext.trans HE.out hE)
            clear HA HB HC HE hE
            have HA := HA2
            clear HA2
            have HB := HB2
            clear HB2
            have HC := HC2
            clear HC2
            have HE := HE2
            clear HE2
            have HD := Lib.hid hD
            clear hD
            by_cases hi : ie = 0
            · subst hi
              obtain ⟨hk0, hq1, hq2⟩ := HOK.out.1 rfl
              have r1 : decide (k < q) = true := decide_eq_true hq1
              have r2 : decide (q ≤ (S.size : Int)) = true := decide_eq_true (by rw [← size_list]; exact hq2)
              have HK0 := Lib.hid hk0
              have HLNE : Hid (ln ≤ 10) := by have := (bid_zs hk0).2.2; have := HLN.out; unfold Hid; omega
              clear hq1 hq2 hk0
              obtain ⟨a0, a1, a2, a3, a4, a5, a6, a7, a8⟩ := HA.out.cells
              obtain ⟨b0, b1, -, -, -⟩ := HB.out
              obtain ⟨c0, c1, c2, c3, c4, c5, c6, c7, c8⟩ := HC.out.cells
              obtain ⟨d0, d1, -, -, -⟩ := HD.out
              go_wp2_with fail
              clear a0 a1 a2 a3 a4 a5 a6 a7 a8 b0 b1 c0 c1 c2 c3 c4 c5 c6 c7 c8 d0 d1
              obtain ⟨Z, f3, hZ1, hZ2, hZ3, hZ4, hZ5⟩ := bid_packr lb lx
              obtain rfl : f3 = 0 := by rw [← hZ3]; exact HK0.out
              have hf := bfmtbid_any lb lx LA ln lc (w10.alloc (.cells #[.int .i64 lb, .slice LA ln lc] 33)) HLX.out (by have := HLNE.out; omega)
              rw [hZ1, hZ2] at hf
              have HZ5 := Lib.hid (hZ5 rfl)
              clear hZ1 hZ2 hZ3 hZ4 hZ5
              have HLX2 := HLX
              refine hf.mono ?_
              clear hf
              rintro e w11 ⟨rfl, hE⟩
              have HLX := Lib.hid (HLX2.out.below hE)
              clear HLX2
              have HA2 := Lib.hid (HA.out.ext hE)
              have HB2 := Lib.hid (HB.out.ext hE)
              have HC2 := Lib.hid (HC.out.ext hE)
              have HD2 := Lib.hid (HD.out.ext hE)
              have HE2 := Lib.hid (Ext.trans HE.out hE)
              clear HA HB HC HD HE hE
              have HA := HA2
              clear HA2
              have HB := HB2
              clear HB2
              have HC := HC2
              clear HC2
              have HD := HD2
              clear HD2
              have HE := HE2
              clear HE2
              obtain ⟨a0, a1, a2, a3, a4, a5, a6, a7, a8⟩ := HA.out.cells
              obtain ⟨b0, b1, -, -, -⟩ := HB.out
              obtain ⟨c0, c1, c2, c3, c4, c5, c6, c7, c8⟩ := HC.out.cells
              obtain ⟨d0, d1, -, -, -⟩ := HD.out
              go_wp2_with fail
              clear a0 a1 a2 a3 a4 a5 a6 a7 a8 b0 b1 c0 c1 c2 c3 c4 c5 c6 c7 c8 d0 d1
              refine (bt_bid Z 0 lb lx LA ln lc (Z.size : Int) 0 w11 HZ5.out.2 HLX.out (by have := HZ5.out.1; unfold maxLen; omega) (by have := HLNE.out; omega)).mono ?_
              rintro e w12 ⟨rfl, hE⟩
              have HA2 := Lib.hid (HA.out.ext hE)
              have HB2 := Lib.hid (HB.out.ext hE)
              have HC2 := Lib.hid (HC.out.ext hE)
              have HD2 := Lib.hid (HD.out.ext hE)
              have HE2 := Lib.hid (Ext.trans HE.out hE)
              clear HA HB HC HD HE hE
              have HA := HA2
              clear HA2
              have HB := HB2
              clear HB2
              have HC := HC2
              clear HC2
              have HD := HD2
              clear HD2
              have HE := HE2
              clear HE2
              obtain ⟨a0, a1, a2, a3, a4, a5, a6, a7, a8⟩ := HA.out.cells
              obtain ⟨b0, b1, -, -, -⟩ := HB.out
              obtain ⟨c0, c1, c2, c3, c4, c5, c6, c7, c8⟩ := HC.out.cells
              obtain ⟨d0, d1, -, -, -⟩ := HD.out
              go_wp2_with fail
              go_ret
              exact ⟨rfl, HE.out⟩
            · have hq := HOK.out.2 hi
              subst hq
              have i1 : (ie != 0) = true := by simp [hi]
              have i2 : (ie == 0) = false := by simp [hi]
              clear hi
              obtain ⟨a0, a1, a2, a3, a4, a5, a6, a7, a8⟩ := HA.out.cells
              obtain ⟨b0, b1, -, -, -⟩ := HB.out
              obtain ⟨c0, c1, c2, c3, c4, c5, c6, c7, c8⟩ := HC.out.cells
              obtain ⟨d0, d1, -, -, -⟩ := HD.out
              go_wp2_with fail
              go_ret
              exact ⟨rfl, HE.out⟩
        · have f1 : (e == 0) = false := by simp [hf0]
          have f2 : (e != 0) = true := by simp [hf0]
          obtain rfl := HY4.out.2.1 hf0
          clear hf0
          obtain ⟨a0, a1, a2, a3, a4, a5, a6, a7, a8⟩ := HA.out.cells
          obtain ⟨b0, b1, -, -, -⟩ := HB.out
          go_wp2_with fail
          clear a0 a1 a2 a3 a4 a5 a6 a7 a8 b0 b1
          have hf := ucheck_any u 6 A n c w5 (H.out.below HE.out) (by have := HL1.out; unfold maxLen; omega)
          rw [HF4.out.1] at hf
          refine (hf).mono ?_
          rintro e w6 ⟨rfl, hE⟩
          have HA2 := Lib.hid (HA.out.ext hE)
          have HB2 := Lib.hid (HB.out.ext hE)
          have HE2 := Lib.hid (Ext.trans HE.out hE)
          clear HA HB HE hE
          have HA := HA2
          clear HA2
          have HB := HB2
          clear HB2
          have HE := HE2
          clear HE2
          clear hf
          obtain ⟨a0, a1, a2, a3, a4, a5, a6, a7, a8⟩ := HA.out.cells
          obtain ⟨b0, b1, -, -, -⟩ := HB.out
          go_wp2_with fail
          clear a0 a1 a2 a3 a4 a5 a6 a7 a8 b0 b1
          refine (bt_unit F 0 u A n c (F.size : Int) 0 w6 (HF4.out.2.2 (by first | rfl | trivial)).2 (H.out.below HE.out) (by have := (HF4.out.2.2 (by first | rfl | trivial)).1; unfold maxLen; omega) (by have := HL1.out; omega)).mono ?_
          rintro e w7 ⟨rfl, hE⟩
          have HA2 := Lib.hid (HA.out.ext hE)
          have HB2 := Lib.hid (HB.out.ext hE)
          have HE2 := Lib.hid (Ext.trans HE.out hE)
          clear HA HB HE hE
          have HA := HA2
          clear HA2
          have HB := HB2
          clear HB2
          have HE := HE2
          clear HE2
          obtain ⟨a0, a1, a2, a3, a4, a5, a6, a7, a8⟩ := HA.out.cells
          obtain ⟨b0, b1, -, -, -⟩ := HB.out
          go_wp2_with fail
          clear a0 a1 a2 a3 a4 a5 a6 a7 a8 b0 b1
          obtain ⟨NX, hNX⟩ : ∃ x, unitR S.data.toList k = x := ⟨_, rfl⟩
          have hf := parseunit_any S k w7 HS.out
          have hok := @unit_ok S.data.toList k
          rw [hNX] at hf hok
          clear hNX
          obtain ⟨mu, p, g⟩ := NX
          simp only at hok
          have HOKN := Lib.hid hok
          clear hok
          refine hf.mono ?_
          clear hf
          rintro e w8 ⟨MA, mc, rfl, hLM, hE⟩
          simp only at hLM ⊢
          obtain ⟨mn, hmn⟩ : ∃ x, mu.steps.length = x := ⟨_, rfl⟩
          rw [hmn] at hLM ⊢
          have HMN := Lib.hid hmn
          clear hmn
          have HA2 := Lib.hid (HA.out.ext hE)
          have HB2 := Lib.hid (HB.out.ext hE)
          have HE2 := Lib.hid (Ext.trans HE.out hE)
          clear HA HB HE hE
          have HA := HA2
          clear HA2
          have HB := HB2
          clear HB2
          have HE := HE2
          clear HE2
          have hC := UBk.new w8 mu MA mn mc
          have hE : Ext w8 (w8.alloc (.cells #[.int .i64 mu.bus, .int .i64 mu.mn, .slice MA mn mc, .int .i64 mu.up, .int .i64 mu.down, .int .i64 mu.start, .int .i64 mu.idle, .int .i64 mu.spin, .int .i64 mu.on] 30)) := Ext.al Ext.rfl' _
          have HLM := Lib.hid (hLM.below hE)
          clear hLM
          have HA2 := Lib.hid (HA.out.ext hE)
          have HB2 := Lib.hid (HB.out.ext hE)
          have HE2 := Lib.hid (Ext.trans HE.out hE)
          clear HA HB HE hE
          have HA := HA2
          clear HA2
          have HB := HB2
          clear HB2
          have HE := HE2
          clear HE2
          have HC := Lib.hid hC
          clear hC
          by_cases hg : g = 0
          · subst hg
            obtain ⟨hm0, hp1, hp2⟩ := HOKN.out.1 rfl
            have r1 : decide (p ≤ k) = false := decide_eq_false (by omega)
            have r2 : decide ((S.size : Int) < p) = false := decide_eq_false (by rw [← size_list]; omega)
            have HM0 := Lib.hid hm0
            have HMLE : Hid (mn ≤ 10) := by have := (unit_zs hm0).2.2; have := HMN.out; unfold Hid; omega
            clear hm0 hp1 hp2
            obtain ⟨a0, a1, a2, a3, a4, a5, a6, a7, a8⟩ := HA.out.cells
            obtain ⟨b0, b1, -, -, -⟩ := HB.out
            obtain ⟨c0, c1, c2, c3, c4, c5, c6, c7, c8⟩ := HC.out.cells
            go_wp2_with fail
            clear a0 a1 a2 a3 a4 a5 a6 a7 a8 b0 b1 c0 c1 c2 c3 c4 c5 c6 c7 c8
            obtain ⟨Z0, f3, hZ1, hZ2, hZ3, hZ4, hZ5⟩ := unit_packr mu
            obtain rfl : f3 = 0 := by rw [← hZ3]; exact HM0.out
            have hf := bfmtunit_any mu MA mn mc (w8.alloc (.cells #[.int .i64 mu.bus, .int .i64 mu.mn, .slice MA mn mc, .int .i64 mu.up, .int .i64 mu.down, .int .i64 mu.start, .int .i64 mu.idle, .int .i64 mu.spin, .int .i64 mu.on] 30)) HLM.out (by have := HMLE.out; omega)
            rw [hZ1, hZ2] at hf
            have HZ0 := Lib.hid (hZ5 rfl)
            clear hZ1 hZ2 hZ3 hZ4 hZ5
            have HLM2 := HLM
            refine hf.mono ?_
            clear hf
            rintro e w9 ⟨rfl, hE⟩
            have HLM := Lib.hid (HLM2.out.below hE)
            clear HLM2
            have HA2 := Lib.hid (HA.out.ext hE)
            have HB2 := Lib.hid (HB.out.ext hE)
            have HC2 := Lib.hid (HC.out.ext hE)
            have HE2 := Lib.hid (Ext.trans HE.out hE)
            clear HA HB HC HE hE
            have HA := HA2
            clear HA2
            have HB := HB2
            clear HB2
            have HC := HC2
            clear HC2
            have HE := HE2
            clear HE2
            obtain ⟨a0, a1, a2, a3, a4, a5, a6, a7, a8⟩ := HA.out.cells
            obtain ⟨b0, b1, -, -, -⟩ := HB.out
            obtain ⟨c0, c1, c2, c3, c4, c5, c6, c7, c8⟩ := HC.out.cells
            go_wp2_with fail
            clear a0 a1 a2 a3 a4 a5 a6 a7 a8 b0 b1 c0 c1 c2 c3 c4 c5 c6 c7 c8
            refine (bt_unit Z0 0 mu MA mn mc (Z0.size : Int) 0 w9 HZ0.out.2 HLM.out (by have := HZ0.out.1; unfold maxLen; omega) (by have := HMLE.out; omega)).mono ?_
            rintro e w10 ⟨rfl, hE⟩
            have HA2 := Lib.hid (HA.out.ext hE)
            have HB2 := Lib.hid (HB.out.ext hE)
            have HC2 := Lib.hid (HC.out.ext hE)
            have HE2 := Lib.hid (Ext.trans HE.out hE)
            clear HA HB HC HE hE
            have HA := HA2
            clear HA2
            have HB := HB2
            clear HB2
            have HC := HC2
            clear HC2
            have HE := HE2
            clear HE2
            clear r1 r2
            obtain ⟨a0, a1, a2, a3, a4, a5, a6, a7, a8⟩ := HA.out.cells
            obtain ⟨b0, b1, -, -, -⟩ := HB.out
            obtain ⟨c0, c1, c2, c3, c4, c5, c6, c7, c8⟩ := HC.out.cells
            go_wp2_with fail
            clear a0 a1 a2 a3 a4 a5 a6 a7 a8 b0 b1 c0 c1 c2 c3 c4 c5 c6 c7 c8
            obtain ⟨OX, hOX⟩ : ∃ x, bidR S.data.toList k = x := ⟨_, rfl⟩
            have hf := parsebid_any S k w10 HS.out
            have hok := @bid_ok S.data.toList k
            rw [hOX] at hf hok
            clear hOX
            obtain ⟨lb, lx, q, ie⟩ := OX
            simp only at hok
            have HOK := Lib.hid hok
            clear hok
            refine hf.mono ?_
            clear hf
            rintro e w11 ⟨LA, lc, rfl, hLM, hE⟩
            simp only at hLM ⊢
            obtain ⟨ln, hln⟩ : ∃ x, lx.length = x := ⟨_, rfl⟩
            rw [hln] at hLM ⊢
            have HLN := Lib.hid hln
            clear hln
            have HA2 := Lib.hid (HA.out.ext hE)
            have HB2 := Lib.hid (HB.out.ext hE)
            have HC2 := Lib.hid (HC.out.ext hE)
            have HE2 := Lib.hid (Ext.trans HE.out hE)
            clear HA HB HC HE hE
            have HA := HA2
            clear HA2
            have HB := HB2
            clear HB2
            have HC := HC2
            clear HC2
            have HE := HE2
            clear HE2
            have hD := Cell2.new w11 _ rfl (.int .i64 lb) (.slice LA ln lc) 33
            have hE : Ext w11 (w11.alloc (.cells #[.int .i64 lb, .slice LA ln lc] 33)) := Ext.al Ext.rfl' _
            have HLX := Lib.hid (hLM.below hE)
            clear hLM
            have HA2 := Lib.hid (HA.out.ext hE)
            have HB2 := Lib.hid (HB.out.ext hE)
            have HC2 := Lib.hid (HC.out.ext hE)
            have HE2 := Lib.hid (Ext.trans HE.out hE)
            clear HA HB HC HE hE
            have HA := HA2
            clear HA2
            have HB := HB2
            clear HB2
            have HC := HC2
            clear HC2
            have HE := HE2
            clear HE2
            have HD := Lib.hid hD
            clear hD
            by_cases hi : ie = 0
            · subst hi
              obtain ⟨hk0, hq1, hq2⟩ := HOK.out.1 rfl
              have r1 : decide (k < q) = true := decide_eq_true hq1
              have r2 : decide (q ≤ (S.size : Int)) = true := decide_eq_true (by rw [← size_list]; exact hq2)
              have HK0 := Lib.hid hk0
              have HLNE : Hid (ln ≤ 10) := by have := (bid_zs hk0).2.2; have := HLN.out; unfold Hid; omega
              clear hq1 hq2 hk0
              obtain ⟨a0, a1, a2, a3, a4, a5, a6, a7, a8⟩ := HA.out.cells
              obtain ⟨b0, b1, -, -, -⟩ := HB.out
              obtain ⟨c0, c1, c2, c3, c4, c5, c6, c7, c8⟩ := HC.out.cells
              obtain ⟨d0, d1, -, -, -⟩ := HD.out
              go_wp2_with fail
              clear a0 a1 a2 a3 a4 a5 a6 a7 a8 b0 b1 c0 c1 c2 c3 c4 c5 c6 c7 c8 d0 d1
              obtain ⟨Z, f3, hZ1, hZ2, hZ3, hZ4, hZ5⟩ := bid_packr lb lx
              obtain rfl : f3 = 0 := by rw [← hZ3]; exact HK0.out
              have hf := bfmtbid_any lb lx LA ln lc (w11.alloc (.cells #[.int .i64 lb, .slice LA ln lc] 33)) HLX.out (by have := HLNE.out; omega)
              rw [hZ1, hZ2] at hf
              have HZ5 := Lib.hid (hZ5 rfl)
              clear hZ1 hZ2 hZ3 hZ4 hZ5
              have HLX2 := HLX
              refine hf.mono ?_
              clear hf
              rintro e w12 ⟨rfl, hE⟩
              have HLX := Lib.hid (HLX2.out.below hE)
              clear HLX2
              have HA2 := Lib.hid (HA.out.ext hE)
              have HB2 := Lib.hid (HB.out.ext hE)
              have HC2 := Lib.hid (HC.out.ext hE)
              have HD2 := Lib.hid (HD.out.ext hE)
              have HE2 := Lib.hid (Ext.trans HE.out hE)
              clear HA HB HC HD HE hE
              have HA := HA2
              clear HA2
              have HB := HB2
              clear HB2
              have HC := HC2
              clear HC2
              have HD := HD2
              clear HD2
              have HE := HE2
              clear HE2
              obtain ⟨a0, a1, a2, a3, a4, a5, a6, a7, a8⟩ := HA.out.cells
              obtain ⟨b0, b1, -, -, -⟩ := HB.out
              obtain ⟨c0, c1, c2, c3, c4, c5, c6, c7, c8⟩ := HC.out.cells
              obtain ⟨d0, d1, -, -, -⟩ := HD.out
              go_wp2_with fail
              clear a0 a1 a2 a3 a4 a5 a6 a7 a8 b0 b1 c0 c1 c2 c3 c4 c5 c6 c7 c8 d0 d1
              refine (bt_bid Z 0 lb lx LA ln lc (Z.size : Int) 0 w12 HZ5.out.2 HLX.out (by have := HZ5.out.1; unfold maxLen; omega) (by have := HLNE.out; omega)).mono ?_
              rintro e w13 ⟨rfl, hE⟩
              have HA2 := Lib.hid (HA.out.ext hE)
              have HB2 := Lib.hid (HB.out.ext hE)
              have HC2 := Lib.hid (HC.out.ext hE)
              have HD2 := Lib.hid (HD.out.ext hE)
              have HE2 := Lib.hid (Ext.trans HE.out hE)
              clear HA HB HC HD HE hE
              have HA := HA2
              clear HA2
              have HB := HB2
              clear HB2
              have HC := HC2
              clear HC2
              have HD := HD2
              clear HD2
              have HE := HE2
              clear HE2
              obtain ⟨a0, a1, a2, a3, a4, a5, a6, a7, a8⟩ := HA.out.cells
              obtain ⟨b0, b1, -, -, -⟩ := HB.out
              obtain ⟨c0, c1, c2, c3, c4, c5, c6, c7, c8⟩ := HC.out.cells
              obtain ⟨d0, d1, -, -, -⟩ := HD.out
              go_wp2_with fail
              go_ret
              exact ⟨rfl, HE.out⟩
            · have hq := HOK.out.2 hi
              subst hq
              have i1 : (ie != 0) = true := by simp [hi]
              have i2 : (ie == 0) = false := by simp [hi]
              clear hi
              obtain ⟨a0, a1, a2, a3, a4, a5, a6, a7, a8⟩ := HA.out.cells
              obtain ⟨b0, b1, -, -, -⟩ := HB.out
              obtain ⟨c0, c1, c2, c3, c4, c5, c6, c7, c8⟩ := HC.out.cells
              obtain ⟨d0, d1, -, -, -⟩ := HD.out
              go_wp2_with fail
              go_ret
              exact ⟨rfl, HE.out⟩
          · have g1 : (g == 0) = false := by simp [hg]
            have g2 : (g != 0) = true := by simp [hg]
            clear hg
            obtain ⟨a0, a1, a2, a3, a4, a5, a6, a7, a8⟩ := HA.out.cells
            obtain ⟨b0, b1, -, -, -⟩ := HB.out
            obtain ⟨c0, c1, c2, c3, c4, c5, c6, c7, c8⟩ := HC.out.cells
            go_wp2_with fail
            clear a0 a1 a2 a3 a4 a5 a6 a7 a8 b0 b1 c0 c1 c2 c3 c4 c5 c6 c7 c8
            obtain ⟨OX, hOX⟩ : ∃ x, bidR S.data.toList k = x := ⟨_, rfl⟩
            have hf := parsebid_any S k (w8.alloc (.cells #[.int .i64 mu.bus, .int .i64 mu.mn, .slice MA mn mc, .int .i64 mu.up, .int .i64 mu.down, .int .i64 mu.start, .int .i64 mu.idle, .int .i64 mu.spin, .int .i64 mu.on] 30)) HS.out
            have hok := @bid_ok S.data.toList k
            rw [hOX] at hf hok
            clear hOX
            obtain ⟨lb, lx, q, ie⟩ := OX
            simp only at hok
            have HOK := Lib.hid hok
            clear hok
            refine hf.mono ?_
            clear hf
            rintro e w9 ⟨LA, lc, rfl, hLM, hE⟩
            simp only at hLM ⊢
            obtain ⟨ln, hln⟩ : ∃ x, lx.length = x := ⟨_, rfl⟩
            rw [hln] at hLM ⊢
            have HLN := Lib.hid hln
            clear hln
            have HA2 := Lib.hid (HA.out.ext hE)
            have HB2 := Lib.hid (HB.out.ext hE)
            have HC2 := Lib.hid (HC.out.ext hE)
            have HE2 := Lib.hid (Ext.trans HE.out hE)
            clear HA HB HC HE hE
            have HA := HA2
            clear HA2
            have HB := HB2
            clear HB2
            have HC := HC2
            clear HC2
            have HE := HE2
            clear HE2
            have hD := Cell2.new w9 _ rfl (.int .i64 lb) (.slice LA ln lc) 33
            have hE : Ext w9 (w9.alloc (.cells #[.int .i64 lb, .slice LA ln lc] 33)) := Ext.al Ext.rfl' _
            have HLX := Lib.hid (hLM.below hE)
            clear hLM
            have HA2 := Lib.hid (HA.out.ext hE)
            have HB2 := Lib.hid (HB.out.ext hE)
            have HC2 := Lib.hid (HC.out.ext hE)
            have HE2 := Lib.hid (Ext.trans HE.out hE)
            clear HA HB HC HE hE
            have HA := HA2
            clear HA2
            have HB := HB2
            clear HB2
            have HC := HC2
            clear HC2
            have HE := HE2
            clear HE2
            have HD := Lib.hid hD
            clear hD
            by_cases hi : ie = 0
            · subst hi
              obtain ⟨hk0, hq1, hq2⟩ := HOK.out.1 rfl
              have r1 : decide (k < q) = true := decide_eq_true hq1
              have r2 : decide (q ≤ (S.size : Int)) = true := decide_eq_true (by rw [← size_list]; exact hq2)
              have HK0 := Lib.hid hk0
              have HLNE : Hid (ln ≤ 10) := by have := (bid_zs hk0).2.2; have := HLN.out; unfold Hid; omega
              clear hq1 hq2 hk0
              obtain ⟨a0, a1, a2, a3, a4, a5, a6, a7, a8⟩ := HA.out.cells
              obtain ⟨b0, b1, -, -, -⟩ := HB.out
              obtain ⟨c0, c1, c2, c3, c4, c5, c6, c7, c8⟩ := HC.out.cells
              obtain ⟨d0, d1, -, -, -⟩ := HD.out
              go_wp2_with fail
              clear a0 a1 a2 a3 a4 a5 a6 a7 a8 b0 b1 c0 c1 c2 c3 c4 c5 c6 c7 c8 d0 d1
              obtain ⟨Z, f3, hZ1, hZ2, hZ3, hZ4, hZ5⟩ := bid_packr lb lx
              obtain rfl : f3 = 0 := by rw [← hZ3]; exact HK0.out
              have hf := bfmtbid_any lb lx LA ln lc (w9.alloc (.cells #[.int .i64 lb, .slice LA ln lc] 33)) HLX.out (by have := HLNE.out; omega)
              rw [hZ1, hZ2] at hf
              have HZ5 := Lib.hid (hZ5 rfl)
              clear hZ1 hZ2 hZ3 hZ4 hZ5
              have HLX2 := HLX
              refine hf.mono ?_
              clear hf
              rintro e w10 ⟨rfl, hE⟩
              have HLX := Lib.hid (HLX2.out.below hE)
              clear HLX2
              have HA2 := Lib.hid (HA.out.ext hE)
              have HB2 := Lib.hid (HB.out.ext hE)
              have HC2 := Lib.hid (HC.out.ext hE)
              have HD2 := Lib.hid (HD.out.ext hE)
              have HE2 := Lib.hid (Ext.trans HE.out hE)
              clear HA HB HC HD HE hE
              have HA := HA2
              clear HA2
              have HB := HB2
              clear HB2
              have HC := HC2
              clear HC2
              have HD := HD2
              clear HD2
              have HE := HE2
              clear HE2
              obtain ⟨a0, a1, a2, a3, a4, a5, a6, a7, a8⟩ := HA.out.cells
              obtain ⟨b0, b1, -, -, -⟩ := HB.out
              obtain ⟨c0, c1, c2, c3, c4, c5, c6, c7, c8⟩ := HC.out.cells
              obtain ⟨d0, d1, -, -, -⟩ := HD.out
              go_wp2_with fail
              clear a0 a1 a2 a3 a4 a5 a6 a7 a8 b0 b1 c0 c1 c2 c3 c4 c5 c6 c7 c8 d0 d1
              refine (bt_bid Z 0 lb lx LA ln lc (Z.size : Int) 0 w10 HZ5.out.2 HLX.out (by have := HZ5.out.1; unfold maxLen; omega) (by have := HLNE.out; omega)).mono ?_
              rintro e w11 ⟨rfl, hE⟩
              have HA2 := Lib.hid (HA.out.ext hE)
              have HB2 := Lib.hid (HB.out.ext hE)
              have HC2 := Lib.hid (HC.out.ext hE)
              have HD2 := Lib.hid (HD.out.ext hE)
              have HE2 := Lib.hid (Ext.trans HE.out hE)
              clear HA HB HC HD HE hE
              have HA := HA2
              clear HA2
              have HB := HB2
              clear HB2
              have HC := HC2
              clear HC2
              have HD := HD2
              clear HD2
              have HE := HE2
              clear HE2
              obtain ⟨a0, a1, a2, a3, a4, a5, a6, a7, a8⟩ := HA.out.cells
              obtain ⟨b0, b1, -, -, -⟩ := HB.out
              obtain ⟨c0, c1, c2, c3, c4, c5, c6, c7, c8⟩ := HC.out.cells
              obtain ⟨d0, d1, -, -, -⟩ := HD.out
              go_wp2_with fail
              go_ret
              exact ⟨rfl, HE.out⟩
            · have hq := HOK.out.2 hi
              subst hq
              have i1 : (ie != 0) = true := by simp [hi]
              have i2 : (ie == 0) = false := by simp [hi]
              clear hi
              obtain ⟨a0, a1, a2, a3, a4, a5, a6, a7, a8⟩ := HA.out.cells
              obtain ⟨b0, b1, -, -, -⟩ := HB.out
              obtain ⟨c0, c1, c2, c3, c4, c5, c6, c7, c8⟩ := HC.out.cells
              obtain ⟨d0, d1, -, -, -⟩ := HD.out
              go_wp2_with fail
              go_ret
              exact ⟨rfl, HE.out⟩
      · have n1 : (f == 0) = false := by simp [hc]
        have n2 : (f != 0) = true := by simp [hc]
        obtain rfl := HF4.out.2.1 hc
        clear hc
        by_cases hf0 : e = 0
        · subst hf0
          obtain ⟨a0, a1, a2, a3, a4, a5, a6, a7, a8⟩ := HA.out.cells
          obtain ⟨b0, b1, -, -, -⟩ := HB.out
          go_wp2_with fail
          clear a0 a1 a2 a3 a4 a5 a6 a7 a8 b0 b1
          have hf := ucheck_any u 6 A n c w5 (H.out.below HE.out) (by have := HL1.out; unfold maxLen; omega)
          rw [HF4.out.1] at hf
          refine (hf).mono ?_
          rintro e w6 ⟨rfl, hE⟩
          have HA2 := Lib.hid (HA.out.ext hE)
          have HB2 := Lib.hid (HB.out.ext hE)
          have HE2 := Lib.hid (Ext.trans HE.out hE)
          clear HA HB HE hE
          have HA := HA2
          clear HA2
          have HB := HB2
          clear HB2
          have HE := HE2
          clear HE2
          clear hf
          obtain ⟨a0, a1, a2, a3, a4, a5, a6, a7, a8⟩ := HA.out.cells
          obtain ⟨b0, b1, -, -, -⟩ := HB.out
          go_wp2_with fail
          clear a0 a1 a2 a3 a4 a5 a6 a7 a8 b0 b1
          refine (bt_bid Y 0 b xs B m d (Y.size : Int) 0 w6 (HY4.out.2.2 (by first | rfl | trivial)).2 (H'.out.below HE.out) (by have := (HY4.out.2.2 (by first | rfl | trivial)).1; unfold maxLen; omega) (by have := HL2.out; omega)).mono ?_
          rintro e w7 ⟨rfl, hE⟩
          have HA2 := Lib.hid (HA.out.ext hE)
          have HB2 := Lib.hid (HB.out.ext hE)
          have HE2 := Lib.hid (Ext.trans HE.out hE)
          clear HA HB HE hE
          have HA := HA2
          clear HA2
          have HB := HB2
          clear HB2
          have HE := HE2
          clear HE2
          obtain ⟨a0, a1, a2, a3, a4, a5, a6, a7, a8⟩ := HA.out.cells
          obtain ⟨b0, b1, -, -, -⟩ := HB.out
          go_wp2_with fail
          clear a0 a1 a2 a3 a4 a5 a6 a7 a8 b0 b1
          obtain ⟨NX, hNX⟩ : ∃ x, unitR S.data.toList k = x := ⟨_, rfl⟩
          have hf := parseunit_any S k w7 HS.out
          have hok := @unit_ok S.data.toList k
          rw [hNX] at hf hok
          clear hNX
          obtain ⟨mu, p, g⟩ := NX
          simp only at hok
          have HOKN := Lib.hid hok
          clear hok
          refine hf.mono ?_
          clear hf
          rintro e w8 ⟨MA, mc, rfl, hLM, hE⟩
          simp only at hLM ⊢
          obtain ⟨mn, hmn⟩ : ∃ x, mu.steps.length = x := ⟨_, rfl⟩
          rw [hmn] at hLM ⊢
          have HMN := Lib.hid hmn
          clear hmn
          have HA2 := Lib.hid (HA.out.ext hE)
          have HB2 := Lib.hid (HB.out.ext hE)
          have HE2 := Lib.hid (Ext.trans HE.out hE)
          clear HA HB HE hE
          have HA := HA2
          clear HA2
          have HB := HB2
          clear HB2
          have HE := HE2
          clear HE2
          have hC := UBk.new w8 mu MA mn mc
          have hE : Ext w8 (w8.alloc (.cells #[.int .i64 mu.bus, .int .i64 mu.mn, .slice MA mn mc, .int .i64 mu.up, .int .i64 mu.down, .int .i64 mu.start, .int .i64 mu.idle, .int .i64 mu.spin, .int .i64 mu.on] 30)) := Ext.al Ext.rfl' _
          have HLM := Lib.hid (hLM.below hE)
          clear hLM
          have HA2 := Lib.hid (HA.out.ext hE)
          have HB2 := Lib.hid (HB.out.ext hE)
          have HE2 := Lib.hid (Ext.trans HE.out hE)
          clear HA HB HE hE
          have HA := HA2
          clear HA2
          have HB := HB2
          clear HB2
          have HE := HE2
          clear HE2
          have HC := Lib.hid hC
          clear hC
          by_cases hg : g = 0
          · subst hg
            obtain ⟨hm0, hp1, hp2⟩ := HOKN.out.1 rfl
            have r1 : decide (p ≤ k) = false := decide_eq_false (by omega)
            have r2 : decide ((S.size : Int) < p) = false := decide_eq_false (by rw [← size_list]; omega)
            have HM0 := Lib.hid hm0
            have HMLE : Hid (mn ≤ 10) := by have := (unit_zs hm0).2.2; have := HMN.out; unfold Hid; omega
            clear hm0 hp1 hp2
            obtain ⟨a0, a1, a2, a3, a4, a5, a6, a7, a8⟩ := HA.out.cells
            obtain ⟨b0, b1, -, -, -⟩ := HB.out
            obtain ⟨c0, c1, c2, c3, c4, c5, c6, c7, c8⟩ := HC.out.cells
            go_wp2_with fail
            clear a0 a1 a2 a3 a4 a5 a6 a7 a8 b0 b1 c0 c1 c2 c3 c4 c5 c6 c7 c8
            obtain ⟨Z0, f3, hZ1, hZ2, hZ3, hZ4, hZ5⟩ := unit_packr mu
            obtain rfl : f3 = 0 := by rw [← hZ3]; exact HM0.out
            have hf := bfmtunit_any mu MA mn mc (w8.alloc (.cells #[.int .i64 mu.bus, .int .i64 mu.mn, .slice MA mn mc, .int .i64 mu.up, .int .i64 mu.down, .int .i64 mu.start, .int .i64 mu.idle, .int .i64 mu.spin, .int .i64 mu.on] 30)) HLM.out (by have := HMLE.out; omega)
            rw [hZ1, hZ2] at hf
            have HZ0 := Lib.hid (hZ5 rfl)
            clear hZ1 hZ2 hZ3 hZ4 hZ5
            have HLM2 := HLM
            refine hf.mono ?_
            clear hf
            rintro e w9 ⟨rfl, hE⟩
            have HLM := Lib.hid (HLM2.out.below hE)
            clear HLM2
            have HA2 := Lib.hid (HA.out.ext hE)
            have HB2 := Lib.hid (HB.out.ext hE)
            have HC2 := Lib.hid (HC.out.ext hE)
            have HE2 := Lib.hid (Ext.trans HE.out hE)
            clear HA HB HC HE hE
            have HA := HA2
            clear HA2
            have HB := HB2
            clear HB2
            have HC := HC2
            clear HC2
            have HE := HE2
            clear HE2
            obtain ⟨a0, a1, a2, a3, a4, a5, a6, a7, a8⟩ := HA.out.cells
            obtain ⟨b0, b1, -, -, -⟩ := HB.out
            obtain ⟨c0, c1, c2, c3, c4, c5, c6, c7, c8⟩ := HC.out.cells
            go_wp2_with fail
            clear a0 a1 a2 a3 a4 a5 a6 a7 a8 b0 b1 c0 c1 c2 c3 c4 c5 c6 c7 c8
            refine (bt_unit Z0 0 mu MA mn mc (Z0.size : Int) 0 w9 HZ0.out.2 HLM.out (by have := HZ0.out.1; unfold maxLen; omega) (by have := HMLE.out; omega)).mono ?_
            rintro e w10 ⟨rfl, hE⟩
            have HA2 := Lib.hid (HA.out.ext hE)
            have HB2 := Lib.hid (HB.out.ext hE)
            have HC2 := Lib.hid (HC.out.ext hE)
            have HE2 := Lib.hid (Ext.trans HE.out hE)
            clear HA HB HC HE hE
            have HA := HA2
            clear HA2
            have HB := HB2
            clear HB2
            have HC := HC2
            clear HC2
            have HE := HE2
            clear HE2
            clear r1 r2
            obtain ⟨a0, a1, a2, a3, a4, a5, a6, a7, a8⟩ := HA.out.cells
            obtain ⟨b0, b1, -, -, -⟩ := HB.out
            obtain ⟨c0, c1, c2, c3, c4, c5, c6, c7, c8⟩ := HC.out.cells
            go_wp2_with fail
            clear a0 a1 a2 a3 a4 a5 a6 a7 a8 b0 b1 c0 c1 c2 c3 c4 c5 c6 c7 c8
            obtain ⟨OX, hOX⟩ : ∃ x, bidR S.data.toList k = x := ⟨_, rfl⟩
            have hf := parsebid_any S k w10 HS.out
            have hok := @bid_ok S.data.toList k
            rw [hOX] at hf hok
            clear hOX
            obtain ⟨lb, lx, q, ie⟩ := OX
            simp only at hok
            have HOK := Lib.hid hok
            clear hok
            refine hf.mono ?_
            clear hf
            rintro e w11 ⟨LA, lc, rfl, hLM, hE⟩
            simp only at hLM ⊢
            obtain ⟨ln, hln⟩ : ∃ x, lx.length = x := ⟨_, rfl⟩
            rw [hln] at hLM ⊢
            have HLN := Lib.hid hln
            clear hln
            have HA2 := Lib.hid (HA.out.ext hE)
            have HB2 := Lib.hid (HB.out.ext hE)
            have HC2 := Lib.hid (HC.out.ext hE)
            have HE2 := Lib.hid (Ext.trans HE.out hE)
            clear HA HB HC HE hE
            have HA := HA2
            clear HA2
            have HB := HB2
            clear HB2
            have HC := HC2
            clear HC2
            have HE := HE2
            clear HE2
            have hD := Cell2.new w11 _ rfl (.int .i64 lb) (.slice LA ln lc) 33
            have hE : Ext w11 (w11.alloc (.cells #[.int .i64 lb, .slice LA ln lc] 33)) := Ext.al Ext.rfl' _
            have HLX := Lib.hid (hLM.below hE)
            clear hLM
            have HA2 := Lib.hid (HA.out.ext hE)
            have HB2 := Lib.hid (HB.out.ext hE)
            have HC2 := Lib.hid (HC.out.ext hE)
            have HE2 := Lib.hid (Ext.trans HE.out hE)
            clear HA HB HC HE hE
            have HA := HA2
            clear HA2
            have HB := HB2
            clear HB2
            have HC := HC2
            clear HC2
            have HE := HE2
            clear HE2
            have HD := Lib.hid hD
            clear hD
            by_cases hi : ie = 0
            · subst hi
              obtain ⟨hk0, hq1, hq2⟩ := HOK.out.1 rfl
              have r1 : decide (k < q) = true := decide_eq_true hq1
              have r2 : decide (q ≤ (S.size : Int)) = true := decide_eq_true (by rw [← size_list]; exact hq2)
              have HK0 := Lib.hid hk0
              have HLNE : Hid (ln ≤ 10) := by have := (bid_zs hk0).2.2; have := HLN.out; unfold Hid; omega
              clear hq1 hq2 hk0
              obtain ⟨a0, a1, a2, a3, a4, a5, a6, a7, a8⟩ := HA.out.cells
              obtain ⟨b0, b1, -, -, -⟩ := HB.out
              obtain ⟨c0, c1, c2, c3, c4, c5, c6, c7, c8⟩ := HC.out.cells
              obtain ⟨d0, d1, -, -, -⟩ := HD.out
              go_wp2_with fail
              clear a0 a1 a2 a3 a4 a5 a6 a7 a8 b0 b1 c0 c1 c2 c3 c4 c5 c6 c7 c8 d0 d1
              obtain ⟨Z, f3, hZ1, hZ2, hZ3, hZ4, hZ5⟩ := bid_packr lb lx
              obtain rfl : f3 = 0 := by rw [← hZ3]; exact HK0.out
              have hf := bfmtbid_any lb lx LA ln lc (w11.alloc (.cells #[.int .i64 lb, .slice LA ln lc] 33)) HLX.out (by have := HLNE.out; omega)
              rw [hZ1, hZ2] at hf
              have HZ5 := Lib.hid (hZ5 rfl)
              clear hZ1 hZ2 hZ3 hZ4 hZ5
              have HLX2 := HLX
              refine hf.mono ?_
              clear hf
              rintro e w12 ⟨rfl, hE⟩
              have HLX := Lib.hid (HLX2.out.below hE)
              clear HLX2
              have HA2 := Lib.hid (HA.out.ext hE)
              have HB2 := Lib.hid (HB.out.ext hE)
              have HC2 := Lib.hid (HC.out.ext hE)
              have HD2 := Lib.hid (HD.out.ext hE)
              have HE2 := Lib.hid (Ext.trans HE.out hE)
              clear HA HB HC HD HE hE
              have HA := HA2
              clear HA2
              have HB := HB2
              clear HB2
              have HC := HC2
              clear HC2
              have HD := HD2
              clear HD2
              have HE := HE2
              clear HE2
              obtain ⟨a0, a1, a2, a3, a4, a5, a6, a7, a8⟩ := HA.out.cells
              obtain ⟨b0, b1, -, -, -⟩ := HB.out
              obtain ⟨c0, c1, c2, c3, c4, c5, c6, c7, c8⟩ := HC.out.cells
              obtain ⟨d0, d1, -, -, -⟩ := HD.out
              go_wp2_with fail
              clear a0 a1 a2 a3 a4 a5 a6 a7 a8 b0 b1 c0 c1 c2 c3 c4 c5 c6 c7 c8 d0 d1
              refine (bt_bid Z 0 lb lx LA ln lc (Z.size : Int) 0 w12 HZ5.out.2 HLX.out (by have := HZ5.out.1; unfold maxLen; omega) (by have := HLNE.out; omega)).mono ?_
              rintro e w13 ⟨rfl, hE⟩
              have HA2 := Lib.hid (HA.out.ext hE)
              have HB2 := Lib.hid (HB.out.ext hE)
              have HC2 := Lib.hid (HC.out.ext hE)
              have HD2 := Lib.hid (HD.out.ext hE)
              have HE2 := Lib.hid (Ext.trans HE.out hE)
              clear HA HB HC HD HE hE
              have HA := HA2
              clear HA2
              have HB := HB2
              clear HB2
              have HC := HC2
              clear HC2
              have HD := HD2
              clear HD2
              have HE := HE2
              clear HE2
              obtain ⟨a0, a1, a2, a3, a4, a5, a6, a7, a8⟩ := HA.out.cells
              obtain ⟨b0, b1, -, -, -⟩ := HB.out
              obtain ⟨c0, c1, c2, c3, c4, c5, c6, c7, c8⟩ := HC.out.cells
              obtain ⟨d0, d1, -, -, -⟩ := HD.out
              go_wp2_with fail
              go_ret
              exact ⟨rfl, HE.out⟩
            · have hq := HOK.out.2 hi
              subst hq
              have i1 : (ie != 0) = true := by simp [hi]
              have i2 : (ie == 0) = false := by simp [hi]
              clear hi
              obtain ⟨a0, a1, a2, a3, a4, a5, a6, a7, a8⟩ := HA.out.cells
              obtain ⟨b0, b1, -, -, -⟩ := HB.out
              obtain ⟨c0, c1, c2, c3, c4, c5, c6, c7, c8⟩ := HC.out.cells
              obtain ⟨d0, d1, -, -, -⟩ := HD.out
              go_wp2_with fail
              go_ret
              exact ⟨rfl, HE.out⟩
          · have g1 : (g == 0) = false := by simp [hg]
            have g2 : (g != 0) = true := by simp [hg]
            clear hg
            obtain ⟨a0, a1, a2, a3, a4, a5, a6, a7, a8⟩ := HA.out.cells
            obtain ⟨b0, b1, -, -, -⟩ := HB.out
            obtain ⟨c0, c1, c2, c3, c4, c5, c6, c7, c8⟩ := HC.out.cells
            go_wp2_with fail
            clear a0 a1 a2 a3 a4 a5 a6 a7 a8 b0 b1 c0 c1 c2 c3 c4 c5 c6 c7 c8
            obtain ⟨OX, hOX⟩ : ∃ x, bidR S.data.toList k = x := ⟨_, rfl⟩
            have hf := parsebid_any S k (w8.alloc (.cells #[.int .i64 mu.bus, .int .i64 mu.mn, .slice MA mn mc, .int .i64 mu.up, .int .i64 mu.down, .int .i64 mu.start, .int .i64 mu.idle, .int .i64 mu.spin, .int .i64 mu.on] 30)) HS.out
            have hok := @bid_ok S.data.toList k
            rw [hOX] at hf hok
            clear hOX
            obtain ⟨lb, lx, q, ie⟩ := OX
            simp only at hok
            have HOK := Lib.hid hok
            clear hok
            refine hf.mono ?_
            clear hf
            rintro e w9 ⟨LA, lc, rfl, hLM, hE⟩
            simp only at hLM ⊢
            obtain ⟨ln, hln⟩ : ∃ x, lx.length = x := ⟨_, rfl⟩
            rw [hln] at hLM ⊢
            have HLN := Lib.hid hln
            clear hln
            have HA2 := Lib.hid (HA.out.ext hE)
            have HB2 := Lib.hid (HB.out.ext hE)
            have HC2 := Lib.hid (HC.out.ext hE)
            have HE2 := Lib.hid (Ext.trans HE.out hE)
            clear HA HB HC HE hE
            have HA := HA2
            clear HA2
            have HB := HB2
            clear HB2
            have HC := HC2
            clear HC2
            have HE := HE2
            clear HE2
            have hD := Cell2.new w9 _ rfl (.int .i64 lb) (.slice LA ln lc) 33
            have hE : Ext w9 (w9.alloc (.cells #[.int .i64 lb, .slice LA ln lc] 33)) := Ext.al Ext.rfl' _
            have HLX := Lib.hid (hLM.below hE)
            clear hLM
            have HA2 := Lib.hid (HA.out.ext hE)
            have HB2 := Lib.hid (HB.out.ext hE)
            have HC2 := Lib.hid (HC.out.ext hE)
            have HE2 := Lib.hid (Ext.trans HE.out hE)
            clear HA HB HC HE hE
            have HA := HA2
            clear HA2
            have HB := HB2
            clear HB2
            have HC := HC2
            clear HC2
            have HE := HE2
            clear HE2
            have HD := Lib.hid hD
            clear hD
            by_cases hi : ie = 0
            · subst hi
              obtain ⟨hk0, hq1, hq2⟩ := HOK.out.1 rfl
              have r1 : decide (k < q) = true := decide_eq_true hq1
              have r2 : decide (q ≤ (S.size : Int)) = true := decide_eq_true (by rw [← size_list]; exact hq2)
              have HK0 := Lib.hid hk0
              have HLNE : Hid (ln ≤ 10) := by have := (bid_zs hk0).2.2; have := HLN.out; unfold Hid; omega
              clear hq1 hq2 hk0
              obtain ⟨a0, a1, a2, a3, a4, a5, a6, a7, a8⟩ := HA.out.cells
              obtain ⟨b0, b1, -, -, -⟩ := HB.out
              obtain ⟨c0, c1, c2, c3, c4, c5, c6, c7, c8⟩ := HC.out.cells
              obtain ⟨d0, d1, -, -, -⟩ := HD.out
              go_wp2_with fail
              clear a0 a1 a2 a3 a4 a5 a6 a7 a8 b0 b1 c0 c1 c2 c3 c4 c5 c6 c7 c8 d0 d1
              obtain ⟨Z, f3, hZ1, hZ2, hZ3, hZ4, hZ5⟩ := bid_packr lb lx
              obtain rfl : f3 = 0 := by rw [← hZ3]; exact HK0.out
              have hf := bfmtbid_any lb lx LA ln lc (w9.alloc (.cells #[.int .i64 lb, .slice LA ln lc] 33)) HLX.out (by have := HLNE.out; omega)
              rw [hZ1, hZ2] at hf
              have HZ5 := Lib.hid (hZ5 rfl)
              clear hZ1 hZ2 hZ3 hZ4 hZ5
              have HLX2 := HLX
              refine hf.mono ?_
              clear hf
              rintro e w10 ⟨rfl, hE⟩
              have HLX := Lib.hid (HLX2.out.below hE)
              clear HLX2
              have HA2 := Lib.hid (HA.out.ext hE)
              have HB2 := Lib.hid (HB.out.ext hE)
              have HC2 := Lib.hid (HC.out.ext hE)
              have HD2 := Lib.hid (HD.out.ext hE)
              have HE2 := Lib.hid (Ext.trans HE.out hE)
              clear HA HB HC HD HE hE
              have HA := HA2
              clear HA2
              have HB := HB2
              clear HB2
              have HC := HC2
              clear HC2
              have HD := HD2
              clear HD2
              have HE := HE2
              clear HE2
              obtain ⟨a0, a1, a2, a3, a4, a5, a6, a7, a8⟩ := HA.out.cells
              obtain ⟨b0, b1, -, -, -⟩ := HB.out
              obtain ⟨c0, c1, c2, c3, c4, c5, c6, c7, c8⟩ := HC.out.cells
              obtain ⟨d0, d1, -, -, -⟩ := HD.out
              go_wp2_with fail
              clear a0 a1 a2 a3 a4 a5 a6 a7 a8 b0 b1 c0 c1 c2 c3 c4 c5 c6 c7 c8 d0 d1
              refine (bt_bid Z 0 lb lx LA ln lc (Z.size : Int) 0 w10 HZ5.out.2 HLX.out (by have := HZ5.out.1; unfold maxLen; omega) (by have := HLNE.out; omega)).mono ?_
              rintro e w11 ⟨rfl, hE⟩
              have HA2 := Lib.hid (HA.out.ext hE)
              have HB2 := Lib.hid (HB.out.ext hE)
              have HC2 := Lib.hid (HC.out.ext hE)
              have HD2 := Lib.hid (HD.out.ext hE)
              have HE2 := Lib.hid (Ext.trans HE.out hE)
              clear HA HB HC HD HE hE
              have HA := HA2
              clear HA2
              have HB := HB2
              clear HB2
              have HC := HC2
              clear HC2
              have HD := HD2
              clear HD2
              have HE := HE2
              clear HE2
              obtain ⟨a0, a1, a2, a3, a4, a5, a6, a7, a8⟩ := HA.out.cells
              obtain ⟨b0, b1, -, -, -⟩ := HB.out
              obtain ⟨c0, c1, c2, c3, c4, c5, c6, c7, c8⟩ := HC.out.cells
              obtain ⟨d0, d1, -, -, -⟩ := HD.out
              go_wp2_with fail
              go_ret
              exact ⟨rfl, HE.out⟩
            · have hq := HOK.out.2 hi
              subst hq
              have i1 : (ie != 0) = true := by simp [hi]
              have i2 : (ie == 0) = false := by simp [hi]
              clear hi
              obtain ⟨a0, a1, a2, a3, a4, a5, a6, a7, a8⟩ := HA.out.cells
              obtain ⟨b0, b1, -, -, -⟩ := HB.out
              obtain ⟨c0, c1, c2, c3, c4, c5, c6, c7, c8⟩ := HC.out.cells
              obtain ⟨d0, d1, -, -, -⟩ := HD.out
              go_wp2_with fail
              go_ret
              exact ⟨rfl, HE.out⟩
        · have f1 : (e == 0) = false := by simp [hf0]
          have f2 : (e != 0) = true := by simp [hf0]
          obtain rfl := HY4.out.2.1 hf0
          clear hf0
          obtain ⟨a0, a1, a2, a3, a4, a5, a6, a7, a8⟩ := HA.out.cells
          obtain ⟨b0, b1, -, -, -⟩ := HB.out
          go_wp2_with fail
          clear a0 a1 a2 a3 a4 a5 a6 a7 a8 b0 b1
          have hf := ucheck_any u 6 A n c w5 (H.out.below HE.out) (by have := HL1.out; unfold maxLen; omega)
          rw [HF4.out.1] at hf
          refine (hf).mono ?_
          rintro e w6 ⟨rfl, hE⟩
          have HA2 := Lib.hid (HA.out.ext hE)
          have HB2 := Lib.hid (HB.out.ext hE)
          have HE2 := Lib.hid (Ext.trans HE.out hE)
          clear HA HB HE hE
          have HA := HA2
          clear HA2
          have HB := HB2
          clear HB2
          have HE := HE2
          clear HE2
          clear hf
          obtain ⟨a0, a1, a2, a3, a4, a5, a6, a7, a8⟩ := HA.out.cells
          obtain ⟨b0, b1, -, -, -⟩ := HB.out
          go_wp2_with fail
          clear a0 a1 a2 a3 a4 a5 a6 a7 a8 b0 b1
          obtain ⟨NX, hNX⟩ : ∃ x, unitR S.data.toList k = x := ⟨_, rfl⟩
          have hf := parseunit_any S k w6 HS.out
          have hok := @unit_ok S.data.toList k
          rw [hNX] at hf hok
          clear hNX
          obtain ⟨mu, p, g⟩ := NX
          simp only at hok
          have HOKN := Lib.hid hok
          clear hok
          refine hf.mono ?_
          clear hf
          rintro e w7 ⟨MA, mc, rfl, hLM, hE⟩
          simp only at hLM ⊢
          obtain ⟨mn, hmn⟩ : ∃ x, mu.steps.length = x := ⟨_, rfl⟩
          rw [hmn] at hLM ⊢
          have HMN := Lib.hid hmn
          clear hmn
          have HA2 := Lib.hid (HA.out.ext hE)
          have HB2 := Lib.hid (HB.out.ext hE)
          have HE2 := Lib.hid (Ext.trans HE.out hE)
          clear HA HB HE hE
          have HA := HA2
          clear HA2
          have HB := HB2
          clear HB2
          have HE := HE2
          clear HE2
          have hC := UBk.new w7 mu MA mn mc
          have hE : Ext w7 (w7.alloc (.cells #[.int .i64 mu.bus, .int .i64 mu.mn, .slice MA mn mc, .int .i64 mu.up, .int .i64 mu.down, .int .i64 mu.start, .int .i64 mu.idle, .int .i64 mu.spin, .int .i64 mu.on] 30)) := Ext.al Ext.rfl' _
          have HLM := Lib.hid (hLM.below hE)
          clear hLM
          have HA2 := Lib.hid (HA.out.ext hE)
          have HB2 := Lib.hid (HB.out.ext hE)
          have HE2 := Lib.hid (Ext.trans HE.out hE)
          clear HA HB HE hE
          have HA := HA2
          clear HA2
          have HB := HB2
          clear HB2
          have HE := HE2
          clear HE2
          have HC := Lib.hid hC
          clear hC
          by_cases hg : g = 0
          · subst hg
            obtain ⟨hm0, hp1, hp2⟩ := HOKN.out.1 rfl
            have r1 : decide (p ≤ k) = false := decide_eq_false (by omega)
            have r2 : decide ((S.size : Int) < p) = false := decide_eq_false (by rw [← size_list]; omega)
            have HM0 := Lib.hid hm0
            have HMLE : Hid (mn ≤ 10) := by have := (unit_zs hm0).2.2; have := HMN.out; unfold Hid; omega
            clear hm0 hp1 hp2
            obtain ⟨a0, a1, a2, a3, a4, a5, a6, a7, a8⟩ := HA.out.cells
            obtain ⟨b0, b1, -, -, -⟩ := HB.out
            obtain ⟨c0, c1, c2, c3, c4, c5, c6, c7, c8⟩ := HC.out.cells
            go_wp2_with fail
            clear a0 a1 a2 a3 a4 a5 a6 a7 a8 b0 b1 c0 c1 c2 c3 c4 c5 c6 c7 c8
            obtain ⟨Z0, f3, hZ1, hZ2, hZ3, hZ4, hZ5⟩ := unit_packr mu
            obtain rfl : f3 = 0 := by rw [← hZ3]; exact HM0.out
            have hf := bfmtunit_any mu MA mn mc (w7.alloc (.cells #[.int .i64 mu.bus, .int .i64 mu.mn, .slice MA mn mc, .int .i64 mu.up, .int .i64 mu.down, .int .i64 mu.start, .int .i64 mu.idle, .int .i64 mu.spin, .int .i64 mu.on] 30)) HLM.out (by have := HMLE.out; omega)
            rw [hZ1, hZ2] at hf
            have HZ0 := Lib.hid (hZ5 rfl)
            clear hZ1 hZ2 hZ3 hZ4 hZ5
            have HLM2 := HLM
            refine hf.mono ?_
            clear hf
            rintro e w8 ⟨rfl, hE⟩
            have HLM := Lib.hid (HLM2.out.below hE)
            clear HLM2
            have HA2 := Lib.hid (HA.out.ext hE)
            have HB2 := Lib.hid (HB.out.ext hE)
            have HC2 := Lib.hid (HC.out.ext hE)
            have HE2 := Lib.hid (Ext.trans HE.out hE)
            clear HA HB HC HE hE
            have HA := HA2
            clear HA2
            have HB := HB2
            clear HB2
            have HC := HC2
            clear HC2
            have HE := HE2
            clear HE2
            obtain ⟨a0, a1, a2, a3, a4, a5, a6, a7, a8⟩ := HA.out.cells
            obtain ⟨b0, b1, -, -, -⟩ := HB.out
            obtain ⟨c0, c1, c2, c3, c4, c5, c6, c7, c8⟩ := HC.out.cells
            go_wp2_with fail
            clear a0 a1 a2 a3 a4 a5 a6 a7 a8 b0 b1 c0 c1 c2 c3 c4 c5 c6 c7 c8
            refine (bt_unit Z0 0 mu MA mn mc (Z0.size : Int) 0 w8 HZ0.out.2 HLM.out (by have := HZ0.out.1; unfold maxLen; omega) (by have := HMLE.out; omega)).mono ?_
            rintro e w9 ⟨rfl, hE⟩
            have HA2 := Lib.hid (HA.out.ext hE)
            have HB2 := Lib.hid (HB.out.ext hE)
            have HC2 := Lib.hid (HC.out.ext hE)
            have HE2 := Lib.hid (Ext.trans HE.out hE)
            clear HA HB HC HE hE
            have HA := HA2
            clear HA2
            have HB := HB2
            clear HB2
            have HC := HC2
            clear HC2
            have HE := HE2
            clear HE2
            clear r1 r2
            obtain ⟨a0, a1, a2, a3, a4, a5, a6, a7, a8⟩ := HA.out.cells
            obtain ⟨b0, b1, -, -, -⟩ := HB.out
            obtain ⟨c0, c1, c2, c3, c4, c5, c6, c7, c8⟩ := HC.out.cells
            go_wp2_with fail
            clear a0 a1 a2 a3 a4 a5 a6 a7 a8 b0 b1 c0 c1 c2 c3 c4 c5 c6 c7 c8
            obtain ⟨OX, hOX⟩ : ∃ x, bidR S.data.toList k = x := ⟨_, rfl⟩
            have hf := parsebid_any S k w9 HS.out
            have hok := @bid_ok S.data.toList k
            rw [hOX] at hf hok
            clear hOX
            obtain ⟨lb, lx, q, ie⟩ := OX
            simp only at hok
            have HOK := Lib.hid hok
            clear hok
            refine hf.mono ?_
            clear hf
            rintro e w10 ⟨LA, lc, rfl, hLM, hE⟩
            simp only at hLM ⊢
            obtain ⟨ln, hln⟩ : ∃ x, lx.length = x := ⟨_, rfl⟩
            rw [hln] at hLM ⊢
            have HLN := Lib.hid hln
            clear hln
            have HA2 := Lib.hid (HA.out.ext hE)
            have HB2 := Lib.hid (HB.out.ext hE)
            have HC2 := Lib.hid (HC.out.ext hE)
            have HE2 := Lib.hid (Ext.trans HE.out hE)
            clear HA HB HC HE hE
            have HA := HA2
            clear HA2
            have HB := HB2
            clear HB2
            have HC := HC2
            clear HC2
            have HE := HE2
            clear HE2
            have hD := Cell2.new w10 _ rfl (.int .i64 lb) (.slice LA ln lc) 33
            have hE : Ext w10 (w10.alloc (.cells #[.int .i64 lb, .slice LA ln lc] 33)) := Ext.al Ext.rfl' _
            have HLX := Lib.hid (hLM.below hE)
            clear hLM
            have HA2 := Lib.hid (HA.out.ext hE)
            have HB2 := Lib.hid (HB.out.ext hE)
            have HC2 := Lib.hid (HC.out.ext hE)
            have HE2 := Lib.hid (Ext.trans HE.out hE)
            clear HA HB HC HE hE
            have HA := HA2
            clear HA2
            have HB := HB2
            clear HB2
            have HC := HC2
            clear HC2
            have HE := HE2
            clear HE2
            have HD := Lib.hid hD
            clear hD
            by_cases hi : ie = 0
            · subst hi
              obtain ⟨hk0, hq1, hq2⟩ := HOK.out.1 rfl
              have r1 : decide (k < q) = true := decide_eq_true hq1
              have r2 : decide (q ≤ (S.size : Int)) = true := decide_eq_true (by rw [← size_list]; exact hq2)
              have HK0 := Lib.hid hk0
              have HLNE : Hid (ln ≤ 10) := by have := (bid_zs hk0).2.2; have := HLN.out; unfold Hid; omega
              clear hq1 hq2 hk0
              obtain ⟨a0, a1, a2, a3, a4, a5, a6, a7, a8⟩ := HA.out.cells
              obtain ⟨b0, b1, -, -, -⟩ := HB.out
              obtain ⟨c0, c1, c2, c3, c4, c5, c6, c7, c8⟩ := HC.out.cells
              obtain ⟨d0, d1, -, -, -⟩ := HD.out
              go_wp2_with fail
              clear a0 a1 a2 a3 a4 a5 a6 a7 a8 b0 b1 c0 c1 c2 c3 c4 c5 c6 c7 c8 d0 d1
              obtain ⟨Z, f3, hZ1, hZ2, hZ3, hZ4, hZ5⟩ := bid_packr lb lx
              obtain rfl : f3 = 0 := by rw [← hZ3]; exact HK0.out
              have hf := bfmtbid_any lb lx LA ln lc (w10.alloc (.cells #[.int .i64 lb, .slice LA ln lc] 33)) HLX.out (by have := HLNE.out; omega)
              rw [hZ1, hZ2] at hf
              have HZ5 := Lib.hid (hZ5 rfl)
              clear hZ1 hZ2 hZ3 hZ4 hZ5
              have HLX2 := HLX
              refine hf.mono ?_
              clear hf
              rintro e w11 ⟨rfl, hE⟩
              have HLX := Lib.hid (HLX2.out.below hE)
              clear HLX2
              have HA2 := Lib.hid (HA.out.ext hE)
              have HB2 := Lib.hid (HB.out.ext hE)
              have HC2 := Lib.hid (HC.out.ext hE)
              have HD2 := Lib.hid (HD.out.ext hE)
              have HE2 := Lib.hid (Ext.trans HE.out hE)
              clear HA HB HC HD HE hE
              have HA := HA2
              clear HA2
              have HB := HB2
              clear HB2
              have HC := HC2
              clear HC2
              have HD := HD2
              clear HD2
              have HE := HE2
              clear HE2
              obtain ⟨a0, a1, a2, a3, a4, a5, a6, a7, a8⟩ := HA.out.cells
              obtain ⟨b0, b1, -, -, -⟩ := HB.out
              obtain ⟨c0, c1, c2, c3, c4, c5, c6, c7, c8⟩ := HC.out.cells
              obtain ⟨d0, d1, -, -, -⟩ := HD.out
              go_wp2_with fail
              clear a0 a1 a2 a3 a4 a5 a6 a7 a8 b0 b1 c0 c1 c2 c3 c4 c5 c6 c7 c8 d0 d1
              refine (bt_bid Z 0 lb lx LA ln lc (Z.size : Int) 0 w11 HZ5.out.2 HLX.out (by have := HZ5.out.1; unfold maxLen; omega) (by have := HLNE.out; omega)).mono ?_
              rintro e w12 ⟨rfl, hE⟩
              have HA2 := Lib.hid (HA.out.ext hE)
              have HB2 := Lib.hid (HB.out.ext hE)
              have HC2 := Lib.hid (HC.out.ext hE)
              have HD2 := Lib.hid (HD.out.ext hE)
              have HE2 := Lib.hid (Ext.trans HE.out hE)
              clear HA HB HC HD HE hE
              have HA := HA2
              clear HA2
              have HB := HB2
              clear HB2
              have HC := HC2
              clear HC2
              have HD := HD2
              clear HD2
              have HE := HE2
              clear HE2
              obtain ⟨a0, a1, a2, a3, a4, a5, a6, a7, a8⟩ := HA.out.cells
              obtain ⟨b0, b1, -, -, -⟩ := HB.out
              obtain ⟨c0, c1, c2, c3, c4, c5, c6, c7, c8⟩ := HC.out.cells
              obtain ⟨d0, d1, -, -, -⟩ := HD.out
              go_wp2_with fail
              go_ret
              exact ⟨rfl, HE.out⟩
            · have hq := HOK.out.2 hi
              subst hq
              have i1 : (ie != 0) = true := by simp [hi]
              have i2 : (ie == 0) = false := by simp [hi]
              clear hi
              obtain ⟨a0, a1, a2, a3, a4, a5, a6, a7, a8⟩ := HA.out.cells
              obtain ⟨b0, b1, -, -, -⟩ := HB.out
              obtain ⟨c0, c1, c2, c3, c4, c5, c6, c7, c8⟩ := HC.out.cells
              obtain ⟨d0, d1, -, -, -⟩ := HD.out
              go_wp2_with fail
              go_ret
              exact ⟨rfl, HE.out⟩
          · have g1 : (g == 0) = false := by simp [hg]
            have g2 : (g != 0) = true := by simp [hg]
            clear hg
            obtain ⟨a0, a1, a2, a3, a4, a5, a6, a7, a8⟩ := HA.out.cells
            obtain ⟨b0, b1, -, -, -⟩ := HB.out
            obtain ⟨c0, c1, c2, c3, c4, c5, c6, c7, c8⟩ := HC.out.cells
            go_wp2_with fail
            clear a0 a1 a2 a3 a4 a5 a6 a7 a8 b0 b1 c0 c1 c2 c3 c4 c5 c6 c7 c8
            obtain ⟨OX, hOX⟩ : ∃ x, bidR S.data.toList k = x := ⟨_, rfl⟩
            have hf := parsebid_any S k (w7.alloc (.cells #[.int .i64 mu.bus, .int .i64 mu.mn, .slice MA mn mc, .int .i64 mu.up, .int .i64 mu.down, .int .i64 mu.start, .int .i64 mu.idle, .int .i64 mu.spin, .int .i64 mu.on] 30)) HS.out
            have hok := @bid_ok S.data.toList k
            rw [hOX] at hf hok
            clear hOX
            obtain ⟨lb, lx, q, ie⟩ := OX
            simp only at hok
            have HOK := Lib.hid hok
            clear hok
            refine hf.mono ?_
            clear hf
            rintro e w8 ⟨LA, lc, rfl, hLM, hE⟩
            simp only at hLM ⊢
            obtain ⟨ln, hln⟩ : ∃ x, lx.length = x := ⟨_, rfl⟩
            rw [hln] at hLM ⊢
            have HLN := Lib.hid hln
            clear hln
            have HA2 := Lib.hid (HA.out.ext hE)
            have HB2 := Lib.hid (HB.out.ext hE)
            have HC2 := Lib.hid (HC.out.ext hE)
            have HE2 := Lib.hid (Ext.trans HE.out hE)
            clear HA HB HC HE hE
            have HA := HA2
            clear HA2
            have HB := HB2
            clear HB2
            have HC := HC2
            clear HC2
            have HE := HE2
            clear HE2
            have hD := Cell2.new w8 _ rfl (.int .i64 lb) (.slice LA ln lc) 33
            have hE : Ext w8 (w8.alloc (.cells #[.int .i64 lb, .slice LA ln lc] 33)) := Ext.al Ext.rfl' _
            have HLX := Lib.hid (hLM.below hE)
            clear hLM
            have HA2 := Lib.hid (HA.out.ext hE)
            have HB2 := Lib.hid (HB.out.ext hE)
            have HC2 := Lib.hid (HC.out.ext hE)
            have HE2 := Lib.hid (Ext.trans HE.out hE)
            clear HA HB HC HE hE
            have HA := HA2
            clear HA2
            have HB := HB2
            clear HB2
            have HC := HC2
            clear HC2
            have HE := HE2
            clear HE2
            have HD := Lib.hid hD
            clear hD
            by_cases hi : ie = 0
            · subst hi
              obtain ⟨hk0, hq1, hq2⟩ := HOK.out.1 rfl
              have r1 : decide (k < q) = true := decide_eq_true hq1
              have r2 : decide (q ≤ (S.size : Int)) = true := decide_eq_true (by rw [← size_list]; exact hq2)
              have HK0 := Lib.hid hk0
              have HLNE : Hid (ln ≤ 10) := by have := (bid_zs hk0).2.2; have := HLN.out; unfold Hid; omega
              clear hq1 hq2 hk0
              obtain ⟨a0, a1, a2, a3, a4, a5, a6, a7, a8⟩ := HA.out.cells
              obtain ⟨b0, b1, -, -, -⟩ := HB.out
              obtain ⟨c0, c1, c2, c3, c4, c5, c6, c7, c8⟩ := HC.out.cells
              obtain ⟨d0, d1, -, -, -⟩ := HD.out
              go_wp2_with fail
              clear a0 a1 a2 a3 a4 a5 a6 a7 a8 b0 b1 c0 c1 c2 c3 c4 c5 c6 c7 c8 d0 d1
              obtain ⟨Z, f3, hZ1, hZ2, hZ3, hZ4, hZ5⟩ := bid_packr lb lx
              obtain rfl : f3 = 0 := by rw [← hZ3]; exact HK0.out
              have hf := bfmtbid_any lb lx LA ln lc (w8.alloc (.cells #[.int .i64 lb, .slice LA ln lc] 33)) HLX.out (by have := HLNE.out; omega)
              rw [hZ1, hZ2] at hf
              have HZ5 := Lib.hid (hZ5 rfl)
              clear hZ1 hZ2 hZ3 hZ4 hZ5
              have HLX2 := HLX
              refine hf.mono ?_
              clear hf
              rintro e w9 ⟨rfl, hE⟩
              have HLX := Lib.hid (HLX2.out.below hE)
              clear HLX2
              have HA2 := Lib.hid (HA.out.ext hE)
              have HB2 := Lib.hid (HB.out.ext hE)
              have HC2 := Lib.hid (HC.out.ext hE)
              have HD2 := Lib.hid (HD.out.ext hE)
              have HE2 := Lib.hid (Ext.trans HE.out hE)
              clear HA HB HC HD HE hE
              have HA := HA2
              clear HA2
              have HB := HB2
              clear HB2
              have HC := HC2
              clear HC2
              have HD := HD2
              clear HD2
              have HE := HE2
              clear HE2
              obtain ⟨a0, a1, a2, a3, a4, a5, a6, a7, a8⟩ := HA.out.cells
              obtain ⟨b0, b1, -, -, -⟩ := HB.out
              obtain ⟨c0, c1, c2, c3, c4, c5, c6, c7, c8⟩ := HC.out.cells
              obtain ⟨d0, d1, -, -, -⟩ := HD.out
              go_wp2_with fail
              clear a0 a1 a2 a3 a4 a5 a6 a7 a8 b0 b1 c0 c1 c2 c3 c4 c5 c6 c7 c8 d0 d1
              refine (bt_bid Z 0 lb lx LA ln lc (Z.size : Int) 0 w9 HZ5.out.2 HLX.out (by have := HZ5.out.1; unfold maxLen; omega) (by have := HLNE.out; omega)).mono ?_
              rintro e w10 ⟨rfl, hE⟩
              have HA2 := Lib.hid (HA.out.ext hE)
              have HB2 := Lib.hid (HB.out.ext hE)
              have HC2 := Lib.hid (HC.out.ext hE)
              have HD2 := Lib.hid (HD.out.ext hE)
              have HE2 := Lib.hid (Ext.trans HE.out hE)
              clear HA HB HC HD HE hE
              have HA := HA2
              clear HA2
              have HB := HB2
              clear HB2
              have HC := HC2
              clear HC2
              have HD := HD2
              clear HD2
              have HE := HE2
              clear HE2
              obtain ⟨a0, a1, a2, a3, a4, a5, a6, a7, a8⟩ := HA.out.cells
              obtain ⟨b0, b1, -, -, -⟩ := HB.out
              obtain ⟨c0, c1, c2, c3, c4, c5, c6, c7, c8⟩ := HC.out.cells
              obtain ⟨d0, d1, -, -, -⟩ := HD.out
              go_wp2_with fail
              go_ret
              exact ⟨rfl, HE.out⟩
            · have hq := HOK.out.2 hi
              subst hq
              have i1 : (ie != 0) = true := by simp [hi]
              have i2 : (ie == 0) = false := by simp [hi]
              clear hi
              obtain ⟨a0, a1, a2, a3, a4, a5, a6, a7, a8⟩ := HA.out.cells
              obtain ⟨b0, b1, -, -, -⟩ := HB.out
              obtain ⟨c0, c1, c2, c3, c4, c5, c6, c7, c8⟩ := HC.out.cells
              obtain ⟨d0, d1, -, -, -⟩ := HD.out
              go_wp2_with fail
              go_ret
              exact ⟨rfl, HE.out⟩
end Go.Proofs.Ytkdbpcenehhopaa
