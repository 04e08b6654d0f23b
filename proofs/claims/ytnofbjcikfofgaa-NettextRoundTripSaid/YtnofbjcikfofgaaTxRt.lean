/- The law NettextRoundTrip returns true. Printed by gen_txrt.py. -/
import Derived.Test.YtnofbjcikfofgaaTxAw
import Derived.Test.YtnofbjcikfofgaaTxPl
namespace Go.Proofs.Ytnofbjcikfofgaa
open Go.RowKit
theorem size_list (S : ByteArray) : S.data.toList.length = S.size := rfl
theorem net_pack (b : Int) (ls : List (List Int)) (h4 : ∀ z ∈ ls, z.length = 4) : ∃ F : ByteArray, bs (netT b ls).1 = F ∧ (netT b ls).2 = netC b ls ∧ (netC b ls ≠ 0 → F = ⟨#[]⟩) ∧ (netC b ls = 0 → F.size ≤ 5000 ∧ netR F.data.toList 0 = ⟨b, ls, (F.size : Int), 0⟩) := by
  by_cases hc : netC b ls = 0
  · have e : netT b ls = (fmtT (netToks b ls), 0) := by unfold netT; rw [if_pos hc]
    rw [e]
    have hl := net_fmt_len hc
    refine ⟨_, rfl, hc.symm, fun h => absurd hc h, fun _ => ⟨by rw [bs_size]; simp only; omega, ?_⟩⟩
    have h := net_back [] [] hc h4 (by simp; omega)
    simp only [List.nil_append, List.append_nil, List.length_nil, Nat.zero_add] at h
    rw [bs_list, bs_size]
    exact h
  · have e : netT b ls = ([], netC b ls) := by unfold netT; rw [if_neg hc]
    rw [e]
    exact ⟨_, rfl, rfl, fun _ => rfl, fun h => absurd h hc⟩
theorem out_pack (kd wh fr to_ : Int) : ∃ (F : ByteArray) (f : Int), bs (outT kd wh fr to_).1 = F ∧ (outT kd wh fr to_).2 = f ∧ (f ≠ 0 → F = ⟨#[]⟩) ∧ (f = 0 → F.size ≤ 5000 ∧ outR F.data.toList 0 = ⟨kd, wh, fr, to_, (F.size : Int), 0⟩) ∧ ((kd = 1 ∨ kd = 2 ∨ kd = 3) → validO kd wh fr to_ = true → f = 0) := by
  by_cases hk : kd = 1 ∨ kd = 2 ∨ kd = 3
  · by_cases hv : validO kd wh fr to_ = true
    · have e : outT kd wh fr to_ = (fmtT (outToks kd wh fr to_), 0) := by unfold outT; rw [if_pos hk, if_pos hv]
      rw [e]
      have hl := out_fmt_len hk hv
      refine ⟨_, _, rfl, rfl, fun h => absurd rfl h, fun _ => ⟨by rw [bs_size]; simp only; omega, ?_⟩, fun _ _ => rfl⟩
      have h := out_back [] [] hk hv (by simp; omega)
      simp only [List.nil_append, List.append_nil, List.length_nil, Nat.zero_add] at h
      rw [bs_list, bs_size]
      exact h
    · have e : outT kd wh fr to_ = ([], 1) := by unfold outT; rw [if_pos hk, if_neg hv]
      rw [e]
      exact ⟨_, _, rfl, rfl, fun _ => rfl, fun h => (by cases h), fun _ h => absurd h hv⟩
  · have e : outT kd wh fr to_ = ([], 12) := by unfold outT; rw [if_neg hk]
    rw [e]
    exact ⟨_, _, rfl, rfl, fun _ => rfl, fun h => (by cases h), fun h => absurd h hk⟩
set_option maxRecDepth 100000 in
set_option maxHeartbeats 64000000 in
theorem rt_any (b : Int) (P : Option Addr) (n c : Nat) (ls : List (List Int)) (kd wh fr to_ : Int) (S : ByteArray) (k : Int) (w : World) (h : LinesAt w P n ls) (h4 : ∀ z ∈ ls, z.length = 4) (hS : S.size ≤ maxLen) :
    Calls Try.prog 4 #[.agg #[.int .i64 b, .slice P n c], .agg #[.int .u8 kd, .int .i64 wh, .int .i64 fr, .int .i64 to_], .string S, .int .i64 k] w fun e w' => e = .returned (.bool true) ∧ Ext w w' := by
  have H := Lib.hid h
  have H4 := Lib.hid h4
  have HS := Lib.hid hS
  clear h h4 hS
  go_enter Try.func4, Try.ntmps4
  have hA := Cell2.new w _ rfl (.int .i64 b) (.slice P n c) 31
  have hAB : Ext (w.alloc (.cells #[.int .i64 b, .slice P n c] 31)) ((w.alloc (.cells #[.int .i64 b, .slice P n c] 31)).alloc (.cells #[.int .u8 kd, .int .i64 wh, .int .i64 fr, .int .i64 to_] 34)) := Ext.al Ext.rfl' _
  have hB := Cell4.new (w.alloc (.cells #[.int .i64 b, .slice P n c] 31)) _ rfl (.int .u8 kd) (.int .i64 wh) (.int .i64 fr) (.int .i64 to_) 34
  have hE0 : Ext w ((w.alloc (.cells #[.int .i64 b, .slice P n c] 31)).alloc (.cells #[.int .u8 kd, .int .i64 wh, .int .i64 fr, .int .i64 to_] 34)) := Ext.trans (Ext.al Ext.rfl' _) hAB
  have hA2 := hA.ext hAB
  have he : (w.alloc (.cells #[.int .i64 b, .slice P n c] 31)).heap.size = w.heap.size + 1 := by simp
  rw [he] at hB
  have HA := Lib.hid hA2
  have HB := Lib.hid hB
  have HE := Lib.hid hE0
  clear hA hAB hB hE0 hA2 he
  obtain ⟨a0, a1, -, -, -⟩ := HA.out
  obtain ⟨⟨b0, b1, b2, b3⟩, -, -⟩ := HB.out
  go_wp2_with fail
  clear a0 a1 b0 b1 b2 b3
  generalize ((w.alloc (.cells #[.int .i64 b, .slice P n c] 31)).alloc (.cells #[.int .u8 kd, .int .i64 wh, .int .i64 fr, .int .i64 to_] 34)) = w0 at *
  obtain ⟨ga, hga⟩ : ∃ x, w.heap.size = x := ⟨_, rfl⟩
  rw [hga] at HA HB ⊢
  clear hga
  obtain ⟨gb, hgb⟩ : ∃ x, ga + 1 = x := ⟨_, rfl⟩
  rw [hgb] at HB ⊢
  clear hgb
  refine (long_any S b P n c w0).mono ?_
  rintro e w1 ⟨rfl, hE⟩
  have HA2 := Lib.hid (HA.out.ext hE)
  have HB2 := Lib.hid (HB.out.ext hE)
  have HE2 := Lib.hid (Ext.trans HE.out hE)
  clear HA HB HE hE
  have HA := HA2
  clear HA2
  have HB := HB2
  clear HB2
  have HE := HE2
  clear HE2
  obtain ⟨lg, hlg⟩ : ∃ v, (decide (5000 < S.size) || decide (40 < n)) = v := ⟨_, rfl⟩
  rw [hlg]
  have HLG := Lib.hid hlg
  clear hlg
  cases lg with
  | true =>
    obtain ⟨a0, a1, -, -, -⟩ := HA.out
    obtain ⟨⟨b0, b1, b2, b3⟩, -, -⟩ := HB.out
    go_wp2_with fail
    clear a0 a1 b0 b1 b2 b3
    refine (awake_true w1).mono ?_
    rintro e w2 ⟨rfl, hE⟩
    have HA2 := Lib.hid (HA.out.ext hE)
    have HB2 := Lib.hid (HB.out.ext hE)
    have HE2 := Lib.hid (Ext.trans HE.out hE)
    clear HA HB HE hE
    have HA := HA2
    clear HA2
    have HB := HB2
    clear HB2
    have HE := HE2
    clear HE2
    obtain ⟨a0, a1, -, -, -⟩ := HA.out
    obtain ⟨⟨b0, b1, b2, b3⟩, -, -⟩ := HB.out
    go_wp2_with fail
    go_ret
    exact ⟨rfl, HE.out⟩
  | false =>
    have HN : Hid (n ≤ 40 ∧ S.size ≤ 5000) := by
      have := HLG.out
      simp only [Bool.or_eq_false_iff, decide_eq_false_iff_not] at this
      exact ⟨by omega, by omega⟩
    clear HLG
    obtain ⟨a0, a1, -, -, -⟩ := HA.out
    obtain ⟨⟨b0, b1, b2, b3⟩, -, -⟩ := HB.out
    go_wp2_with fail
    clear a0 a1 b0 b1 b2 b3
    refine (awake_true w1).mono ?_
    rintro e w2 ⟨rfl, hE⟩
    have HA2 := Lib.hid (HA.out.ext hE)
    have HB2 := Lib.hid (HB.out.ext hE)
    have HE2 := Lib.hid (Ext.trans HE.out hE)
    clear HA HB HE hE
    have HA := HA2
    clear HA2
    have HB := HB2
    clear HB2
    have HE := HE2
    clear HE2
    obtain ⟨a0, a1, -, -, -⟩ := HA.out
    obtain ⟨⟨b0, b1, b2, b3⟩, -, -⟩ := HB.out
    go_wp2_with fail
    clear a0 a1 b0 b1 b2 b3
    obtain ⟨F, hF1, hF2, hF3, hF4⟩ := net_pack b ls H4.out
    have hf := fmtnet_any b P n c ls w2 (H.out.ext HE.out) (by have := HN.out; omega)
    rw [hF1, hF2] at hf
    obtain ⟨nc, hnc⟩ : ∃ x, netC b ls = x := ⟨_, rfl⟩
    rw [hnc] at hf hF3 hF4
    have HNC := Lib.hid hnc
    have HF3 := Lib.hid hF3
    have HF4 := Lib.hid hF4
    clear hF1 hF2 hF3 hF4 hnc
    refine (hf).mono ?_
    rintro e w3 ⟨rfl, hE⟩
    have HA2 := Lib.hid (HA.out.ext hE)
    have HB2 := Lib.hid (HB.out.ext hE)
    have HE2 := Lib.hid (Ext.trans HE.out hE)
    clear HA HB HE hE
    have HA := HA2
    clear HA2
    have HB := HB2
    clear HB2
    have HE := HE2
    clear HE2
    clear hf
    obtain ⟨a0, a1, -, -, -⟩ := HA.out
    obtain ⟨⟨b0, b1, b2, b3⟩, -, -⟩ := HB.out
    go_wp2_with fail
    clear a0 a1 b0 b1 b2 b3
    obtain ⟨Y, f, hY1, hY2, hY3, hY4, -⟩ := out_pack kd wh fr to_
    have hf := fmtout_any kd wh fr to_ w3
    rw [hY1, hY2] at hf
    have HY3 := Lib.hid hY3
    have HY4 := Lib.hid hY4
    clear hY1 hY2 hY3 hY4
    refine (hf).mono ?_
    rintro e w4 ⟨rfl, hE⟩
    have HA2 := Lib.hid (HA.out.ext hE)
    have HB2 := Lib.hid (HB.out.ext hE)
    have HE2 := Lib.hid (Ext.trans HE.out hE)
    clear HA HB HE hE
    have HA := HA2
    clear HA2
    have HB := HB2
    clear HB2
    have HE := HE2
    clear HE2
    clear hf
    by_cases hc : nc = 0
    · subst hc
      by_cases hf0 : f = 0
      · subst hf0
        obtain ⟨a0, a1, -, -, -⟩ := HA.out
        obtain ⟨⟨b0, b1, b2, b3⟩, -, -⟩ := HB.out
        go_wp2_with fail
        clear a0 a1 b0 b1 b2 b3
        have hf := ncheck_any b P n c ls w4 (H.out.ext HE.out) (by have := HN.out; omega)
        rw [HNC.out] at hf
        refine (hf).mono ?_
        rintro e w5 ⟨rfl, hE⟩
        have HA2 := Lib.hid (HA.out.ext hE)
        have HB2 := Lib.hid (HB.out.ext hE)
        have HE2 := Lib.hid (Ext.trans HE.out hE)
        clear HA HB HE hE
        have HA := HA2
        clear HA2
        have HB := HB2
        clear HB2
        have HE := HE2
        clear HE2
        clear hf
        obtain ⟨a0, a1, -, -, -⟩ := HA.out
        obtain ⟨⟨b0, b1, b2, b3⟩, -, -⟩ := HB.out
        go_wp2_with fail
        clear a0 a1 b0 b1 b2 b3
        refine (grid_true F 0 b P n c (F.size : Int) 0 ls w5 (HF4.out (by first | rfl | trivial)).2 (H.out.ext HE.out) (by have := (HF4.out (by first | rfl | trivial)).1; unfold maxLen; omega) (by have := HN.out; omega)).mono ?_
        rintro e w6 ⟨rfl, hE⟩
        have HA2 := Lib.hid (HA.out.ext hE)
        have HB2 := Lib.hid (HB.out.ext hE)
        have HE2 := Lib.hid (Ext.trans HE.out hE)
        clear HA HB HE hE
        have HA := HA2
        clear HA2
        have HB := HB2
        clear HB2
        have HE := HE2
        clear HE2
        obtain ⟨a0, a1, -, -, -⟩ := HA.out
        obtain ⟨⟨b0, b1, b2, b3⟩, -, -⟩ := HB.out
        go_wp2_with fail
        clear a0 a1 b0 b1 b2 b3
        refine (lost_true Y 0 kd wh fr to_ (Y.size : Int) 0 w6 (HY4.out (by first | rfl | trivial)).2 (by have := (HY4.out (by first | rfl | trivial)).1; unfold maxLen; omega)).mono ?_
        rintro e w7 ⟨rfl, hE⟩
        have HA2 := Lib.hid (HA.out.ext hE)
        have HB2 := Lib.hid (HB.out.ext hE)
        have HE2 := Lib.hid (Ext.trans HE.out hE)
        clear HA HB HE hE
        have HA := HA2
        clear HA2
        have HB := HB2
        clear HB2
        have HE := HE2
        clear HE2
        obtain ⟨a0, a1, -, -, -⟩ := HA.out
        obtain ⟨⟨b0, b1, b2, b3⟩, -, -⟩ := HB.out
        go_wp2_with fail
        clear a0 a1 b0 b1 b2 b3
        obtain ⟨NX, hNX⟩ : ∃ x, netR S.data.toList k = x := ⟨_, rfl⟩
        have hf := parsenet_any S k w7 HS.out
        have hok := @net_ok S.data.toList k
        rw [hNX] at hf hok
        clear hNX
        obtain ⟨mb, ml, p, g⟩ := NX
        simp only at hok
        have HOKN := Lib.hid hok
        clear hok
        refine hf.mono ?_
        clear hf
        rintro e w8 ⟨A, c2, rfl, hLM, hE⟩
        simp only at hLM ⊢
        obtain ⟨mn, hmn⟩ : ∃ x, ml.length = x := ⟨_, rfl⟩
        rw [hmn] at hLM ⊢
        have HMN := Lib.hid hmn
        clear hmn
        have HA2 := Lib.hid (HA.out.ext hE)
        have HB2 := Lib.hid (HB.out.ext hE)
        have HE2 := Lib.hid (Ext.trans HE.out hE)
        clear HA HB HE hE
        have HA := HA2
        clear HA2
        have HB := HB2
        clear HB2
        have HE := HE2
        clear HE2
        have hC := Cell2.new w8 _ rfl (.int .i64 mb) (.slice A mn c2) 31
        have hE : Ext w8 (w8.alloc (.cells #[.int .i64 mb, .slice A mn c2] 31)) := Ext.al Ext.rfl' _
        have HLM := Lib.hid (hLM.ext hE)
        clear hLM
        have HA2 := Lib.hid (HA.out.ext hE)
        have HB2 := Lib.hid (HB.out.ext hE)
        have HE2 := Lib.hid (Ext.trans HE.out hE)
        clear HA HB HE hE
        have HA := HA2
        clear HA2
        have HB := HB2
        clear HB2
        have HE := HE2
        clear HE2
        have HC := Lib.hid hC
        clear hC
        by_cases hg : g = 0
        · subst hg
          obtain ⟨hm0, hm4, hp1, hp2⟩ := HOKN.out rfl
          have r1 : decide (p ≤ k) = false := decide_eq_false (by omega)
          have r2 : decide ((S.size : Int) < p) = false := decide_eq_false (by rw [← size_list]; omega)
          have HM0 := Lib.hid hm0
          have HM4 := Lib.hid hm4
          have HMLE : Hid (mn ≤ 10) := by have := (netC_ok hm0).2.1; have := HMN.out; unfold Hid; omega
          clear hm0 hm4 hp1 hp2
          obtain ⟨a0, a1, -, -, -⟩ := HA.out
          obtain ⟨⟨b0, b1, b2, b3⟩, -, -⟩ := HB.out
          obtain ⟨c0, c1, -, -, -⟩ := HC.out
          go_wp2_with fail
          clear a0 a1 b0 b1 b2 b3 c0 c1
          obtain ⟨Z0, hZ1, hZ2, hZ3, hZ4⟩ := net_pack mb ml HM4.out
          have hf := fmtnet_any mb A mn c2 ml (w8.alloc (.cells #[.int .i64 mb, .slice A mn c2] 31)) HLM.out (by have := HMLE.out; omega)
          rw [hZ1, hZ2, HM0.out] at hf
          have HZ0 := Lib.hid (hZ4 HM0.out)
          clear hZ1 hZ2 hZ3 hZ4
          have HLM2 := Lib.hid HLM.out
          refine hf.mono ?_
          clear hf
          rintro e w9 ⟨rfl, hE⟩
          have HLM := Lib.hid (HLM2.out.ext hE)
          clear HLM2
          have HA2 := Lib.hid (HA.out.ext hE)
          have HB2 := Lib.hid (HB.out.ext hE)
          have HE2 := Lib.hid (Ext.trans HE.out hE)
          have HC2 := Lib.hid (HC.out.ext hE)
          clear HA HB HE HC hE
          have HA := HA2
          clear HA2
          have HB := HB2
          clear HB2
          have HE := HE2
          clear HE2
          have HC := HC2
          clear HC2
          obtain ⟨a0, a1, -, -, -⟩ := HA.out
          obtain ⟨⟨b0, b1, b2, b3⟩, -, -⟩ := HB.out
          obtain ⟨c0, c1, -, -, -⟩ := HC.out
          go_wp2_with fail
          clear a0 a1 b0 b1 b2 b3 c0 c1
          have hf := ncheck_any mb A mn c2 ml w9 HLM.out (by have := HMLE.out; omega)
          rw [HM0.out] at hf
          refine hf.mono ?_
          clear hf
          rintro e w10 ⟨rfl, hE⟩
          have HLM3 := Lib.hid (HLM.out.ext hE)
          have HA2 := Lib.hid (HA.out.ext hE)
          have HB2 := Lib.hid (HB.out.ext hE)
          have HE2 := Lib.hid (Ext.trans HE.out hE)
          have HC2 := Lib.hid (HC.out.ext hE)
          clear HA HB HE HC hE
          have HA := HA2
          clear HA2
          have HB := HB2
          clear HB2
          have HE := HE2
          clear HE2
          have HC := HC2
          clear HC2
          obtain ⟨a0, a1, -, -, -⟩ := HA.out
          obtain ⟨⟨b0, b1, b2, b3⟩, -, -⟩ := HB.out
          obtain ⟨c0, c1, -, -, -⟩ := HC.out
          go_wp2_with fail
          clear a0 a1 b0 b1 b2 b3 c0 c1
          refine (grid_true Z0 0 mb A mn c2 (Z0.size : Int) 0 ml w10 HZ0.out.2 HLM3.out (by have := HZ0.out.1; unfold maxLen; omega) (by have := HMLE.out; omega)).mono ?_
          rintro e w11 ⟨rfl, hE⟩
          have HA2 := Lib.hid (HA.out.ext hE)
          have HB2 := Lib.hid (HB.out.ext hE)
          have HE2 := Lib.hid (Ext.trans HE.out hE)
          have HC2 := Lib.hid (HC.out.ext hE)
          clear HA HB HE HC hE
          have HA := HA2
          clear HA2
          have HB := HB2
          clear HB2
          have HE := HE2
          clear HE2
          have HC := HC2
          clear HC2
          clear r1 r2
          obtain ⟨a0, a1, -, -, -⟩ := HA.out
          obtain ⟨⟨b0, b1, b2, b3⟩, -, -⟩ := HB.out
          obtain ⟨c0, c1, -, -, -⟩ := HC.out
          go_wp2_with fail
          clear a0 a1 b0 b1 b2 b3 c0 c1
          obtain ⟨OX, hOX⟩ : ∃ x, outR S.data.toList k = x := ⟨_, rfl⟩
          have hf := parseout_any S k w11 HS.out
          have hok := @out_ok S.data.toList k
          rw [hOX] at hf hok
          clear hOX
          obtain ⟨lk, lw, lf, lt, q, ie⟩ := OX
          simp only at hok
          have HOK := Lib.hid hok
          clear hok
          refine hf.mono ?_
          clear hf
          rintro e w12 ⟨rfl, hE⟩
          simp only
          have HA2 := Lib.hid (HA.out.ext hE)
          have HB2 := Lib.hid (HB.out.ext hE)
          have HE2 := Lib.hid (Ext.trans HE.out hE)
          have HC2 := Lib.hid (HC.out.ext hE)
          clear HA HB HE HC hE
          have HA := HA2
          clear HA2
          have HB := HB2
          clear HB2
          have HE := HE2
          clear HE2
          have HC := HC2
          clear HC2
          have hD := Cell4.new w12 _ rfl (.int .u8 lk) (.int .i64 lw) (.int .i64 lf) (.int .i64 lt) 34
          have hE : Ext w12 (w12.alloc (.cells #[.int .u8 lk, .int .i64 lw, .int .i64 lf, .int .i64 lt] 34)) := Ext.al Ext.rfl' _
          have HA2 := Lib.hid (HA.out.ext hE)
          have HB2 := Lib.hid (HB.out.ext hE)
          have HE2 := Lib.hid (Ext.trans HE.out hE)
          have HC2 := Lib.hid (HC.out.ext hE)
          clear HA HB HE HC hE
          have HA := HA2
          clear HA2
          have HB := HB2
          clear HB2
          have HE := HE2
          clear HE2
          have HC := HC2
          clear HC2
          have HD := Lib.hid hD
          clear hD
          obtain ⟨gd, hgd⟩ : ∃ x, w12.heap.size = x := ⟨_, rfl⟩
          clear hgd gd
          by_cases hi : ie = 0
          · subst hi
            obtain ⟨hk0, hv0, hq1, hq2⟩ := HOK.out.1 rfl
            have r1 : decide (k < q) = true := decide_eq_true hq1
            have r2 : decide (q ≤ (S.size : Int)) = true := decide_eq_true (by rw [← size_list]; exact hq2)
            have HK0 := Lib.hid hk0
            have HV0 := Lib.hid hv0
            clear hq1 hq2 hk0 hv0
            obtain ⟨a0, a1, -, -, -⟩ := HA.out
            obtain ⟨⟨b0, b1, b2, b3⟩, -, -⟩ := HB.out
            obtain ⟨c0, c1, -, -, -⟩ := HC.out
            obtain ⟨⟨d0, d1, d2, d3⟩, -, -⟩ := HD.out
            go_wp2_with fail
            clear a0 a1 b0 b1 b2 b3 c0 c1 d0 d1 d2 d3
            obtain ⟨Z, f3, hZ1, hZ2, hZ3, hZ4, hZ5⟩ := out_pack lk lw lf lt
            obtain rfl : f3 = 0 := hZ5 HK0.out HV0.out
            have hf := fmtout_any lk lw lf lt (w12.alloc (.cells #[.int .u8 lk, .int .i64 lw, .int .i64 lf, .int .i64 lt] 34))
            rw [hZ1, hZ2] at hf
            have HZ4 := Lib.hid (hZ4 rfl)
            clear hZ1 hZ2 hZ3 hZ4 hZ5
            refine (hf).mono ?_
            rintro e w14 ⟨rfl, hE⟩
            have HA2 := Lib.hid (HA.out.ext hE)
            have HB2 := Lib.hid (HB.out.ext hE)
            have HE2 := Lib.hid (Ext.trans HE.out hE)
            have HC2 := Lib.hid (HC.out.ext hE)
            have HD2 := Lib.hid (HD.out.ext hE)
            clear HA HB HE HC HD hE
            have HA := HA2
            clear HA2
            have HB := HB2
            clear HB2
            have HE := HE2
            clear HE2
            have HC := HC2
            clear HC2
            have HD := HD2
            clear HD2
            clear hf
            obtain ⟨a0, a1, -, -, -⟩ := HA.out
            obtain ⟨⟨b0, b1, b2, b3⟩, -, -⟩ := HB.out
            obtain ⟨c0, c1, -, -, -⟩ := HC.out
            obtain ⟨⟨d0, d1, d2, d3⟩, -, -⟩ := HD.out
            go_wp2_with fail
            clear a0 a1 b0 b1 b2 b3 c0 c1 d0 d1 d2 d3
            refine (lost_true Z 0 lk lw lf lt (Z.size : Int) 0 w14 HZ4.out.2 (by have := HZ4.out.1; unfold maxLen; omega)).mono ?_
            rintro e w15 ⟨rfl, hE⟩
            have HA2 := Lib.hid (HA.out.ext hE)
            have HB2 := Lib.hid (HB.out.ext hE)
            have HE2 := Lib.hid (Ext.trans HE.out hE)
            have HC2 := Lib.hid (HC.out.ext hE)
            have HD2 := Lib.hid (HD.out.ext hE)
            clear HA HB HE HC HD hE
            have HA := HA2
            clear HA2
            have HB := HB2
            clear HB2
            have HE := HE2
            clear HE2
            have HC := HC2
            clear HC2
            have HD := HD2
            clear HD2
            obtain ⟨a0, a1, -, -, -⟩ := HA.out
            obtain ⟨⟨b0, b1, b2, b3⟩, -, -⟩ := HB.out
            obtain ⟨c0, c1, -, -, -⟩ := HC.out
            obtain ⟨⟨d0, d1, d2, d3⟩, -, -⟩ := HD.out
            go_wp2_with fail
            go_ret
            exact ⟨rfl, HE.out⟩
          · have hq := HOK.out.2 hi
            subst hq
            have i1 : (ie != 0) = true := by simp [hi]
            have i2 : (ie == 0) = false := by simp [hi]
            clear hi
            obtain ⟨a0, a1, -, -, -⟩ := HA.out
            obtain ⟨⟨b0, b1, b2, b3⟩, -, -⟩ := HB.out
            obtain ⟨c0, c1, -, -, -⟩ := HC.out
            obtain ⟨⟨d0, d1, d2, d3⟩, -, -⟩ := HD.out
            go_wp2_with fail
            go_ret
            exact ⟨rfl, HE.out⟩
        · have g1 : (g == 0) = false := by simp [hg]
          have g2 : (g != 0) = true := by simp [hg]
          clear hg
          obtain ⟨a0, a1, -, -, -⟩ := HA.out
          obtain ⟨⟨b0, b1, b2, b3⟩, -, -⟩ := HB.out
          obtain ⟨c0, c1, -, -, -⟩ := HC.out
          go_wp2_with fail
          clear a0 a1 b0 b1 b2 b3 c0 c1
          obtain ⟨OX, hOX⟩ : ∃ x, outR S.data.toList k = x := ⟨_, rfl⟩
          have hf := parseout_any S k (w8.alloc (.cells #[.int .i64 mb, .slice A mn c2] 31)) HS.out
          have hok := @out_ok S.data.toList k
          rw [hOX] at hf hok
          clear hOX
          obtain ⟨lk, lw, lf, lt, q, ie⟩ := OX
          simp only at hok
          have HOK := Lib.hid hok
          clear hok
          refine hf.mono ?_
          clear hf
          rintro e w9 ⟨rfl, hE⟩
          simp only
          have HA2 := Lib.hid (HA.out.ext hE)
          have HB2 := Lib.hid (HB.out.ext hE)
          have HE2 := Lib.hid (Ext.trans HE.out hE)
          have HC2 := Lib.hid (HC.out.ext hE)
          clear HA HB HE HC hE
          have HA := HA2
          clear HA2
          have HB := HB2
          clear HB2
          have HE := HE2
          clear HE2
          have HC := HC2
          clear HC2
          have hD := Cell4.new w9 _ rfl (.int .u8 lk) (.int .i64 lw) (.int .i64 lf) (.int .i64 lt) 34
          have hE : Ext w9 (w9.alloc (.cells #[.int .u8 lk, .int .i64 lw, .int .i64 lf, .int .i64 lt] 34)) := Ext.al Ext.rfl' _
          have HA2 := Lib.hid (HA.out.ext hE)
          have HB2 := Lib.hid (HB.out.ext hE)
          have HE2 := Lib.hid (Ext.trans HE.out hE)
          have HC2 := Lib.hid (HC.out.ext hE)
          clear HA HB HE HC hE
          have HA := HA2
          clear HA2
          have HB := HB2
          clear HB2
          have HE := HE2
          clear HE2
          have HC := HC2
          clear HC2
          have HD := Lib.hid hD
          clear hD
          obtain ⟨gd, hgd⟩ : ∃ x, w9.heap.size = x := ⟨_, rfl⟩
          clear hgd gd
          by_cases hi : ie = 0
          · subst hi
            obtain ⟨hk0, hv0, hq1, hq2⟩ := HOK.out.1 rfl
            have r1 : decide (k < q) = true := decide_eq_true hq1
            have r2 : decide (q ≤ (S.size : Int)) = true := decide_eq_true (by rw [← size_list]; exact hq2)
            have HK0 := Lib.hid hk0
            have HV0 := Lib.hid hv0
            clear hq1 hq2 hk0 hv0
            obtain ⟨a0, a1, -, -, -⟩ := HA.out
            obtain ⟨⟨b0, b1, b2, b3⟩, -, -⟩ := HB.out
            obtain ⟨c0, c1, -, -, -⟩ := HC.out
            obtain ⟨⟨d0, d1, d2, d3⟩, -, -⟩ := HD.out
            go_wp2_with fail
            clear a0 a1 b0 b1 b2 b3 c0 c1 d0 d1 d2 d3
            obtain ⟨Z, f3, hZ1, hZ2, hZ3, hZ4, hZ5⟩ := out_pack lk lw lf lt
            obtain rfl : f3 = 0 := hZ5 HK0.out HV0.out
            have hf := fmtout_any lk lw lf lt (w9.alloc (.cells #[.int .u8 lk, .int .i64 lw, .int .i64 lf, .int .i64 lt] 34))
            rw [hZ1, hZ2] at hf
            have HZ4 := Lib.hid (hZ4 rfl)
            clear hZ1 hZ2 hZ3 hZ4 hZ5
            refine (hf).mono ?_
            rintro e w11 ⟨rfl, hE⟩
            have HA2 := Lib.hid (HA.out.ext hE)
            have HB2 := Lib.hid (HB.out.ext hE)
            have HE2 := Lib.hid (Ext.trans HE.out hE)
            have HC2 := Lib.hid (HC.out.ext hE)
            have HD2 := Lib.hid (HD.out.ext hE)
            clear HA HB HE HC HD hE
            have HA := HA2
            clear HA2
            have HB := HB2
            clear HB2
            have HE := HE2
            clear HE2
            have HC := HC2
            clear HC2
            have HD := HD2
            clear HD2
            clear hf
            obtain ⟨a0, a1, -, -, -⟩ := HA.out
            obtain ⟨⟨b0, b1, b2, b3⟩, -, -⟩ := HB.out
            obtain ⟨c0, c1, -, -, -⟩ := HC.out
            obtain ⟨⟨d0, d1, d2, d3⟩, -, -⟩ := HD.out
            go_wp2_with fail
            clear a0 a1 b0 b1 b2 b3 c0 c1 d0 d1 d2 d3
            refine (lost_true Z 0 lk lw lf lt (Z.size : Int) 0 w11 HZ4.out.2 (by have := HZ4.out.1; unfold maxLen; omega)).mono ?_
            rintro e w12 ⟨rfl, hE⟩
            have HA2 := Lib.hid (HA.out.ext hE)
            have HB2 := Lib.hid (HB.out.ext hE)
            have HE2 := Lib.hid (Ext.trans HE.out hE)
            have HC2 := Lib.hid (HC.out.ext hE)
            have HD2 := Lib.hid (HD.out.ext hE)
            clear HA HB HE HC HD hE
            have HA := HA2
            clear HA2
            have HB := HB2
            clear HB2
            have HE := HE2
            clear HE2
            have HC := HC2
            clear HC2
            have HD := HD2
            clear HD2
            obtain ⟨a0, a1, -, -, -⟩ := HA.out
            obtain ⟨⟨b0, b1, b2, b3⟩, -, -⟩ := HB.out
            obtain ⟨c0, c1, -, -, -⟩ := HC.out
            obtain ⟨⟨d0, d1, d2, d3⟩, -, -⟩ := HD.out
            go_wp2_with fail
            go_ret
            exact ⟨rfl, HE.out⟩
          · have hq := HOK.out.2 hi
            subst hq
            have i1 : (ie != 0) = true := by simp [hi]
            have i2 : (ie == 0) = false := by simp [hi]
            clear hi
            obtain ⟨a0, a1, -, -, -⟩ := HA.out
            obtain ⟨⟨b0, b1, b2, b3⟩, -, -⟩ := HB.out
            obtain ⟨c0, c1, -, -, -⟩ := HC.out
            obtain ⟨⟨d0, d1, d2, d3⟩, -, -⟩ := HD.out
            go_wp2_with fail
            go_ret
            exact ⟨rfl, HE.out⟩
      · obtain rfl := HY3.out hf0
        have f1 : (f == 0) = false := by simp [hf0]
        have f2 : (f != 0) = true := by simp [hf0]
        clear hf0
        obtain ⟨a0, a1, -, -, -⟩ := HA.out
        obtain ⟨⟨b0, b1, b2, b3⟩, -, -⟩ := HB.out
        go_wp2_with fail
        clear a0 a1 b0 b1 b2 b3
        have hf := ncheck_any b P n c ls w4 (H.out.ext HE.out) (by have := HN.out; omega)
        rw [HNC.out] at hf
        refine (hf).mono ?_
        rintro e w5 ⟨rfl, hE⟩
        have HA2 := Lib.hid (HA.out.ext hE)
        have HB2 := Lib.hid (HB.out.ext hE)
        have HE2 := Lib.hid (Ext.trans HE.out hE)
        clear HA HB HE hE
        have HA := HA2
        clear HA2
        have HB := HB2
        clear HB2
        have HE := HE2
        clear HE2
        clear hf
        obtain ⟨a0, a1, -, -, -⟩ := HA.out
        obtain ⟨⟨b0, b1, b2, b3⟩, -, -⟩ := HB.out
        go_wp2_with fail
        clear a0 a1 b0 b1 b2 b3
        refine (grid_true F 0 b P n c (F.size : Int) 0 ls w5 (HF4.out (by first | rfl | trivial)).2 (H.out.ext HE.out) (by have := (HF4.out (by first | rfl | trivial)).1; unfold maxLen; omega) (by have := HN.out; omega)).mono ?_
        rintro e w6 ⟨rfl, hE⟩
        have HA2 := Lib.hid (HA.out.ext hE)
        have HB2 := Lib.hid (HB.out.ext hE)
        have HE2 := Lib.hid (Ext.trans HE.out hE)
        clear HA HB HE hE
        have HA := HA2
        clear HA2
        have HB := HB2
        clear HB2
        have HE := HE2
        clear HE2
        obtain ⟨a0, a1, -, -, -⟩ := HA.out
        obtain ⟨⟨b0, b1, b2, b3⟩, -, -⟩ := HB.out
        go_wp2_with fail
        clear a0 a1 b0 b1 b2 b3
        obtain ⟨NX, hNX⟩ : ∃ x, netR S.data.toList k = x := ⟨_, rfl⟩
        have hf := parsenet_any S k w6 HS.out
        have hok := @net_ok S.data.toList k
        rw [hNX] at hf hok
        clear hNX
        obtain ⟨mb, ml, p, g⟩ := NX
        simp only at hok
        have HOKN := Lib.hid hok
        clear hok
        refine hf.mono ?_
        clear hf
        rintro e w7 ⟨A, c2, rfl, hLM, hE⟩
        simp only at hLM ⊢
        obtain ⟨mn, hmn⟩ : ∃ x, ml.length = x := ⟨_, rfl⟩
        rw [hmn] at hLM ⊢
        have HMN := Lib.hid hmn
        clear hmn
        have HA2 := Lib.hid (HA.out.ext hE)
        have HB2 := Lib.hid (HB.out.ext hE)
        have HE2 := Lib.hid (Ext.trans HE.out hE)
        clear HA HB HE hE
        have HA := HA2
        clear HA2
        have HB := HB2
        clear HB2
        have HE := HE2
        clear HE2
        have hC := Cell2.new w7 _ rfl (.int .i64 mb) (.slice A mn c2) 31
        have hE : Ext w7 (w7.alloc (.cells #[.int .i64 mb, .slice A mn c2] 31)) := Ext.al Ext.rfl' _
        have HLM := Lib.hid (hLM.ext hE)
        clear hLM
        have HA2 := Lib.hid (HA.out.ext hE)
        have HB2 := Lib.hid (HB.out.ext hE)
        have HE2 := Lib.hid (Ext.trans HE.out hE)
        clear HA HB HE hE
        have HA := HA2
        clear HA2
        have HB := HB2
        clear HB2
        have HE := HE2
        clear HE2
        have HC := Lib.hid hC
        clear hC
        by_cases hg : g = 0
        · subst hg
          obtain ⟨hm0, hm4, hp1, hp2⟩ := HOKN.out rfl
          have r1 : decide (p ≤ k) = false := decide_eq_false (by omega)
          have r2 : decide ((S.size : Int) < p) = false := decide_eq_false (by rw [← size_list]; omega)
          have HM0 := Lib.hid hm0
          have HM4 := Lib.hid hm4
          have HMLE : Hid (mn ≤ 10) := by have := (netC_ok hm0).2.1; have := HMN.out; unfold Hid; omega
          clear hm0 hm4 hp1 hp2
          obtain ⟨a0, a1, -, -, -⟩ := HA.out
          obtain ⟨⟨b0, b1, b2, b3⟩, -, -⟩ := HB.out
          obtain ⟨c0, c1, -, -, -⟩ := HC.out
          go_wp2_with fail
          clear a0 a1 b0 b1 b2 b3 c0 c1
          obtain ⟨Z0, hZ1, hZ2, hZ3, hZ4⟩ := net_pack mb ml HM4.out
          have hf := fmtnet_any mb A mn c2 ml (w7.alloc (.cells #[.int .i64 mb, .slice A mn c2] 31)) HLM.out (by have := HMLE.out; omega)
          rw [hZ1, hZ2, HM0.out] at hf
          have HZ0 := Lib.hid (hZ4 HM0.out)
          clear hZ1 hZ2 hZ3 hZ4
          have HLM2 := Lib.hid HLM.out
          refine hf.mono ?_
          clear hf
          rintro e w8 ⟨rfl, hE⟩
          have HLM := Lib.hid (HLM2.out.ext hE)
          clear HLM2
          have HA2 := Lib.hid (HA.out.ext hE)
          have HB2 := Lib.hid (HB.out.ext hE)
          have HE2 := Lib.hid (Ext.trans HE.out hE)
          have HC2 := Lib.hid (HC.out.ext hE)
          clear HA HB HE HC hE
          have HA := HA2
          clear HA2
          have HB := HB2
          clear HB2
          have HE := HE2
          clear HE2
          have HC := HC2
          clear HC2
          obtain ⟨a0, a1, -, -, -⟩ := HA.out
          obtain ⟨⟨b0, b1, b2, b3⟩, -, -⟩ := HB.out
          obtain ⟨c0, c1, -, -, -⟩ := HC.out
          go_wp2_with fail
          clear a0 a1 b0 b1 b2 b3 c0 c1
          have hf := ncheck_any mb A mn c2 ml w8 HLM.out (by have := HMLE.out; omega)
          rw [HM0.out] at hf
          refine hf.mono ?_
          clear hf
          rintro e w9 ⟨rfl, hE⟩
          have HLM3 := Lib.hid (HLM.out.ext hE)
          have HA2 := Lib.hid (HA.out.ext hE)
          have HB2 := Lib.hid (HB.out.ext hE)
          have HE2 := Lib.hid (Ext.trans HE.out hE)
          have HC2 := Lib.hid (HC.out.ext hE)
          clear HA HB HE HC hE
          have HA := HA2
          clear HA2
          have HB := HB2
          clear HB2
          have HE := HE2
          clear HE2
          have HC := HC2
          clear HC2
          obtain ⟨a0, a1, -, -, -⟩ := HA.out
          obtain ⟨⟨b0, b1, b2, b3⟩, -, -⟩ := HB.out
          obtain ⟨c0, c1, -, -, -⟩ := HC.out
          go_wp2_with fail
          clear a0 a1 b0 b1 b2 b3 c0 c1
          refine (grid_true Z0 0 mb A mn c2 (Z0.size : Int) 0 ml w9 HZ0.out.2 HLM3.out (by have := HZ0.out.1; unfold maxLen; omega) (by have := HMLE.out; omega)).mono ?_
          rintro e w10 ⟨rfl, hE⟩
          have HA2 := Lib.hid (HA.out.ext hE)
          have HB2 := Lib.hid (HB.out.ext hE)
          have HE2 := Lib.hid (Ext.trans HE.out hE)
          have HC2 := Lib.hid (HC.out.ext hE)
          clear HA HB HE HC hE
          have HA := HA2
          clear HA2
          have HB := HB2
          clear HB2
          have HE := HE2
          clear HE2
          have HC := HC2
          clear HC2
          clear r1 r2
          obtain ⟨a0, a1, -, -, -⟩ := HA.out
          obtain ⟨⟨b0, b1, b2, b3⟩, -, -⟩ := HB.out
          obtain ⟨c0, c1, -, -, -⟩ := HC.out
          go_wp2_with fail
          clear a0 a1 b0 b1 b2 b3 c0 c1
          obtain ⟨OX, hOX⟩ : ∃ x, outR S.data.toList k = x := ⟨_, rfl⟩
          have hf := parseout_any S k w10 HS.out
          have hok := @out_ok S.data.toList k
          rw [hOX] at hf hok
          clear hOX
          obtain ⟨lk, lw, lf, lt, q, ie⟩ := OX
          simp only at hok
          have HOK := Lib.hid hok
          clear hok
          refine hf.mono ?_
          clear hf
          rintro e w11 ⟨rfl, hE⟩
          simp only
          have HA2 := Lib.hid (HA.out.ext hE)
          have HB2 := Lib.hid (HB.out.ext hE)
          have HE2 := Lib.hid (Ext.trans HE.out hE)
          have HC2 := Lib.hid (HC.out.ext hE)
          clear HA HB HE HC hE
          have HA := HA2
          clear HA2
          have HB := HB2
          clear HB2
          have HE := HE2
          clear HE2
          have HC := HC2
          clear HC2
          have hD := Cell4.new w11 _ rfl (.int .u8 lk) (.int .i64 lw) (.int .i64 lf) (.int .i64 lt) 34
          have hE : Ext w11 (w11.alloc (.cells #[.int .u8 lk, .int .i64 lw, .int .i64 lf, .int .i64 lt] 34)) := Ext.al Ext.rfl' _
          have HA2 := Lib.hid (HA.out.ext hE)
          have HB2 := Lib.hid (HB.out.ext hE)
          have HE2 := Lib.hid (Ext.trans HE.out hE)
          have HC2 := Lib.hid (HC.out.ext hE)
          clear HA HB HE HC hE
          have HA := HA2
          clear HA2
          have HB := HB2
          clear HB2
          have HE := HE2
          clear HE2
          have HC := HC2
          clear HC2
          have HD := Lib.hid hD
          clear hD
          obtain ⟨gd, hgd⟩ : ∃ x, w11.heap.size = x := ⟨_, rfl⟩
          clear hgd gd
          by_cases hi : ie = 0
          · subst hi
            obtain ⟨hk0, hv0, hq1, hq2⟩ := HOK.out.1 rfl
            have r1 : decide (k < q) = true := decide_eq_true hq1
            have r2 : decide (q ≤ (S.size : Int)) = true := decide_eq_true (by rw [← size_list]; exact hq2)
            have HK0 := Lib.hid hk0
            have HV0 := Lib.hid hv0
            clear hq1 hq2 hk0 hv0
            obtain ⟨a0, a1, -, -, -⟩ := HA.out
            obtain ⟨⟨b0, b1, b2, b3⟩, -, -⟩ := HB.out
            obtain ⟨c0, c1, -, -, -⟩ := HC.out
            obtain ⟨⟨d0, d1, d2, d3⟩, -, -⟩ := HD.out
            go_wp2_with fail
            clear a0 a1 b0 b1 b2 b3 c0 c1 d0 d1 d2 d3
            obtain ⟨Z, f3, hZ1, hZ2, hZ3, hZ4, hZ5⟩ := out_pack lk lw lf lt
            obtain rfl : f3 = 0 := hZ5 HK0.out HV0.out
            have hf := fmtout_any lk lw lf lt (w11.alloc (.cells #[.int .u8 lk, .int .i64 lw, .int .i64 lf, .int .i64 lt] 34))
            rw [hZ1, hZ2] at hf
            have HZ4 := Lib.hid (hZ4 rfl)
            clear hZ1 hZ2 hZ3 hZ4 hZ5
            refine (hf).mono ?_
            rintro e w13 ⟨rfl, hE⟩
            have HA2 := Lib.hid (HA.out.ext hE)
            have HB2 := Lib.hid (HB.out.ext hE)
            have HE2 := Lib.hid (Ext.trans HE.out hE)
            have HC2 := Lib.hid (HC.out.ext hE)
            have HD2 := Lib.hid (HD.out.ext hE)
            clear HA HB HE HC HD hE
            have HA := HA2
            clear HA2
            have HB := HB2
            clear HB2
            have HE := HE2
            clear HE2
            have HC := HC2
            clear HC2
            have HD := HD2
            clear HD2
            clear hf
            obtain ⟨a0, a1, -, -, -⟩ := HA.out
            obtain ⟨⟨b0, b1, b2, b3⟩, -, -⟩ := HB.out
            obtain ⟨c0, c1, -, -, -⟩ := HC.out
            obtain ⟨⟨d0, d1, d2, d3⟩, -, -⟩ := HD.out
            go_wp2_with fail
            clear a0 a1 b0 b1 b2 b3 c0 c1 d0 d1 d2 d3
            refine (lost_true Z 0 lk lw lf lt (Z.size : Int) 0 w13 HZ4.out.2 (by have := HZ4.out.1; unfold maxLen; omega)).mono ?_
            rintro e w14 ⟨rfl, hE⟩
            have HA2 := Lib.hid (HA.out.ext hE)
            have HB2 := Lib.hid (HB.out.ext hE)
            have HE2 := Lib.hid (Ext.trans HE.out hE)
            have HC2 := Lib.hid (HC.out.ext hE)
            have HD2 := Lib.hid (HD.out.ext hE)
            clear HA HB HE HC HD hE
            have HA := HA2
            clear HA2
            have HB := HB2
            clear HB2
            have HE := HE2
            clear HE2
            have HC := HC2
            clear HC2
            have HD := HD2
            clear HD2
            obtain ⟨a0, a1, -, -, -⟩ := HA.out
            obtain ⟨⟨b0, b1, b2, b3⟩, -, -⟩ := HB.out
            obtain ⟨c0, c1, -, -, -⟩ := HC.out
            obtain ⟨⟨d0, d1, d2, d3⟩, -, -⟩ := HD.out
            go_wp2_with fail
            go_ret
            exact ⟨rfl, HE.out⟩
          · have hq := HOK.out.2 hi
            subst hq
            have i1 : (ie != 0) = true := by simp [hi]
            have i2 : (ie == 0) = false := by simp [hi]
            clear hi
            obtain ⟨a0, a1, -, -, -⟩ := HA.out
            obtain ⟨⟨b0, b1, b2, b3⟩, -, -⟩ := HB.out
            obtain ⟨c0, c1, -, -, -⟩ := HC.out
            obtain ⟨⟨d0, d1, d2, d3⟩, -, -⟩ := HD.out
            go_wp2_with fail
            go_ret
            exact ⟨rfl, HE.out⟩
        · have g1 : (g == 0) = false := by simp [hg]
          have g2 : (g != 0) = true := by simp [hg]
          clear hg
          obtain ⟨a0, a1, -, -, -⟩ := HA.out
          obtain ⟨⟨b0, b1, b2, b3⟩, -, -⟩ := HB.out
          obtain ⟨c0, c1, -, -, -⟩ := HC.out
          go_wp2_with fail
          clear a0 a1 b0 b1 b2 b3 c0 c1
          obtain ⟨OX, hOX⟩ : ∃ x, outR S.data.toList k = x := ⟨_, rfl⟩
          have hf := parseout_any S k (w7.alloc (.cells #[.int .i64 mb, .slice A mn c2] 31)) HS.out
          have hok := @out_ok S.data.toList k
          rw [hOX] at hf hok
          clear hOX
          obtain ⟨lk, lw, lf, lt, q, ie⟩ := OX
          simp only at hok
          have HOK := Lib.hid hok
          clear hok
          refine hf.mono ?_
          clear hf
          rintro e w8 ⟨rfl, hE⟩
          simp only
          have HA2 := Lib.hid (HA.out.ext hE)
          have HB2 := Lib.hid (HB.out.ext hE)
          have HE2 := Lib.hid (Ext.trans HE.out hE)
          have HC2 := Lib.hid (HC.out.ext hE)
          clear HA HB HE HC hE
          have HA := HA2
          clear HA2
          have HB := HB2
          clear HB2
          have HE := HE2
          clear HE2
          have HC := HC2
          clear HC2
          have hD := Cell4.new w8 _ rfl (.int .u8 lk) (.int .i64 lw) (.int .i64 lf) (.int .i64 lt) 34
          have hE : Ext w8 (w8.alloc (.cells #[.int .u8 lk, .int .i64 lw, .int .i64 lf, .int .i64 lt] 34)) := Ext.al Ext.rfl' _
          have HA2 := Lib.hid (HA.out.ext hE)
          have HB2 := Lib.hid (HB.out.ext hE)
          have HE2 := Lib.hid (Ext.trans HE.out hE)
          have HC2 := Lib.hid (HC.out.ext hE)
          clear HA HB HE HC hE
          have HA := HA2
          clear HA2
          have HB := HB2
          clear HB2
          have HE := HE2
          clear HE2
          have HC := HC2
          clear HC2
          have HD := Lib.hid hD
          clear hD
          obtain ⟨gd, hgd⟩ : ∃ x, w8.heap.size = x := ⟨_, rfl⟩
          clear hgd gd
          by_cases hi : ie = 0
          · subst hi
            obtain ⟨hk0, hv0, hq1, hq2⟩ := HOK.out.1 rfl
            have r1 : decide (k < q) = true := decide_eq_true hq1
            have r2 : decide (q ≤ (S.size : Int)) = true := decide_eq_true (by rw [← size_list]; exact hq2)
            have HK0 := Lib.hid hk0
            have HV0 := Lib.hid hv0
            clear hq1 hq2 hk0 hv0
            obtain ⟨a0, a1, -, -, -⟩ := HA.out
            obtain ⟨⟨b0, b1, b2, b3⟩, -, -⟩ := HB.out
            obtain ⟨c0, c1, -, -, -⟩ := HC.out
            obtain ⟨⟨d0, d1, d2, d3⟩, -, -⟩ := HD.out
            go_wp2_with fail
            clear a0 a1 b0 b1 b2 b3 c0 c1 d0 d1 d2 d3
            obtain ⟨Z, f3, hZ1, hZ2, hZ3, hZ4, hZ5⟩ := out_pack lk lw lf lt
            obtain rfl : f3 = 0 := hZ5 HK0.out HV0.out
            have hf := fmtout_any lk lw lf lt (w8.alloc (.cells #[.int .u8 lk, .int .i64 lw, .int .i64 lf, .int .i64 lt] 34))
            rw [hZ1, hZ2] at hf
            have HZ4 := Lib.hid (hZ4 rfl)
            clear hZ1 hZ2 hZ3 hZ4 hZ5
            refine (hf).mono ?_
            rintro e w10 ⟨rfl, hE⟩
            have HA2 := Lib.hid (HA.out.ext hE)
            have HB2 := Lib.hid (HB.out.ext hE)
            have HE2 := Lib.hid (Ext.trans HE.out hE)
            have HC2 := Lib.hid (HC.out.ext hE)
            have HD2 := Lib.hid (HD.out.ext hE)
            clear HA HB HE HC HD hE
            have HA := HA2
            clear HA2
            have HB := HB2
            clear HB2
            have HE := HE2
            clear HE2
            have HC := HC2
            clear HC2
            have HD := HD2
            clear HD2
            clear hf
            obtain ⟨a0, a1, -, -, -⟩ := HA.out
            obtain ⟨⟨b0, b1, b2, b3⟩, -, -⟩ := HB.out
            obtain ⟨c0, c1, -, -, -⟩ := HC.out
            obtain ⟨⟨d0, d1, d2, d3⟩, -, -⟩ := HD.out
            go_wp2_with fail
            clear a0 a1 b0 b1 b2 b3 c0 c1 d0 d1 d2 d3
            refine (lost_true Z 0 lk lw lf lt (Z.size : Int) 0 w10 HZ4.out.2 (by have := HZ4.out.1; unfold maxLen; omega)).mono ?_
            rintro e w11 ⟨rfl, hE⟩
            have HA2 := Lib.hid (HA.out.ext hE)
            have HB2 := Lib.hid (HB.out.ext hE)
            have HE2 := Lib.hid (Ext.trans HE.out hE)
            have HC2 := Lib.hid (HC.out.ext hE)
            have HD2 := Lib.hid (HD.out.ext hE)
            clear HA HB HE HC HD hE
            have HA := HA2
            clear HA2
            have HB := HB2
            clear HB2
            have HE := HE2
            clear HE2
            have HC := HC2
            clear HC2
            have HD := HD2
            clear HD2
            obtain ⟨a0, a1, -, -, -⟩ := HA.out
            obtain ⟨⟨b0, b1, b2, b3⟩, -, -⟩ := HB.out
            obtain ⟨c0, c1, -, -, -⟩ := HC.out
            obtain ⟨⟨d0, d1, d2, d3⟩, -, -⟩ := HD.out
            go_wp2_with fail
            go_ret
            exact ⟨rfl, HE.out⟩
          · have hq := HOK.out.2 hi
            subst hq
            have i1 : (ie != 0) = true := by simp [hi]
            have i2 : (ie == 0) = false := by simp [hi]
            clear hi
            obtain ⟨a0, a1, -, -, -⟩ := HA.out
            obtain ⟨⟨b0, b1, b2, b3⟩, -, -⟩ := HB.out
            obtain ⟨c0, c1, -, -, -⟩ := HC.out
            obtain ⟨⟨d0, d1, d2, d3⟩, -, -⟩ := HD.out
            go_wp2_with fail
            go_ret
            exact ⟨rfl, HE.out⟩
    · obtain rfl := HF3.out hc
      have n1 : (nc == 0) = false := by simp [hc]
      have n2 : (nc != 0) = true := by simp [hc]
      have n3 : (nc != nc) = false := by simp
      clear hc
      by_cases hf0 : f = 0
      · subst hf0
        obtain ⟨a0, a1, -, -, -⟩ := HA.out
        obtain ⟨⟨b0, b1, b2, b3⟩, -, -⟩ := HB.out
        go_wp2_with fail
        clear a0 a1 b0 b1 b2 b3
        have hf := ncheck_any b P n c ls w4 (H.out.ext HE.out) (by have := HN.out; omega)
        rw [HNC.out] at hf
        refine (hf).mono ?_
        rintro e w5 ⟨rfl, hE⟩
        have HA2 := Lib.hid (HA.out.ext hE)
        have HB2 := Lib.hid (HB.out.ext hE)
        have HE2 := Lib.hid (Ext.trans HE.out hE)
        clear HA HB HE hE
        have HA := HA2
        clear HA2
        have HB := HB2
        clear HB2
        have HE := HE2
        clear HE2
        clear hf
        obtain ⟨a0, a1, -, -, -⟩ := HA.out
        obtain ⟨⟨b0, b1, b2, b3⟩, -, -⟩ := HB.out
        go_wp2_with fail
        clear a0 a1 b0 b1 b2 b3
        refine (lost_true Y 0 kd wh fr to_ (Y.size : Int) 0 w5 (HY4.out (by first | rfl | trivial)).2 (by have := (HY4.out (by first | rfl | trivial)).1; unfold maxLen; omega)).mono ?_
        rintro e w6 ⟨rfl, hE⟩
        have HA2 := Lib.hid (HA.out.ext hE)
        have HB2 := Lib.hid (HB.out.ext hE)
        have HE2 := Lib.hid (Ext.trans HE.out hE)
        clear HA HB HE hE
        have HA := HA2
        clear HA2
        have HB := HB2
        clear HB2
        have HE := HE2
        clear HE2
        obtain ⟨a0, a1, -, -, -⟩ := HA.out
        obtain ⟨⟨b0, b1, b2, b3⟩, -, -⟩ := HB.out
        go_wp2_with fail
        clear a0 a1 b0 b1 b2 b3
        obtain ⟨NX, hNX⟩ : ∃ x, netR S.data.toList k = x := ⟨_, rfl⟩
        have hf := parsenet_any S k w6 HS.out
        have hok := @net_ok S.data.toList k
        rw [hNX] at hf hok
        clear hNX
        obtain ⟨mb, ml, p, g⟩ := NX
        simp only at hok
        have HOKN := Lib.hid hok
        clear hok
        refine hf.mono ?_
        clear hf
        rintro e w7 ⟨A, c2, rfl, hLM, hE⟩
        simp only at hLM ⊢
        obtain ⟨mn, hmn⟩ : ∃ x, ml.length = x := ⟨_, rfl⟩
        rw [hmn] at hLM ⊢
        have HMN := Lib.hid hmn
        clear hmn
        have HA2 := Lib.hid (HA.out.ext hE)
        have HB2 := Lib.hid (HB.out.ext hE)
        have HE2 := Lib.hid (Ext.trans HE.out hE)
        clear HA HB HE hE
        have HA := HA2
        clear HA2
        have HB := HB2
        clear HB2
        have HE := HE2
        clear HE2
        have hC := Cell2.new w7 _ rfl (.int .i64 mb) (.slice A mn c2) 31
        have hE : Ext w7 (w7.alloc (.cells #[.int .i64 mb, .slice A mn c2] 31)) := Ext.al Ext.rfl' _
        have HLM := Lib.hid (hLM.ext hE)
        clear hLM
        have HA2 := Lib.hid (HA.out.ext hE)
        have HB2 := Lib.hid (HB.out.ext hE)
        have HE2 := Lib.hid (Ext.trans HE.out hE)
        clear HA HB HE hE
        have HA := HA2
        clear HA2
        have HB := HB2
        clear HB2
        have HE := HE2
        clear HE2
        have HC := Lib.hid hC
        clear hC
        by_cases hg : g = 0
        · subst hg
          obtain ⟨hm0, hm4, hp1, hp2⟩ := HOKN.out rfl
          have r1 : decide (p ≤ k) = false := decide_eq_false (by omega)
          have r2 : decide ((S.size : Int) < p) = false := decide_eq_false (by rw [← size_list]; omega)
          have HM0 := Lib.hid hm0
          have HM4 := Lib.hid hm4
          have HMLE : Hid (mn ≤ 10) := by have := (netC_ok hm0).2.1; have := HMN.out; unfold Hid; omega
          clear hm0 hm4 hp1 hp2
          obtain ⟨a0, a1, -, -, -⟩ := HA.out
          obtain ⟨⟨b0, b1, b2, b3⟩, -, -⟩ := HB.out
          obtain ⟨c0, c1, -, -, -⟩ := HC.out
          go_wp2_with fail
          clear a0 a1 b0 b1 b2 b3 c0 c1
          obtain ⟨Z0, hZ1, hZ2, hZ3, hZ4⟩ := net_pack mb ml HM4.out
          have hf := fmtnet_any mb A mn c2 ml (w7.alloc (.cells #[.int .i64 mb, .slice A mn c2] 31)) HLM.out (by have := HMLE.out; omega)
          rw [hZ1, hZ2, HM0.out] at hf
          have HZ0 := Lib.hid (hZ4 HM0.out)
          clear hZ1 hZ2 hZ3 hZ4
          have HLM2 := Lib.hid HLM.out
          refine hf.mono ?_
          clear hf
          rintro e w8 ⟨rfl, hE⟩
          have HLM := Lib.hid (HLM2.out.ext hE)
          clear HLM2
          have HA2 := Lib.hid (HA.out.ext hE)
          have HB2 := Lib.hid (HB.out.ext hE)
          have HE2 := Lib.hid (Ext.trans HE.out hE)
          have HC2 := Lib.hid (HC.out.ext hE)
          clear HA HB HE HC hE
          have HA := HA2
          clear HA2
          have HB := HB2
          clear HB2
          have HE := HE2
          clear HE2
          have HC := HC2
          clear HC2
          obtain ⟨a0, a1, -, -, -⟩ := HA.out
          obtain ⟨⟨b0, b1, b2, b3⟩, -, -⟩ := HB.out
          obtain ⟨c0, c1, -, -, -⟩ := HC.out
          go_wp2_with fail
          clear a0 a1 b0 b1 b2 b3 c0 c1
          have hf := ncheck_any mb A mn c2 ml w8 HLM.out (by have := HMLE.out; omega)
          rw [HM0.out] at hf
          refine hf.mono ?_
          clear hf
          rintro e w9 ⟨rfl, hE⟩
          have HLM3 := Lib.hid (HLM.out.ext hE)
          have HA2 := Lib.hid (HA.out.ext hE)
          have HB2 := Lib.hid (HB.out.ext hE)
          have HE2 := Lib.hid (Ext.trans HE.out hE)
          have HC2 := Lib.hid (HC.out.ext hE)
          clear HA HB HE HC hE
          have HA := HA2
          clear HA2
          have HB := HB2
          clear HB2
          have HE := HE2
          clear HE2
          have HC := HC2
          clear HC2
          obtain ⟨a0, a1, -, -, -⟩ := HA.out
          obtain ⟨⟨b0, b1, b2, b3⟩, -, -⟩ := HB.out
          obtain ⟨c0, c1, -, -, -⟩ := HC.out
          go_wp2_with fail
          clear a0 a1 b0 b1 b2 b3 c0 c1
          refine (grid_true Z0 0 mb A mn c2 (Z0.size : Int) 0 ml w9 HZ0.out.2 HLM3.out (by have := HZ0.out.1; unfold maxLen; omega) (by have := HMLE.out; omega)).mono ?_
          rintro e w10 ⟨rfl, hE⟩
          have HA2 := Lib.hid (HA.out.ext hE)
          have HB2 := Lib.hid (HB.out.ext hE)
          have HE2 := Lib.hid (Ext.trans HE.out hE)
          have HC2 := Lib.hid (HC.out.ext hE)
          clear HA HB HE HC hE
          have HA := HA2
          clear HA2
          have HB := HB2
          clear HB2
          have HE := HE2
          clear HE2
          have HC := HC2
          clear HC2
          clear r1 r2
          obtain ⟨a0, a1, -, -, -⟩ := HA.out
          obtain ⟨⟨b0, b1, b2, b3⟩, -, -⟩ := HB.out
          obtain ⟨c0, c1, -, -, -⟩ := HC.out
          go_wp2_with fail
          clear a0 a1 b0 b1 b2 b3 c0 c1
          obtain ⟨OX, hOX⟩ : ∃ x, outR S.data.toList k = x := ⟨_, rfl⟩
          have hf := parseout_any S k w10 HS.out
          have hok := @out_ok S.data.toList k
          rw [hOX] at hf hok
          clear hOX
          obtain ⟨lk, lw, lf, lt, q, ie⟩ := OX
          simp only at hok
          have HOK := Lib.hid hok
          clear hok
          refine hf.mono ?_
          clear hf
          rintro e w11 ⟨rfl, hE⟩
          simp only
          have HA2 := Lib.hid (HA.out.ext hE)
          have HB2 := Lib.hid (HB.out.ext hE)
          have HE2 := Lib.hid (Ext.trans HE.out hE)
          have HC2 := Lib.hid (HC.out.ext hE)
          clear HA HB HE HC hE
          have HA := HA2
          clear HA2
          have HB := HB2
          clear HB2
          have HE := HE2
          clear HE2
          have HC := HC2
          clear HC2
          have hD := Cell4.new w11 _ rfl (.int .u8 lk) (.int .i64 lw) (.int .i64 lf) (.int .i64 lt) 34
          have hE : Ext w11 (w11.alloc (.cells #[.int .u8 lk, .int .i64 lw, .int .i64 lf, .int .i64 lt] 34)) := Ext.al Ext.rfl' _
          have HA2 := Lib.hid (HA.out.ext hE)
          have HB2 := Lib.hid (HB.out.ext hE)
          have HE2 := Lib.hid (Ext.trans HE.out hE)
          have HC2 := Lib.hid (HC.out.ext hE)
          clear HA HB HE HC hE
          have HA := HA2
          clear HA2
          have HB := HB2
          clear HB2
          have HE := HE2
          clear HE2
          have HC := HC2
          clear HC2
          have HD := Lib.hid hD
          clear hD
          obtain ⟨gd, hgd⟩ : ∃ x, w11.heap.size = x := ⟨_, rfl⟩
          clear hgd gd
          by_cases hi : ie = 0
          · subst hi
            obtain ⟨hk0, hv0, hq1, hq2⟩ := HOK.out.1 rfl
            have r1 : decide (k < q) = true := decide_eq_true hq1
            have r2 : decide (q ≤ (S.size : Int)) = true := decide_eq_true (by rw [← size_list]; exact hq2)
            have HK0 := Lib.hid hk0
            have HV0 := Lib.hid hv0
            clear hq1 hq2 hk0 hv0
            obtain ⟨a0, a1, -, -, -⟩ := HA.out
            obtain ⟨⟨b0, b1, b2, b3⟩, -, -⟩ := HB.out
            obtain ⟨c0, c1, -, -, -⟩ := HC.out
            obtain ⟨⟨d0, d1, d2, d3⟩, -, -⟩ := HD.out
            go_wp2_with fail
            clear a0 a1 b0 b1 b2 b3 c0 c1 d0 d1 d2 d3
            obtain ⟨Z, f3, hZ1, hZ2, hZ3, hZ4, hZ5⟩ := out_pack lk lw lf lt
            obtain rfl : f3 = 0 := hZ5 HK0.out HV0.out
            have hf := fmtout_any lk lw lf lt (w11.alloc (.cells #[.int .u8 lk, .int .i64 lw, .int .i64 lf, .int .i64 lt] 34))
            rw [hZ1, hZ2] at hf
            have HZ4 := Lib.hid (hZ4 rfl)
            clear hZ1 hZ2 hZ3 hZ4 hZ5
            refine (hf).mono ?_
            rintro e w13 ⟨rfl, hE⟩
            have HA2 := Lib.hid (HA.out.ext hE)
            have HB2 := Lib.hid (HB.out.ext hE)
            have HE2 := Lib.hid (Ext.trans HE.out hE)
            have HC2 := Lib.hid (HC.out.ext hE)
            have HD2 := Lib.hid (HD.out.ext hE)
            clear HA HB HE HC HD hE
            have HA := HA2
            clear HA2
            have HB := HB2
            clear HB2
            have HE := HE2
            clear HE2
            have HC := HC2
            clear HC2
            have HD := HD2
            clear HD2
            clear hf
            obtain ⟨a0, a1, -, -, -⟩ := HA.out
            obtain ⟨⟨b0, b1, b2, b3⟩, -, -⟩ := HB.out
            obtain ⟨c0, c1, -, -, -⟩ := HC.out
            obtain ⟨⟨d0, d1, d2, d3⟩, -, -⟩ := HD.out
            go_wp2_with fail
            clear a0 a1 b0 b1 b2 b3 c0 c1 d0 d1 d2 d3
            refine (lost_true Z 0 lk lw lf lt (Z.size : Int) 0 w13 HZ4.out.2 (by have := HZ4.out.1; unfold maxLen; omega)).mono ?_
            rintro e w14 ⟨rfl, hE⟩
            have HA2 := Lib.hid (HA.out.ext hE)
            have HB2 := Lib.hid (HB.out.ext hE)
            have HE2 := Lib.hid (Ext.trans HE.out hE)
            have HC2 := Lib.hid (HC.out.ext hE)
            have HD2 := Lib.hid (HD.out.ext hE)
            clear HA HB HE HC HD hE
            have HA := HA2
            clear HA2
            have HB := HB2
            clear HB2
            have HE := HE2
            clear HE2
            have HC := HC2
            clear HC2
            have HD := HD2
            clear HD2
            obtain ⟨a0, a1, -, -, -⟩ := HA.out
            obtain ⟨⟨b0, b1, b2, b3⟩, -, -⟩ := HB.out
            obtain ⟨c0, c1, -, -, -⟩ := HC.out
            obtain ⟨⟨d0, d1, d2, d3⟩, -, -⟩ := HD.out
            go_wp2_with fail
            go_ret
            exact ⟨rfl, HE.out⟩
          · have hq := HOK.out.2 hi
            subst hq
            have i1 : (ie != 0) = true := by simp [hi]
            have i2 : (ie == 0) = false := by simp [hi]
            clear hi
            obtain ⟨a0, a1, -, -, -⟩ := HA.out
            obtain ⟨⟨b0, b1, b2, b3⟩, -, -⟩ := HB.out
            obtain ⟨c0, c1, -, -, -⟩ := HC.out
            obtain ⟨⟨d0, d1, d2, d3⟩, -, -⟩ := HD.out
            go_wp2_with fail
            go_ret
            exact ⟨rfl, HE.out⟩
        · have g1 : (g == 0) = false := by simp [hg]
          have g2 : (g != 0) = true := by simp [hg]
          clear hg
          obtain ⟨a0, a1, -, -, -⟩ := HA.out
          obtain ⟨⟨b0, b1, b2, b3⟩, -, -⟩ := HB.out
          obtain ⟨c0, c1, -, -, -⟩ := HC.out
          go_wp2_with fail
          clear a0 a1 b0 b1 b2 b3 c0 c1
          obtain ⟨OX, hOX⟩ : ∃ x, outR S.data.toList k = x := ⟨_, rfl⟩
          have hf := parseout_any S k (w7.alloc (.cells #[.int .i64 mb, .slice A mn c2] 31)) HS.out
          have hok := @out_ok S.data.toList k
          rw [hOX] at hf hok
          clear hOX
          obtain ⟨lk, lw, lf, lt, q, ie⟩ := OX
          simp only at hok
          have HOK := Lib.hid hok
          clear hok
          refine hf.mono ?_
          clear hf
          rintro e w8 ⟨rfl, hE⟩
          simp only
          have HA2 := Lib.hid (HA.out.ext hE)
          have HB2 := Lib.hid (HB.out.ext hE)
          have HE2 := Lib.hid (Ext.trans HE.out hE)
          have HC2 := Lib.hid (HC.out.ext hE)
          clear HA HB HE HC hE
          have HA := HA2
          clear HA2
          have HB := HB2
          clear HB2
          have HE := HE2
          clear HE2
          have HC := HC2
          clear HC2
          have hD := Cell4.new w8 _ rfl (.int .u8 lk) (.int .i64 lw) (.int .i64 lf) (.int .i64 lt) 34
          have hE : Ext w8 (w8.alloc (.cells #[.int .u8 lk, .int .i64 lw, .int .i64 lf, .int .i64 lt] 34)) := Ext.al Ext.rfl' _
          have HA2 := Lib.hid (HA.out.ext hE)
          have HB2 := Lib.hid (HB.out.ext hE)
          have HE2 := Lib.hid (Ext.trans HE.out hE)
          have HC2 := Lib.hid (HC.out.ext hE)
          clear HA HB HE HC hE
          have HA := HA2
          clear HA2
          have HB := HB2
          clear HB2
          have HE := HE2
          clear HE2
          have HC := HC2
          clear HC2
          have HD := Lib.hid hD
          clear hD
          obtain ⟨gd, hgd⟩ : ∃ x, w8.heap.size = x := ⟨_, rfl⟩
          clear hgd gd
          by_cases hi : ie = 0
          · subst hi
            obtain ⟨hk0, hv0, hq1, hq2⟩ := HOK.out.1 rfl
            have r1 : decide (k < q) = true := decide_eq_true hq1
            have r2 : decide (q ≤ (S.size : Int)) = true := decide_eq_true (by rw [← size_list]; exact hq2)
            have HK0 := Lib.hid hk0
            have HV0 := Lib.hid hv0
            clear hq1 hq2 hk0 hv0
            obtain ⟨a0, a1, -, -, -⟩ := HA.out
            obtain ⟨⟨b0, b1, b2, b3⟩, -, -⟩ := HB.out
            obtain ⟨c0, c1, -, -, -⟩ := HC.out
            obtain ⟨⟨d0, d1, d2, d3⟩, -, -⟩ := HD.out
            go_wp2_with fail
            clear a0 a1 b0 b1 b2 b3 c0 c1 d0 d1 d2 d3
            obtain ⟨Z, f3, hZ1, hZ2, hZ3, hZ4, hZ5⟩ := out_pack lk lw lf lt
            obtain rfl : f3 = 0 := hZ5 HK0.out HV0.out
            have hf := fmtout_any lk lw lf lt (w8.alloc (.cells #[.int .u8 lk, .int .i64 lw, .int .i64 lf, .int .i64 lt] 34))
            rw [hZ1, hZ2] at hf
            have HZ4 := Lib.hid (hZ4 rfl)
            clear hZ1 hZ2 hZ3 hZ4 hZ5
            refine (hf).mono ?_
            rintro e w10 ⟨rfl, hE⟩
            have HA2 := Lib.hid (HA.out.ext hE)
            have HB2 := Lib.hid (HB.out.ext hE)
            have HE2 := Lib.hid (Ext.trans HE.out hE)
            have HC2 := Lib.hid (HC.out.ext hE)
            have HD2 := Lib.hid (HD.out.ext hE)
            clear HA HB HE HC HD hE
            have HA := HA2
            clear HA2
            have HB := HB2
            clear HB2
            have HE := HE2
            clear HE2
            have HC := HC2
            clear HC2
            have HD := HD2
            clear HD2
            clear hf
            obtain ⟨a0, a1, -, -, -⟩ := HA.out
            obtain ⟨⟨b0, b1, b2, b3⟩, -, -⟩ := HB.out
            obtain ⟨c0, c1, -, -, -⟩ := HC.out
            obtain ⟨⟨d0, d1, d2, d3⟩, -, -⟩ := HD.out
            go_wp2_with fail
            clear a0 a1 b0 b1 b2 b3 c0 c1 d0 d1 d2 d3
            refine (lost_true Z 0 lk lw lf lt (Z.size : Int) 0 w10 HZ4.out.2 (by have := HZ4.out.1; unfold maxLen; omega)).mono ?_
            rintro e w11 ⟨rfl, hE⟩
            have HA2 := Lib.hid (HA.out.ext hE)
            have HB2 := Lib.hid (HB.out.ext hE)
            have HE2 := Lib.hid (Ext.trans HE.out hE)
            have HC2 := Lib.hid (HC.out.ext hE)
            have HD2 := Lib.hid (HD.out.ext hE)
            clear HA HB HE HC HD hE
            have HA := HA2
            clear HA2
            have HB := HB2
            clear HB2
            have HE := HE2
            clear HE2
            have HC := HC2
            clear HC2
            have HD := HD2
            clear HD2
            obtain ⟨a0, a1, -, -, -⟩ := HA.out
            obtain ⟨⟨b0, b1, b2, b3⟩, -, -⟩ := HB.out
            obtain ⟨c0, c1, -, -, -⟩ := HC.out
            obtain ⟨⟨d0, d1, d2, d3⟩, -, -⟩ := HD.out
            go_wp2_with fail
            go_ret
            exact ⟨rfl, HE.out⟩
          · have hq := HOK.out.2 hi
            subst hq
            have i1 : (ie != 0) = true := by simp [hi]
            have i2 : (ie == 0) = false := by simp [hi]
            clear hi
            obtain ⟨a0, a1, -, -, -⟩ := HA.out
            obtain ⟨⟨b0, b1, b2, b3⟩, -, -⟩ := HB.out
            obtain ⟨c0, c1, -, -, -⟩ := HC.out
            obtain ⟨⟨d0, d1, d2, d3⟩, -, -⟩ := HD.out
            go_wp2_with fail
            go_ret
            exact ⟨rfl, HE.out⟩
      · obtain rfl := HY3.out hf0
        have f1 : (f == 0) = false := by simp [hf0]
        have f2 : (f != 0) = true := by simp [hf0]
        clear hf0
        obtain ⟨a0, a1, -, -, -⟩ := HA.out
        obtain ⟨⟨b0, b1, b2, b3⟩, -, -⟩ := HB.out
        go_wp2_with fail
        clear a0 a1 b0 b1 b2 b3
        have hf := ncheck_any b P n c ls w4 (H.out.ext HE.out) (by have := HN.out; omega)
        rw [HNC.out] at hf
        refine (hf).mono ?_
        rintro e w5 ⟨rfl, hE⟩
        have HA2 := Lib.hid (HA.out.ext hE)
        have HB2 := Lib.hid (HB.out.ext hE)
        have HE2 := Lib.hid (Ext.trans HE.out hE)
        clear HA HB HE hE
        have HA := HA2
        clear HA2
        have HB := HB2
        clear HB2
        have HE := HE2
        clear HE2
        clear hf
        obtain ⟨a0, a1, -, -, -⟩ := HA.out
        obtain ⟨⟨b0, b1, b2, b3⟩, -, -⟩ := HB.out
        go_wp2_with fail
        clear a0 a1 b0 b1 b2 b3
        obtain ⟨NX, hNX⟩ : ∃ x, netR S.data.toList k = x := ⟨_, rfl⟩
        have hf := parsenet_any S k w5 HS.out
        have hok := @net_ok S.data.toList k
        rw [hNX] at hf hok
        clear hNX
        obtain ⟨mb, ml, p, g⟩ := NX
        simp only at hok
        have HOKN := Lib.hid hok
        clear hok
        refine hf.mono ?_
        clear hf
        rintro e w6 ⟨A, c2, rfl, hLM, hE⟩
        simp only at hLM ⊢
        obtain ⟨mn, hmn⟩ : ∃ x, ml.length = x := ⟨_, rfl⟩
        rw [hmn] at hLM ⊢
        have HMN := Lib.hid hmn
        clear hmn
        have HA2 := Lib.hid (HA.out.ext hE)
        have HB2 := Lib.hid (HB.out.ext hE)
        have HE2 := Lib.hid (Ext.trans HE.out hE)
        clear HA HB HE hE
        have HA := HA2
        clear HA2
        have HB := HB2
        clear HB2
        have HE := HE2
        clear HE2
        have hC := Cell2.new w6 _ rfl (.int .i64 mb) (.slice A mn c2) 31
        have hE : Ext w6 (w6.alloc (.cells #[.int .i64 mb, .slice A mn c2] 31)) := Ext.al Ext.rfl' _
        have HLM := Lib.hid (hLM.ext hE)
        clear hLM
        have HA2 := Lib.hid (HA.out.ext hE)
        have HB2 := Lib.hid (HB.out.ext hE)
        have HE2 := Lib.hid (Ext.trans HE.out hE)
        clear HA HB HE hE
        have HA := HA2
        clear HA2
        have HB := HB2
        clear HB2
        have HE := HE2
        clear HE2
        have HC := Lib.hid hC
        clear hC
        by_cases hg : g = 0
        · subst hg
          obtain ⟨hm0, hm4, hp1, hp2⟩ := HOKN.out rfl
          have r1 : decide (p ≤ k) = false := decide_eq_false (by omega)
          have r2 : decide ((S.size : Int) < p) = false := decide_eq_false (by rw [← size_list]; omega)
          have HM0 := Lib.hid hm0
          have HM4 := Lib.hid hm4
          have HMLE : Hid (mn ≤ 10) := by have := (netC_ok hm0).2.1; have := HMN.out; unfold Hid; omega
          clear hm0 hm4 hp1 hp2
          obtain ⟨a0, a1, -, -, -⟩ := HA.out
          obtain ⟨⟨b0, b1, b2, b3⟩, -, -⟩ := HB.out
          obtain ⟨c0, c1, -, -, -⟩ := HC.out
          go_wp2_with fail
          clear a0 a1 b0 b1 b2 b3 c0 c1
          obtain ⟨Z0, hZ1, hZ2, hZ3, hZ4⟩ := net_pack mb ml HM4.out
          have hf := fmtnet_any mb A mn c2 ml (w6.alloc (.cells #[.int .i64 mb, .slice A mn c2] 31)) HLM.out (by have := HMLE.out; omega)
          rw [hZ1, hZ2, HM0.out] at hf
          have HZ0 := Lib.hid (hZ4 HM0.out)
          clear hZ1 hZ2 hZ3 hZ4
          have HLM2 := Lib.hid HLM.out
          refine hf.mono ?_
          clear hf
          rintro e w7 ⟨rfl, hE⟩
          have HLM := Lib.hid (HLM2.out.ext hE)
          clear HLM2
          have HA2 := Lib.hid (HA.out.ext hE)
          have HB2 := Lib.hid (HB.out.ext hE)
          have HE2 := Lib.hid (Ext.trans HE.out hE)
          have HC2 := Lib.hid (HC.out.ext hE)
          clear HA HB HE HC hE
          have HA := HA2
          clear HA2
          have HB := HB2
          clear HB2
          have HE := HE2
          clear HE2
          have HC := HC2
          clear HC2
          obtain ⟨a0, a1, -, -, -⟩ := HA.out
          obtain ⟨⟨b0, b1, b2, b3⟩, -, -⟩ := HB.out
          obtain ⟨c0, c1, -, -, -⟩ := HC.out
          go_wp2_with fail
          clear a0 a1 b0 b1 b2 b3 c0 c1
          have hf := ncheck_any mb A mn c2 ml w7 HLM.out (by have := HMLE.out; omega)
          rw [HM0.out] at hf
          refine hf.mono ?_
          clear hf
          rintro e w8 ⟨rfl, hE⟩
          have HLM3 := Lib.hid (HLM.out.ext hE)
          have HA2 := Lib.hid (HA.out.ext hE)
          have HB2 := Lib.hid (HB.out.ext hE)
          have HE2 := Lib.hid (Ext.trans HE.out hE)
          have HC2 := Lib.hid (HC.out.ext hE)
          clear HA HB HE HC hE
          have HA := HA2
          clear HA2
          have HB := HB2
          clear HB2
          have HE := HE2
          clear HE2
          have HC := HC2
          clear HC2
          obtain ⟨a0, a1, -, -, -⟩ := HA.out
          obtain ⟨⟨b0, b1, b2, b3⟩, -, -⟩ := HB.out
          obtain ⟨c0, c1, -, -, -⟩ := HC.out
          go_wp2_with fail
          clear a0 a1 b0 b1 b2 b3 c0 c1
          refine (grid_true Z0 0 mb A mn c2 (Z0.size : Int) 0 ml w8 HZ0.out.2 HLM3.out (by have := HZ0.out.1; unfold maxLen; omega) (by have := HMLE.out; omega)).mono ?_
          rintro e w9 ⟨rfl, hE⟩
          have HA2 := Lib.hid (HA.out.ext hE)
          have HB2 := Lib.hid (HB.out.ext hE)
          have HE2 := Lib.hid (Ext.trans HE.out hE)
          have HC2 := Lib.hid (HC.out.ext hE)
          clear HA HB HE HC hE
          have HA := HA2
          clear HA2
          have HB := HB2
          clear HB2
          have HE := HE2
          clear HE2
          have HC := HC2
          clear HC2
          clear r1 r2
          obtain ⟨a0, a1, -, -, -⟩ := HA.out
          obtain ⟨⟨b0, b1, b2, b3⟩, -, -⟩ := HB.out
          obtain ⟨c0, c1, -, -, -⟩ := HC.out
          go_wp2_with fail
          clear a0 a1 b0 b1 b2 b3 c0 c1
          obtain ⟨OX, hOX⟩ : ∃ x, outR S.data.toList k = x := ⟨_, rfl⟩
          have hf := parseout_any S k w9 HS.out
          have hok := @out_ok S.data.toList k
          rw [hOX] at hf hok
          clear hOX
          obtain ⟨lk, lw, lf, lt, q, ie⟩ := OX
          simp only at hok
          have HOK := Lib.hid hok
          clear hok
          refine hf.mono ?_
          clear hf
          rintro e w10 ⟨rfl, hE⟩
          simp only
          have HA2 := Lib.hid (HA.out.ext hE)
          have HB2 := Lib.hid (HB.out.ext hE)
          have HE2 := Lib.hid (Ext.trans HE.out hE)
          have HC2 := Lib.hid (HC.out.ext hE)
          clear HA HB HE HC hE
          have HA := HA2
          clear HA2
          have HB := HB2
          clear HB2
          have HE := HE2
          clear HE2
          have HC := HC2
          clear HC2
          have hD := Cell4.new w10 _ rfl (.int .u8 lk) (.int .i64 lw) (.int .i64 lf) (.int .i64 lt) 34
          have hE : Ext w10 (w10.alloc (.cells #[.int .u8 lk, .int .i64 lw, .int .i64 lf, .int .i64 lt] 34)) := Ext.al Ext.rfl' _
          have HA2 := Lib.hid (HA.out.ext hE)
          have HB2 := Lib.hid (HB.out.ext hE)
          have HE2 := Lib.hid (Ext.trans HE.out hE)
          have HC2 := Lib.hid (HC.out.ext hE)
          clear HA HB HE HC hE
          have HA := HA2
          clear HA2
          have HB := HB2
          clear HB2
          have HE := HE2
          clear HE2
          have HC := HC2
          clear HC2
          have HD := Lib.hid hD
          clear hD
          obtain ⟨gd, hgd⟩ : ∃ x, w10.heap.size = x := ⟨_, rfl⟩
          clear hgd gd
          by_cases hi : ie = 0
          · subst hi
            obtain ⟨hk0, hv0, hq1, hq2⟩ := HOK.out.1 rfl
            have r1 : decide (k < q) = true := decide_eq_true hq1
            have r2 : decide (q ≤ (S.size : Int)) = true := decide_eq_true (by rw [← size_list]; exact hq2)
            have HK0 := Lib.hid hk0
            have HV0 := Lib.hid hv0
            clear hq1 hq2 hk0 hv0
            obtain ⟨a0, a1, -, -, -⟩ := HA.out
            obtain ⟨⟨b0, b1, b2, b3⟩, -, -⟩ := HB.out
            obtain ⟨c0, c1, -, -, -⟩ := HC.out
            obtain ⟨⟨d0, d1, d2, d3⟩, -, -⟩ := HD.out
            go_wp2_with fail
            clear a0 a1 b0 b1 b2 b3 c0 c1 d0 d1 d2 d3
            obtain ⟨Z, f3, hZ1, hZ2, hZ3, hZ4, hZ5⟩ := out_pack lk lw lf lt
            obtain rfl : f3 = 0 := hZ5 HK0.out HV0.out
            have hf := fmtout_any lk lw lf lt (w10.alloc (.cells #[.int .u8 lk, .int .i64 lw, .int .i64 lf, .int .i64 lt] 34))
            rw [hZ1, hZ2] at hf
            have HZ4 := Lib.hid (hZ4 rfl)
            clear hZ1 hZ2 hZ3 hZ4 hZ5
            refine (hf).mono ?_
            rintro e w12 ⟨rfl, hE⟩
            have HA2 := Lib.hid (HA.out.ext hE)
            have HB2 := Lib.hid (HB.out.ext hE)
            have HE2 := Lib.hid (Ext.trans HE.out hE)
            have HC2 := Lib.hid (HC.out.ext hE)
            have HD2 := Lib.hid (HD.out.ext hE)
            clear HA HB HE HC HD hE
            have HA := HA2
            clear HA2
            have HB := HB2
            clear HB2
            have HE := HE2
            clear HE2
            have HC := HC2
            clear HC2
            have HD := HD2
            clear HD2
            clear hf
            obtain ⟨a0, a1, -, -, -⟩ := HA.out
            obtain ⟨⟨b0, b1, b2, b3⟩, -, -⟩ := HB.out
            obtain ⟨c0, c1, -, -, -⟩ := HC.out
            obtain ⟨⟨d0, d1, d2, d3⟩, -, -⟩ := HD.out
            go_wp2_with fail
            clear a0 a1 b0 b1 b2 b3 c0 c1 d0 d1 d2 d3
            refine (lost_true Z 0 lk lw lf lt (Z.size : Int) 0 w12 HZ4.out.2 (by have := HZ4.out.1; unfold maxLen; omega)).mono ?_
            rintro e w13 ⟨rfl, hE⟩
            have HA2 := Lib.hid (HA.out.ext hE)
            have HB2 := Lib.hid (HB.out.ext hE)
            have HE2 := Lib.hid (Ext.trans HE.out hE)
            have HC2 := Lib.hid (HC.out.ext hE)
            have HD2 := Lib.hid (HD.out.ext hE)
            clear HA HB HE HC HD hE
            have HA := HA2
            clear HA2
            have HB := HB2
            clear HB2
            have HE := HE2
            clear HE2
            have HC := HC2
            clear HC2
            have HD := HD2
            clear HD2
            obtain ⟨a0, a1, -, -, -⟩ := HA.out
            obtain ⟨⟨b0, b1, b2, b3⟩, -, -⟩ := HB.out
            obtain ⟨c0, c1, -, -, -⟩ := HC.out
            obtain ⟨⟨d0, d1, d2, d3⟩, -, -⟩ := HD.out
            go_wp2_with fail
            go_ret
            exact ⟨rfl, HE.out⟩
          · have hq := HOK.out.2 hi
            subst hq
            have i1 : (ie != 0) = true := by simp [hi]
            have i2 : (ie == 0) = false := by simp [hi]
            clear hi
            obtain ⟨a0, a1, -, -, -⟩ := HA.out
            obtain ⟨⟨b0, b1, b2, b3⟩, -, -⟩ := HB.out
            obtain ⟨c0, c1, -, -, -⟩ := HC.out
            obtain ⟨⟨d0, d1, d2, d3⟩, -, -⟩ := HD.out
            go_wp2_with fail
            go_ret
            exact ⟨rfl, HE.out⟩
        · have g1 : (g == 0) = false := by simp [hg]
          have g2 : (g != 0) = true := by simp [hg]
          clear hg
          obtain ⟨a0, a1, -, -, -⟩ := HA.out
          obtain ⟨⟨b0, b1, b2, b3⟩, -, -⟩ := HB.out
          obtain ⟨c0, c1, -, -, -⟩ := HC.out
          go_wp2_with fail
          clear a0 a1 b0 b1 b2 b3 c0 c1
          obtain ⟨OX, hOX⟩ : ∃ x, outR S.data.toList k = x := ⟨_, rfl⟩
          have hf := parseout_any S k (w6.alloc (.cells #[.int .i64 mb, .slice A mn c2] 31)) HS.out
          have hok := @out_ok S.data.toList k
          rw [hOX] at hf hok
          clear hOX
          obtain ⟨lk, lw, lf, lt, q, ie⟩ := OX
          simp only at hok
          have HOK := Lib.hid hok
          clear hok
          refine hf.mono ?_
          clear hf
          rintro e w7 ⟨rfl, hE⟩
          simp only
          have HA2 := Lib.hid (HA.out.ext hE)
          have HB2 := Lib.hid (HB.out.ext hE)
          have HE2 := Lib.hid (Ext.trans HE.out hE)
          have HC2 := Lib.hid (HC.out.ext hE)
          clear HA HB HE HC hE
          have HA := HA2
          clear HA2
          have HB := HB2
          clear HB2
          have HE := HE2
          clear HE2
          have HC := HC2
          clear HC2
          have hD := Cell4.new w7 _ rfl (.int .u8 lk) (.int .i64 lw) (.int .i64 lf) (.int .i64 lt) 34
          have hE : Ext w7 (w7.alloc (.cells #[.int .u8 lk, .int .i64 lw, .int .i64 lf, .int .i64 lt] 34)) := Ext.al Ext.rfl' _
          have HA2 := Lib.hid (HA.out.ext hE)
          have HB2 := Lib.hid (HB.out.ext hE)
          have HE2 := Lib.hid (Ext.trans HE.out hE)
          have HC2 := Lib.hid (HC.out.ext hE)
          clear HA HB HE HC hE
          have HA := HA2
          clear HA2
          have HB := HB2
          clear HB2
          have HE := HE2
          clear HE2
          have HC := HC2
          clear HC2
          have HD := Lib.hid hD
          clear hD
          obtain ⟨gd, hgd⟩ : ∃ x, w7.heap.size = x := ⟨_, rfl⟩
          clear hgd gd
          by_cases hi : ie = 0
          · subst hi
            obtain ⟨hk0, hv0, hq1, hq2⟩ := HOK.out.1 rfl
            have r1 : decide (k < q) = true := decide_eq_true hq1
            have r2 : decide (q ≤ (S.size : Int)) = true := decide_eq_true (by rw [← size_list]; exact hq2)
            have HK0 := Lib.hid hk0
            have HV0 := Lib.hid hv0
            clear hq1 hq2 hk0 hv0
            obtain ⟨a0, a1, -, -, -⟩ := HA.out
            obtain ⟨⟨b0, b1, b2, b3⟩, -, -⟩ := HB.out
            obtain ⟨c0, c1, -, -, -⟩ := HC.out
            obtain ⟨⟨d0, d1, d2, d3⟩, -, -⟩ := HD.out
            go_wp2_with fail
            clear a0 a1 b0 b1 b2 b3 c0 c1 d0 d1 d2 d3
            obtain ⟨Z, f3, hZ1, hZ2, hZ3, hZ4, hZ5⟩ := out_pack lk lw lf lt
            obtain rfl : f3 = 0 := hZ5 HK0.out HV0.out
            have hf := fmtout_any lk lw lf lt (w7.alloc (.cells #[.int .u8 lk, .int .i64 lw, .int .i64 lf, .int .i64 lt] 34))
            rw [hZ1, hZ2] at hf
            have HZ4 := Lib.hid (hZ4 rfl)
            clear hZ1 hZ2 hZ3 hZ4 hZ5
            refine (hf).mono ?_
            rintro e w9 ⟨rfl, hE⟩
            have HA2 := Lib.hid (HA.out.ext hE)
            have HB2 := Lib.hid (HB.out.ext hE)
            have HE2 := Lib.hid (Ext.trans HE.out hE)
            have HC2 := Lib.hid (HC.out.ext hE)
            have HD2 := Lib.hid (HD.out.ext hE)
            clear HA HB HE HC HD hE
            have HA := HA2
            clear HA2
            have HB := HB2
            clear HB2
            have HE := HE2
            clear HE2
            have HC := HC2
            clear HC2
            have HD := HD2
            clear HD2
            clear hf
            obtain ⟨a0, a1, -, -, -⟩ := HA.out
            obtain ⟨⟨b0, b1, b2, b3⟩, -, -⟩ := HB.out
            obtain ⟨c0, c1, -, -, -⟩ := HC.out
            obtain ⟨⟨d0, d1, d2, d3⟩, -, -⟩ := HD.out
            go_wp2_with fail
            clear a0 a1 b0 b1 b2 b3 c0 c1 d0 d1 d2 d3
            refine (lost_true Z 0 lk lw lf lt (Z.size : Int) 0 w9 HZ4.out.2 (by have := HZ4.out.1; unfold maxLen; omega)).mono ?_
            rintro e w10 ⟨rfl, hE⟩
            have HA2 := Lib.hid (HA.out.ext hE)
            have HB2 := Lib.hid (HB.out.ext hE)
            have HE2 := Lib.hid (Ext.trans HE.out hE)
            have HC2 := Lib.hid (HC.out.ext hE)
            have HD2 := Lib.hid (HD.out.ext hE)
            clear HA HB HE HC HD hE
            have HA := HA2
            clear HA2
            have HB := HB2
            clear HB2
            have HE := HE2
            clear HE2
            have HC := HC2
            clear HC2
            have HD := HD2
            clear HD2
            obtain ⟨a0, a1, -, -, -⟩ := HA.out
            obtain ⟨⟨b0, b1, b2, b3⟩, -, -⟩ := HB.out
            obtain ⟨c0, c1, -, -, -⟩ := HC.out
            obtain ⟨⟨d0, d1, d2, d3⟩, -, -⟩ := HD.out
            go_wp2_with fail
            go_ret
            exact ⟨rfl, HE.out⟩
          · have hq := HOK.out.2 hi
            subst hq
            have i1 : (ie != 0) = true := by simp [hi]
            have i2 : (ie == 0) = false := by simp [hi]
            clear hi
            obtain ⟨a0, a1, -, -, -⟩ := HA.out
            obtain ⟨⟨b0, b1, b2, b3⟩, -, -⟩ := HB.out
            obtain ⟨c0, c1, -, -, -⟩ := HC.out
            obtain ⟨⟨d0, d1, d2, d3⟩, -, -⟩ := HD.out
            go_wp2_with fail
            go_ret
            exact ⟨rfl, HE.out⟩
end Go.Proofs.Ytnofbjcikfofgaa
