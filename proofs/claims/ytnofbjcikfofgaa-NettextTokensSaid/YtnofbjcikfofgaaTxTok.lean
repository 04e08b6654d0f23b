/- The law NettextTokens returns true. Printed by gen_txtok.py. -/
import Derived.Test.YtnofbjcikfofgaaTxAw
import Derived.Test.YtnofbjcikfofgaaTxPC
import Derived.Test.YtnofbjcikfofgaaTxAl
namespace Go.Proofs.Ytnofbjcikfofgaa
open Go.RowKit
/-- A formatted text and its tokens. -/
structure TokT (F : ByteArray) (ts : List Tok) (m : Nat) : Prop where
  text : bs (fmtT ts) = F
  rd : Rd F.data.toList 0 ts (F.size : Int)
  none : nextT F.data.toList (F.size : Int) = nxE 8
  len : ts.length = m
  good : ∀ t ∈ ts, GoodT t ∧ (pieceT t).length ≤ 20
  small : F.size ≤ 5000
  head : ∃ r, ts = tokO :: r
theorem end_none (l : Bs) (h : l.length ≤ 65536) : nextT l (l.length : Int) = nxE 8 := by
  have := nextT_none (pre := l) (seps := []) rfl (by simpa using h)
  simpa using this
theorem tok_pack {us : List Tok} {r : List Tok} (hu : us ++ [tokC] = tokO :: r) (hg : ∀ t ∈ us ++ [tokC], GoodT t ∧ (pieceT t).length ≤ 20) (hl : (fmtT (us ++ [tokC])).length ≤ 5000) : TokT (bs (fmtT (us ++ [tokC]))) (us ++ [tokC]) (us ++ [tokC]).length := by
  have h := rd_fmt [] [] us (fun t ht => (hg t (List.mem_append_left _ ht)).1) (by simp; omega)
  simp only [List.nil_append, List.append_nil, List.length_nil, Nat.zero_add] at h
  refine ⟨rfl, ?_, ?_, rfl, hg, by rw [bs_size]; exact hl, ⟨r, hu⟩⟩
  · rw [bs_list, bs_size]
    exact h
  · rw [bs_list, bs_size]
    exact end_none _ (by omega)
theorem net_packt (b : Int) (ls : List (List Int)) : ∃ F : ByteArray, bs (netT b ls).1 = F ∧ (netT b ls).2 = netC b ls ∧ (netC b ls = 0 → ∃ ts, TokT F ts (ls.length * 7 + 4)) := by
  by_cases hc : netC b ls = 0
  · have e : netT b ls = (fmtT (netToks b ls), 0) := by unfold netT; rw [if_pos hc]
    rw [e]
    have hl2 := net_fmt_len hc
    refine ⟨_, rfl, hc.symm, fun _ => ⟨netToks b ls, ?_⟩⟩
    have h := tok_pack (us := tokO :: tokW [110, 101, 116] :: numT b :: ls.flatMap lnTok) (r := tokW [110, 101, 116] :: numT b :: (ls.flatMap lnTok ++ [tokC])) rfl (net_good hc) (by
      have := hl2
      unfold netToks at this
      exact Nat.le_trans this (by omega))
    have hn := netToks_len b ls
    unfold netToks at hn ⊢
    rw [← hn]
    exact h
  · have e : netT b ls = ([], netC b ls) := by unfold netT; rw [if_neg hc]
    rw [e]
    exact ⟨_, rfl, rfl, fun h => absurd h hc⟩
theorem out_packt (kd wh fr to_ : Int) : ∃ (F : ByteArray) (f : Int), bs (outT kd wh fr to_).1 = F ∧ (outT kd wh fr to_).2 = f ∧ (f = 0 → ∃ ts, TokT F ts 6) := by
  by_cases hk : kd = 1 ∨ kd = 2 ∨ kd = 3
  · by_cases hv : validO kd wh fr to_ = true
    · have e : outT kd wh fr to_ = (fmtT (outToks kd wh fr to_), 0) := by unfold outT; rw [if_pos hk, if_pos hv]
      rw [e]
      have hl2 := out_fmt_len hk hv
      refine ⟨_, _, rfl, rfl, fun _ => ⟨outToks kd wh fr to_, ?_⟩⟩
      exact tok_pack (us := [tokO, tokW (outName kd), numT wh, numT fr, numT to_]) (r := [tokW (outName kd), numT wh, numT fr, numT to_, tokC]) rfl (out_good hk hv) (Nat.le_trans hl2 (by omega))
    · have e : outT kd wh fr to_ = ([], 1) := by unfold outT; rw [if_pos hk, if_neg hv]
      rw [e]
      exact ⟨_, _, rfl, rfl, fun h => (by cases h)⟩
  · have e : outT kd wh fr to_ = ([], 12) := by unfold outT; rw [if_neg hk]
    rw [e]
    exact ⟨_, _, rfl, rfl, fun h => (by cases h)⟩
/-- token.All and token.Format at a formatted text. -/
theorem all_fmt {F : ByteArray} {ts : List Tok} {m : Nat} (h : TokT F ts m) (hm : m ≤ 1000) (w : World) :
    Calls Try.prog 19 #[.string F] w fun e w' => (∃ g cap, e = .returned (.tuple #[.slice (some ⟨g, 0, none⟩) m cap, .int .i64 0]) ∧ ∀ w2, Ext w' w2 → Calls Try.prog 20 #[.slice (some ⟨g, 0, none⟩) m cap] w2 fun e w' => e = .returned (.tuple #[.string F, .int .i64 0]) ∧ Ext w2 w') ∧ Ext w w' := by
  refine (all_any F ts F.size w (by have := h.small; unfold maxLen; omega) h.rd h.none (by rw [h.len]; exact hm)).mono ?_
  rintro e w1 ⟨⟨v, rfl, hrow⟩, hE⟩
  obtain ⟨r, hr⟩ := h.head
  obtain ⟨g, cap, rfl, -, -⟩ := hrow.some (n := m) h.len (by have := h.len; rw [hr] at this; simp at this; omega)
  refine ⟨⟨g, cap, rfl, fun w2 hE2 => ?_⟩, hE⟩
  refine (tformat_row (hrow.ext hE2) hr h.len (by omega) h.good).mono ?_
  rintro e w3 ⟨rfl, hE3⟩
  rw [h.text]
  exact ⟨rfl, hE3⟩
set_option maxRecDepth 100000 in
set_option maxHeartbeats 64000000 in
theorem tok_any (b : Int) (P : Option Addr) (n c : Nat) (ls : List (List Int)) (kd wh fr to_ : Int) (w : World) (h : LinesAt w P n ls) :
    Calls Try.prog 7 #[.agg #[.int .i64 b, .slice P n c], .agg #[.int .u8 kd, .int .i64 wh, .int .i64 fr, .int .i64 to_]] w fun e w' => e = .returned (.bool true) ∧ Ext w w' := by
  have H := Lib.hid h
  clear h
  go_enter Try.func7, Try.ntmps7
  have hA := Cell2.new w _ rfl (.int .i64 b) (.slice P n c) 31
  have hAB : Ext (w.alloc (.cells #[.int .i64 b, .slice P n c] 31)) ((w.alloc (.cells #[.int .i64 b, .slice P n c] 31)).alloc (.cells #[.int .u8 kd, .int .i64 wh, .int .i64 fr, .int .i64 to_] 34)) := Ext.al Ext.rfl' _
  have hB := Cell4.new (w.alloc (.cells #[.int .i64 b, .slice P n c] 31)) _ rfl (.int .u8 kd) (.int .i64 wh) (.int .i64 fr) (.int .i64 to_) 34
  have hE0 : Ext w ((w.alloc (.cells #[.int .i64 b, .slice P n c] 31)).alloc (.cells #[.int .u8 kd, .int .i64 wh, .int .i64 fr, .int .i64 to_] 34)) := Ext.trans (Ext.al Ext.rfl' _) hAB
  have hA2 := hA.ext hAB
  have he : (w.alloc (.cells #[.int .i64 b, .slice P n c] 31)).heap.size = w.heap.size + 1 := by simp
  rw [he] at hB
  have HA := Lib.hid hA2
  have HB := Lib.hid hB
  have HE := Lib.hid hE0
  clear hA hAB hB hE0 hA2 he
  obtain ⟨a0, a1, -, -, -⟩ := HA.out
  obtain ⟨⟨b0, b1, b2, b3⟩, -, -⟩ := HB.out
  go_wp2_with fail
  clear a0 a1 b0 b1 b2 b3
  generalize ((w.alloc (.cells #[.int .i64 b, .slice P n c] 31)).alloc (.cells #[.int .u8 kd, .int .i64 wh, .int .i64 fr, .int .i64 to_] 34)) = w0 at *
  obtain ⟨ga, hga⟩ : ∃ x, w.heap.size = x := ⟨_, rfl⟩
  rw [hga] at HA HB ⊢
  clear hga
  obtain ⟨gb, hgb⟩ : ∃ x, ga + 1 = x := ⟨_, rfl⟩
  rw [hgb] at HB ⊢
  clear hgb
  refine (long_any ⟨#[]⟩ b P n c w0).mono ?_
  rintro e w1 ⟨rfl, hE⟩
  have HA2 := Lib.hid (HA.out.ext hE)
  have HB2 := Lib.hid (HB.out.ext hE)
  have HE2 := Lib.hid (Ext.trans HE.out hE)
  clear HA HB HE hE
  have HA := HA2
  clear HA2
  have HB := HB2
  clear HB2
  have HE := HE2
  clear HE2
  obtain ⟨lg, hlg⟩ : ∃ v, (decide (5000 < (⟨#[]⟩ : ByteArray).size) || decide (40 < n)) = v := ⟨_, rfl⟩
  rw [hlg]
  have HLG := Lib.hid hlg
  clear hlg
  cases lg with
  | true =>
    obtain ⟨a0, a1, -, -, -⟩ := HA.out
    obtain ⟨⟨b0, b1, b2, b3⟩, -, -⟩ := HB.out
    go_wp2_with fail
    clear a0 a1 b0 b1 b2 b3
    refine (awake_true w1).mono ?_
    rintro e w2 ⟨rfl, hE⟩
    have HA2 := Lib.hid (HA.out.ext hE)
    have HB2 := Lib.hid (HB.out.ext hE)
    have HE2 := Lib.hid (Ext.trans HE.out hE)
    clear HA HB HE hE
    have HA := HA2
    clear HA2
    have HB := HB2
    clear HB2
    have HE := HE2
    clear HE2
    obtain ⟨a0, a1, -, -, -⟩ := HA.out
    obtain ⟨⟨b0, b1, b2, b3⟩, -, -⟩ := HB.out
    go_wp2_with fail
    go_ret
    exact ⟨rfl, HE.out⟩
  | false =>
    have HN : Hid (n ≤ 40) := by
      have := HLG.out
      simp only [Bool.or_eq_false_iff, decide_eq_false_iff_not] at this
      unfold Hid
      omega
    clear HLG
    obtain ⟨a0, a1, -, -, -⟩ := HA.out
    obtain ⟨⟨b0, b1, b2, b3⟩, -, -⟩ := HB.out
    go_wp2_with fail
    clear a0 a1 b0 b1 b2 b3
    refine (awake_true w1).mono ?_
    rintro e w2 ⟨rfl, hE⟩
    have HA2 := Lib.hid (HA.out.ext hE)
    have HB2 := Lib.hid (HB.out.ext hE)
    have HE2 := Lib.hid (Ext.trans HE.out hE)
    clear HA HB HE hE
    have HA := HA2
    clear HA2
    have HB := HB2
    clear HB2
    have HE := HE2
    clear HE2
    obtain ⟨a0, a1, -, -, -⟩ := HA.out
    obtain ⟨⟨b0, b1, b2, b3⟩, -, -⟩ := HB.out
    go_wp2_with fail
    clear a0 a1 b0 b1 b2 b3
    obtain ⟨F, hF1, hF2, hF4⟩ := net_packt b ls
    have hf := fmtnet_any b P n c ls w2 (H.out.ext HE.out) (by have := HN.out; omega)
    rw [hF1, hF2] at hf
    obtain ⟨nc, hnc⟩ : ∃ x, netC b ls = x := ⟨_, rfl⟩
    rw [hnc] at hf hF4
    rw [H.out.1] at hF4
    have HF4 := Lib.hid hF4
    clear hF1 hF2 hF4 hnc
    refine (hf).mono ?_
    rintro e w3 ⟨rfl, hE⟩
    have HA2 := Lib.hid (HA.out.ext hE)
    have HB2 := Lib.hid (HB.out.ext hE)
    have HE2 := Lib.hid (Ext.trans HE.out hE)
    clear HA HB HE hE
    have HA := HA2
    clear HA2
    have HB := HB2
    clear HB2
    have HE := HE2
    clear HE2
    clear hf
    obtain ⟨a0, a1, -, -, -⟩ := HA.out
    obtain ⟨⟨b0, b1, b2, b3⟩, -, -⟩ := HB.out
    go_wp2_with fail
    clear a0 a1 b0 b1 b2 b3
    obtain ⟨Y, f, hY1, hY2, hY4⟩ := out_packt kd wh fr to_
    have hf := fmtout_any kd wh fr to_ w3
    rw [hY1, hY2] at hf
    have HY4 := Lib.hid hY4
    clear hY1 hY2 hY4
    refine (hf).mono ?_
    rintro e w4 ⟨rfl, hE⟩
    have HA2 := Lib.hid (HA.out.ext hE)
    have HB2 := Lib.hid (HB.out.ext hE)
    have HE2 := Lib.hid (Ext.trans HE.out hE)
    clear HA HB HE hE
    have HA := HA2
    clear HA2
    have HB := HB2
    clear HB2
    have HE := HE2
    clear HE2
    clear hf
    by_cases hc : nc = 0
    · subst hc
      obtain ⟨ts, hts⟩ := HF4.out (by first | rfl | trivial)
      have HTS := Lib.hid hts
      clear hts
      obtain ⟨a0, a1, -, -, -⟩ := HA.out
      obtain ⟨⟨b0, b1, b2, b3⟩, -, -⟩ := HB.out
      go_wp2_with fail
      clear a0 a1 b0 b1 b2 b3
      obtain ⟨mm, hmm⟩ : ∃ mm : Nat, (n * 7 + 4) = mm := ⟨_, rfl⟩
      rw [hmm] at HTS
      have HMM := Lib.hid hmm
      clear hmm
      refine (all_fmt HTS.out (by have := HMM.out; have := HN.out; omega) w4).mono ?_
      rintro e w5 ⟨⟨g, cap, rfl, hfm⟩, hE⟩
      have HA2 := Lib.hid (HA.out.ext hE)
      have HB2 := Lib.hid (HB.out.ext hE)
      have HE2 := Lib.hid (Ext.trans HE.out hE)
      clear HA HB HE hE
      have HA := HA2
      clear HA2
      have HB := HB2
      clear HB2
      have HE := HE2
      clear HE2
      have HFM := Lib.hid hfm
      clear hfm HTS
      obtain ⟨a0, a1, -, -, -⟩ := HA.out
      obtain ⟨⟨b0, b1, b2, b3⟩, -, -⟩ := HB.out
      go_wp2_with fail
      clear a0 a1 b0 b1 b2 b3
      refine (HFM.out w5 Ext.rfl').mono ?_
      rintro e w6 ⟨rfl, hE⟩
      have HA2 := Lib.hid (HA.out.ext hE)
      have HB2 := Lib.hid (HB.out.ext hE)
      have HE2 := Lib.hid (Ext.trans HE.out hE)
      clear HA HB HE hE
      have HA := HA2
      clear HA2
      have HB := HB2
      clear HB2
      have HE := HE2
      clear HE2
      clear HFM
      have hmi : (mm : Int) = 4 + 7 * (n : Int) := by have := HMM.out; omega
      have hmb : ((mm : Int) != 4 + 7 * (n : Int)) = false := by simp [hmi]
      have hn40 : n ≤ 40 := HN.out
      have HMI := Lib.hid hmi
      clear hmi
      have xt : (F.toList != F.toList) = false := by simp
      by_cases hf0 : f = 0
      · subst hf0
        obtain ⟨ts, hts⟩ := HY4.out (by first | rfl | trivial)
        have HTS := Lib.hid hts
        clear hts
        obtain ⟨a0, a1, -, -, -⟩ := HA.out
        obtain ⟨⟨b0, b1, b2, b3⟩, -, -⟩ := HB.out
        go_wp2_with fail
        clear a0 a1 b0 b1 b2 b3
        obtain ⟨mm, hmm⟩ : ∃ mm : Nat, 6 = mm := ⟨_, rfl⟩
        rw [hmm] at HTS
        have HMM := Lib.hid hmm
        clear hmm
        refine (all_fmt HTS.out (by have := HMM.out; omega) w6).mono ?_
        rintro e w7 ⟨⟨g, cap, rfl, hfm⟩, hE⟩
        have HA2 := Lib.hid (HA.out.ext hE)
        have HB2 := Lib.hid (HB.out.ext hE)
        have HE2 := Lib.hid (Ext.trans HE.out hE)
        clear HA HB HE hE
        have HA := HA2
        clear HA2
        have HB := HB2
        clear HB2
        have HE := HE2
        clear HE2
        have HFM := Lib.hid hfm
        clear hfm HTS
        obtain ⟨a0, a1, -, -, -⟩ := HA.out
        obtain ⟨⟨b0, b1, b2, b3⟩, -, -⟩ := HB.out
        go_wp2_with fail
        clear a0 a1 b0 b1 b2 b3
        refine (HFM.out w7 Ext.rfl').mono ?_
        rintro e w8 ⟨rfl, hE⟩
        have HA2 := Lib.hid (HA.out.ext hE)
        have HB2 := Lib.hid (HB.out.ext hE)
        have HE2 := Lib.hid (Ext.trans HE.out hE)
        clear HA HB HE hE
        have HA := HA2
        clear HA2
        have HB := HB2
        clear HB2
        have HE := HE2
        clear HE2
        clear HFM
        obtain rfl : mm = 6 := HMM.out.symm
        have yt : (Y.toList == Y.toList) = true := by simp
        obtain ⟨a0, a1, -, -, -⟩ := HA.out
        obtain ⟨⟨b0, b1, b2, b3⟩, -, -⟩ := HB.out
        go_wp2_with fail
        go_ret
        exact ⟨rfl, HE.out⟩
      · have f1 : (f != 0) = true := by simp [hf0]
        clear hf0
        obtain ⟨a0, a1, -, -, -⟩ := HA.out
        obtain ⟨⟨b0, b1, b2, b3⟩, -, -⟩ := HB.out
        go_wp2_with fail
        go_ret
        exact ⟨rfl, HE.out⟩
    · have n1 : (nc == 0) = false := by simp [hc]
      clear hc
      by_cases hf0 : f = 0
      · subst hf0
        obtain ⟨ts, hts⟩ := HY4.out (by first | rfl | trivial)
        have HTS := Lib.hid hts
        clear hts
        obtain ⟨a0, a1, -, -, -⟩ := HA.out
        obtain ⟨⟨b0, b1, b2, b3⟩, -, -⟩ := HB.out
        go_wp2_with fail
        clear a0 a1 b0 b1 b2 b3
        obtain ⟨mm, hmm⟩ : ∃ mm : Nat, 6 = mm := ⟨_, rfl⟩
        rw [hmm] at HTS
        have HMM := Lib.hid hmm
        clear hmm
        refine (all_fmt HTS.out (by have := HMM.out; omega) w4).mono ?_
        rintro e w5 ⟨⟨g, cap, rfl, hfm⟩, hE⟩
        have HA2 := Lib.hid (HA.out.ext hE)
        have HB2 := Lib.hid (HB.out.ext hE)
        have HE2 := Lib.hid (Ext.trans HE.out hE)
        clear HA HB HE hE
        have HA := HA2
        clear HA2
        have HB := HB2
        clear HB2
        have HE := HE2
        clear HE2
        have HFM := Lib.hid hfm
        clear hfm HTS
        obtain ⟨a0, a1, -, -, -⟩ := HA.out
        obtain ⟨⟨b0, b1, b2, b3⟩, -, -⟩ := HB.out
        go_wp2_with fail
        clear a0 a1 b0 b1 b2 b3
        refine (HFM.out w5 Ext.rfl').mono ?_
        rintro e w6 ⟨rfl, hE⟩
        have HA2 := Lib.hid (HA.out.ext hE)
        have HB2 := Lib.hid (HB.out.ext hE)
        have HE2 := Lib.hid (Ext.trans HE.out hE)
        clear HA HB HE hE
        have HA := HA2
        clear HA2
        have HB := HB2
        clear HB2
        have HE := HE2
        clear HE2
        clear HFM
        obtain rfl : mm = 6 := HMM.out.symm
        have yt : (Y.toList == Y.toList) = true := by simp
        obtain ⟨a0, a1, -, -, -⟩ := HA.out
        obtain ⟨⟨b0, b1, b2, b3⟩, -, -⟩ := HB.out
        go_wp2_with fail
        go_ret
        exact ⟨rfl, HE.out⟩
      · have f1 : (f != 0) = true := by simp [hf0]
        clear hf0
        obtain ⟨a0, a1, -, -, -⟩ := HA.out
        obtain ⟨⟨b0, b1, b2, b3⟩, -, -⟩ := HB.out
        go_wp2_with fail
        go_ret
        exact ⟨rfl, HE.out⟩
end Go.Proofs.Ytnofbjcikfofgaa
