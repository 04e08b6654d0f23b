/- The law BidtextTokens returns true. Printed by gen_btx.py. -/
import Derived.Test.YtkdbpcenehhopaaGreatBtFo
import Derived.Test.YtkdbpcenehhopaaGreatTxAl
namespace Go.Proofs.YtkdbpcenehhopaaGreat
open Go.RowKit
/-- A formatted text and its tokens. -/
structure TokT (F : ByteArray) (ts : List Tok) (m : Nat) : Prop where
  text : bs (fmtT ts) = F
  rd : Rd F.data.toList 0 ts (F.size : Int)
  none : nextT F.data.toList (F.size : Int) = nxE 8
  len : ts.length = m
  good : ∀ t ∈ ts, GoodT t ∧ (pieceT t).length ≤ 20
  small : F.size ≤ 5000
  head : ∃ r, ts = tokO :: r
theorem end_none (l : Bs) (h : l.length ≤ 65536) : nextT l (l.length : Int) = nxE 8 := by
  have := nextT_none (pre := l) (seps := []) rfl (by simpa using h)
  simpa using this
theorem tok_pack {us : List Tok} {r : List Tok} (hu : us ++ [tokC] = tokO :: r) (hg : ∀ t ∈ us ++ [tokC], GoodT t ∧ (pieceT t).length ≤ 20) (hl : (fmtT (us ++ [tokC])).length ≤ 5000) : TokT (bs (fmtT (us ++ [tokC]))) (us ++ [tokC]) (us ++ [tokC]).length := by
  have h := rd_fmt [] [] us (fun t ht => (hg t (List.mem_append_left _ ht)).1) (by simp; omega)
  simp only [List.nil_append, List.append_nil, List.length_nil, Nat.zero_add] at h
  refine ⟨rfl, ?_, ?_, rfl, hg, by rw [bs_size]; exact hl, ⟨r, hu⟩⟩
  · rw [bs_list, bs_size]
    exact h
  · rw [bs_list, bs_size]
    exact end_none _ (by omega)
/-- token.All and token.Format at a formatted text. -/
theorem all_fmt {F : ByteArray} {ts : List Tok} {m : Nat} (h : TokT F ts m) (hm : m ≤ 1000) (w : World) :
    Calls Tryz.prog 19 #[.string F] w fun e w' => (∃ g cap, e = .returned (.tuple #[.slice (some ⟨g, 0, none⟩) m cap, .int .i64 0]) ∧ ∀ w2, Ext w' w2 → Calls Tryz.prog 20 #[.slice (some ⟨g, 0, none⟩) m cap] w2 fun e w' => e = .returned (.tuple #[.string F, .int .i64 0]) ∧ Ext w2 w') ∧ Ext w w' := by
  refine (all_any F ts F.size w (by have := h.small; unfold maxLen; omega) h.rd h.none (by rw [h.len]; exact hm)).mono ?_
  rintro e w1 ⟨⟨v, rfl, hrow⟩, hE⟩
  obtain ⟨r, hr⟩ := h.head
  obtain ⟨g, cap, rfl, -, -⟩ := hrow.some (n := m) h.len (by have := h.len; rw [hr] at this; simp at this; omega)
  refine ⟨⟨g, cap, rfl, fun w2 hE2 => ?_⟩, hE⟩
  refine (tformat_row (hrow.ext hE2) hr h.len (by omega) h.good).mono ?_
  rintro e w3 ⟨rfl, hE3⟩
  rw [h.text]
  exact ⟨rfl, hE3⟩
theorem unit_packt (u : U) : ∃ (F : ByteArray) (f : Int), bs (unitT u).1 = F ∧ (unitT u).2 = f ∧ (f = 0 → ∃ ts, TokT F ts (u.steps.length * 4 + 11)) := by
  rcases unit_cases u with ⟨hc, e⟩ | ⟨hc, e⟩
  · rw [e]
    have hl2 := unit_len hc
    obtain ⟨hz, hi, -⟩ := unit_zs hc
    refine ⟨_, _, rfl, rfl, fun _ => ⟨unitToks u, ?_⟩⟩
    have hg := unit_good hz hi
    have hn := unitToks_len u
    rw [unitToks_init] at hl2 hg hn ⊢
    rw [← hn]
    exact tok_pack (us := unitInit u) (r := tokW [117, 110, 105, 116] :: ((unitZs u).map (fun (z : Int) => tokN (z : Rat)) ++ u.steps.flatMap stTok) ++ [tokC]) rfl hg (by omega)
  · rw [e]
    exact ⟨_, _, rfl, rfl, fun h => absurd h hc⟩
theorem bid_packt (b : Int) (xs : List (Int × Int)) : ∃ (F : ByteArray) (f : Int), bs (bidT b xs).1 = F ∧ (bidT b xs).2 = f ∧ (f = 0 → ∃ ts, TokT F ts (xs.length * 4 + 4)) := by
  rcases bid_cases b xs with ⟨hc, e⟩ | ⟨hc, e⟩
  · rw [e]
    have hl2 := bid_len hc
    obtain ⟨hz, hi, -⟩ := bid_zs hc
    refine ⟨_, _, rfl, rfl, fun _ => ⟨bidToks b xs, ?_⟩⟩
    have hg := bid_good hz hi
    have hn := bidToks_len b xs
    rw [bidToks_init] at hl2 hg hn ⊢
    rw [← hn]
    exact tok_pack (us := bidInit b xs) (r := tokW [98, 105, 100] :: numT b :: xs.flatMap stTok ++ [tokC]) rfl hg (by omega)
  · rw [e]
    exact ⟨_, _, rfl, rfl, fun h => absurd h hc⟩
set_option maxRecDepth 100000 in
set_option maxHeartbeats 64000000 in
theorem btok_any (u : U) (A : Option Addr) (n c : Nat) (b : Int) (xs : List (Int × Int)) (B : Option Addr) (m d : Nat) (w : World) (h : StepsAt w A n u.steps) (h' : StepsAt w B m xs) :
    Calls Tryz.prog 4 #[u.val A n c, .agg #[.int .i64 b, .slice B m d]] w fun e w' => e = .returned (.bool true) ∧ Ext w w' := by
  have H := Lib.hid h
  have H' := Lib.hid h'
  clear h h'
  go_enter Tryz.func4, Tryz.ntmps4
  have hAB : Ext (w.alloc (.cells #[.int .i64 u.bus, .int .i64 u.mn, .slice A n c, .int .i64 u.up, .int .i64 u.down, .int .i64 u.start, .int .i64 u.idle, .int .i64 u.spin, .int .i64 u.on] 24)) ((w.alloc (.cells #[.int .i64 u.bus, .int .i64 u.mn, .slice A n c, .int .i64 u.up, .int .i64 u.down, .int .i64 u.start, .int .i64 u.idle, .int .i64 u.spin, .int .i64 u.on] 24)).alloc (.cells #[.int .i64 b, .slice B m d] 26)) := Ext.al Ext.rfl' _
  have hA := (UBk.new w u A n c).ext hAB
  have hB := Cell2.new (w.alloc (.cells #[.int .i64 u.bus, .int .i64 u.mn, .slice A n c, .int .i64 u.up, .int .i64 u.down, .int .i64 u.start, .int .i64 u.idle, .int .i64 u.spin, .int .i64 u.on] 24)) _ rfl (.int .i64 b) (.slice B m d) 26
  have hE0 : Ext w ((w.alloc (.cells #[.int .i64 u.bus, .int .i64 u.mn, .slice A n c, .int .i64 u.up, .int .i64 u.down, .int .i64 u.start, .int .i64 u.idle, .int .i64 u.spin, .int .i64 u.on] 24)).alloc (.cells #[.int .i64 b, .slice B m d] 26)) := Ext.trans (Ext.al Ext.rfl' _) hAB
  have he : (w.alloc (.cells #[.int .i64 u.bus, .int .i64 u.mn, .slice A n c, .int .i64 u.up, .int .i64 u.down, .int .i64 u.start, .int .i64 u.idle, .int .i64 u.spin, .int .i64 u.on] 24)).heap.size = w.heap.size + 1 := by simp
  rw [he] at hB
  have HA := Lib.hid hA
  have HB := Lib.hid hB
  have HE := Lib.hid hE0
  clear hA hAB hB hE0 he
  obtain ⟨a0, a1, a2, a3, a4, a5, a6, a7, a8⟩ := HA.out.cells
  obtain ⟨b0, b1, -, -, -⟩ := HB.out
  go_wp2_with fail
  clear a0 a1 a2 a3 a4 a5 a6 a7 a8 b0 b1
  generalize ((w.alloc (.cells #[.int .i64 u.bus, .int .i64 u.mn, .slice A n c, .int .i64 u.up, .int .i64 u.down, .int .i64 u.start, .int .i64 u.idle, .int .i64 u.spin, .int .i64 u.on] 24)).alloc (.cells #[.int .i64 b, .slice B m d] 26)) = w0 at *
  obtain ⟨ga, hga⟩ : ∃ x, w.heap.size = x := ⟨_, rfl⟩
  rw [hga] at HA HB ⊢
  clear hga
  obtain ⟨gb, hgb⟩ : ∃ x, ga + 1 = x := ⟨_, rfl⟩
  rw [hgb] at HB ⊢
  clear hgb
  refine (blong_any ⟨#[]⟩ A n c w0).mono ?_
  rintro e w1 ⟨rfl, hE⟩
  have HA2 := Lib.hid (HA.out.ext hE)
  have HB2 := Lib.hid (HB.out.ext hE)
  have HE2 := Lib.hid (Ext.trans HE.out hE)
  clear HA HB HE hE
  have HA := HA2
  clear HA2
  have HB := HB2
  clear HB2
  have HE := HE2
  clear HE2
  obtain ⟨lg, hlg⟩ : ∃ v, (decide (5000 < (⟨#[]⟩ : ByteArray).size) || decide (50 < n)) = v := ⟨_, rfl⟩
  rw [hlg]
  have HL1 := Lib.hid hlg
  clear hlg
  cases lg with
  | true =>
    obtain ⟨a0, a1, a2, a3, a4, a5, a6, a7, a8⟩ := HA.out.cells
    obtain ⟨b0, b1, -, -, -⟩ := HB.out
    go_wp2_with fail
    clear a0 a1 a2 a3 a4 a5 a6 a7 a8 b0 b1
    refine (bt_awake w1).mono ?_
    rintro e w2 ⟨rfl, hE⟩
    have HA2 := Lib.hid (HA.out.ext hE)
    have HB2 := Lib.hid (HB.out.ext hE)
    have HE2 := Lib.hid (Ext.trans HE.out hE)
    clear HA HB HE hE
    have HA := HA2
    clear HA2
    have HB := HB2
    clear HB2
    have HE := HE2
    clear HE2
    obtain ⟨a0, a1, a2, a3, a4, a5, a6, a7, a8⟩ := HA.out.cells
    obtain ⟨b0, b1, -, -, -⟩ := HB.out
    go_wp2_with fail
    go_ret
    exact ⟨rfl, HE.out⟩
  | false =>
    have HL1' : Hid ((⟨#[]⟩ : ByteArray).size ≤ 5000 ∧ n ≤ 50) := by
      have h1 := HL1.out
      simp only [Bool.or_eq_false_iff, decide_eq_false_iff_not] at h1
      unfold Hid
      omega
    clear HL1
    have HL1 := HL1'
    clear HL1'
    obtain ⟨a0, a1, a2, a3, a4, a5, a6, a7, a8⟩ := HA.out.cells
    obtain ⟨b0, b1, -, -, -⟩ := HB.out
    go_wp2_with fail
    clear a0 a1 a2 a3 a4 a5 a6 a7 a8 b0 b1
    refine (blong_any ⟨#[]⟩ B m d w1).mono ?_
    rintro e w2 ⟨rfl, hE⟩
    have HA2 := Lib.hid (HA.out.ext hE)
    have HB2 := Lib.hid (HB.out.ext hE)
    have HE2 := Lib.hid (Ext.trans HE.out hE)
    clear HA HB HE hE
    have HA := HA2
    clear HA2
    have HB := HB2
    clear HB2
    have HE := HE2
    clear HE2
    obtain ⟨lg, hlg⟩ : ∃ v, (decide (5000 < (⟨#[]⟩ : ByteArray).size) || decide (50 < m)) = v := ⟨_, rfl⟩
    rw [hlg]
    have HL2 := Lib.hid hlg
    clear hlg
    cases lg with
    | true =>
      obtain ⟨a0, a1, a2, a3, a4, a5, a6, a7, a8⟩ := HA.out.cells
      obtain ⟨b0, b1, -, -, -⟩ := HB.out
      go_wp2_with fail
      clear a0 a1 a2 a3 a4 a5 a6 a7 a8 b0 b1
      refine (bt_awake w2).mono ?_
      rintro e w3 ⟨rfl, hE⟩
      have HA2 := Lib.hid (HA.out.ext hE)
      have HB2 := Lib.hid (HB.out.ext hE)
      have HE2 := Lib.hid (Ext.trans HE.out hE)
      clear HA HB HE hE
      have HA := HA2
      clear HA2
      have HB := HB2
      clear HB2
      have HE := HE2
      clear HE2
      obtain ⟨a0, a1, a2, a3, a4, a5, a6, a7, a8⟩ := HA.out.cells
      obtain ⟨b0, b1, -, -, -⟩ := HB.out
      go_wp2_with fail
      go_ret
      exact ⟨rfl, HE.out⟩
    | false =>
      have HL2' : Hid ((⟨#[]⟩ : ByteArray).size ≤ 5000 ∧ m ≤ 50) := by
        have h1 := HL2.out
        simp only [Bool.or_eq_false_iff, decide_eq_false_iff_not] at h1
        unfold Hid
        omega
      clear HL2
      have HL2 := HL2'
      clear HL2'
      obtain ⟨a0, a1, a2, a3, a4, a5, a6, a7, a8⟩ := HA.out.cells
      obtain ⟨b0, b1, -, -, -⟩ := HB.out
      go_wp2_with fail
      clear a0 a1 a2 a3 a4 a5 a6 a7 a8 b0 b1
      refine (bt_awake w2).mono ?_
      rintro e w3 ⟨rfl, hE⟩
      have HA2 := Lib.hid (HA.out.ext hE)
      have HB2 := Lib.hid (HB.out.ext hE)
      have HE2 := Lib.hid (Ext.trans HE.out hE)
      clear HA HB HE hE
      have HA := HA2
      clear HA2
      have HB := HB2
      clear HB2
      have HE := HE2
      clear HE2
      obtain ⟨a0, a1, a2, a3, a4, a5, a6, a7, a8⟩ := HA.out.cells
      obtain ⟨b0, b1, -, -, -⟩ := HB.out
      go_wp2_with fail
      clear a0 a1 a2 a3 a4 a5 a6 a7 a8 b0 b1
      obtain ⟨F, f, hF1, hF2, hF4⟩ := unit_packt u
      have hf := bfmtunit_any u A n c w3 (H.out.below HE.out) (by have := HL1.out; omega)
      rw [hF1, hF2] at hf
      have HF4 := Lib.hid hF4
      clear hF1 hF2 hF4
      refine (hf).mono ?_
      rintro e w4 ⟨rfl, hE⟩
      have HA2 := Lib.hid (HA.out.ext hE)
      have HB2 := Lib.hid (HB.out.ext hE)
      have HE2 := Lib.hid (Ext.trans HE.out hE)
      clear HA HB HE hE
      have HA := HA2
      clear HA2
      have HB := HB2
      clear HB2
      have HE := HE2
      clear HE2
      clear hf
      obtain ⟨a0, a1, a2, a3, a4, a5, a6, a7, a8⟩ := HA.out.cells
      obtain ⟨b0, b1, -, -, -⟩ := HB.out
      go_wp2_with fail
      clear a0 a1 a2 a3 a4 a5 a6 a7 a8 b0 b1
      obtain ⟨Y, e, hY1, hY2, hY4⟩ := bid_packt b xs
      have hf := bfmtbid_any b xs B m d w4 (H'.out.below HE.out) (by have := HL2.out; omega)
      rw [hY1, hY2] at hf
      have HY4 := Lib.hid hY4
      clear hY1 hY2 hY4
      refine (hf).mono ?_
      rintro e w5 ⟨rfl, hE⟩
      have HA2 := Lib.hid (HA.out.ext hE)
      have HB2 := Lib.hid (HB.out.ext hE)
      have HE2 := Lib.hid (Ext.trans HE.out hE)
      clear HA HB HE hE
      have HA := HA2
      clear HA2
      have HB := HB2
      clear HB2
      have HE := HE2
      clear HE2
      clear hf
      by_cases hc : f = 0
      · subst hc
        obtain ⟨ts, hts⟩ := HF4.out (by first | rfl | trivial)
        have HTS := Lib.hid hts
        clear hts
        obtain ⟨a0, a1, a2, a3, a4, a5, a6, a7, a8⟩ := HA.out.cells
        obtain ⟨b0, b1, -, -, -⟩ := HB.out
        go_wp2_with fail
        clear a0 a1 a2 a3 a4 a5 a6 a7 a8 b0 b1
        obtain ⟨mm, hmm⟩ : ∃ mm : Nat, (u.steps.length * 4 + 11) = mm := ⟨_, rfl⟩
        rw [hmm] at HTS
        have HMM := Lib.hid hmm
        clear hmm
        refine (all_fmt HTS.out (by have := HMM.out; have := HL1.out; have := H.out.1; omega) w5).mono ?_
        rintro e w6 ⟨⟨g, cap, rfl, hfm⟩, hE⟩
        have HA2 := Lib.hid (HA.out.ext hE)
        have HB2 := Lib.hid (HB.out.ext hE)
        have HE2 := Lib.hid (Ext.trans HE.out hE)
        clear HA HB HE hE
        have HA := HA2
        clear HA2
        have HB := HB2
        clear HB2
        have HE := HE2
        clear HE2
        have HFM := Lib.hid hfm
        clear hfm HTS
        obtain ⟨a0, a1, a2, a3, a4, a5, a6, a7, a8⟩ := HA.out.cells
        obtain ⟨b0, b1, -, -, -⟩ := HB.out
        go_wp2_with fail
        clear a0 a1 a2 a3 a4 a5 a6 a7 a8 b0 b1
        refine (HFM.out w6 Ext.rfl').mono ?_
        rintro e w7 ⟨rfl, hE⟩
        have HA2 := Lib.hid (HA.out.ext hE)
        have HB2 := Lib.hid (HB.out.ext hE)
        have HE2 := Lib.hid (Ext.trans HE.out hE)
        clear HA HB HE hE
        have HA := HA2
        clear HA2
        have HB := HB2
        clear HB2
        have HE := HE2
        clear HE2
        clear HFM
        have hmi : (mm : Int) = 11 + 4 * (n : Int) := by have := HMM.out; have := H.out.1; omega
        have hmb : ((mm : Int) != 11 + 4 * (n : Int)) = false := by simp [hmi]
        have hn50 : n ≤ 50 := HL1.out.2
        have xt : (F.toList != F.toList) = false := by simp
        clear hmi
        by_cases hf0 : e = 0
        · subst hf0
          obtain ⟨ts, hts⟩ := HY4.out (by first | rfl | trivial)
          have HTS := Lib.hid hts
          clear hts
          obtain ⟨a0, a1, a2, a3, a4, a5, a6, a7, a8⟩ := HA.out.cells
          obtain ⟨b0, b1, -, -, -⟩ := HB.out
          go_wp2_with fail
          clear a0 a1 a2 a3 a4 a5 a6 a7 a8 b0 b1
          obtain ⟨mm, hmm⟩ : ∃ mm : Nat, (xs.length * 4 + 4) = mm := ⟨_, rfl⟩
          rw [hmm] at HTS
          have HMM := Lib.hid hmm
          clear hmm
          refine (all_fmt HTS.out (by have := HMM.out; have := HL2.out; have := H'.out.1; omega) w7).mono ?_
          rintro e w8 ⟨⟨g, cap, rfl, hfm⟩, hE⟩
          have HA2 := Lib.hid (HA.out.ext hE)
          have HB2 := Lib.hid (HB.out.ext hE)
          have HE2 := Lib.hid (Ext.trans HE.out hE)
          clear HA HB HE hE
          have HA := HA2
          clear HA2
          have HB := HB2
          clear HB2
          have HE := HE2
          clear HE2
          have HFM := Lib.hid hfm
          clear hfm HTS
          obtain ⟨a0, a1, a2, a3, a4, a5, a6, a7, a8⟩ := HA.out.cells
          obtain ⟨b0, b1, -, -, -⟩ := HB.out
          go_wp2_with fail
          clear a0 a1 a2 a3 a4 a5 a6 a7 a8 b0 b1
          refine (HFM.out w8 Ext.rfl').mono ?_
          rintro e w9 ⟨rfl, hE⟩
          have HA2 := Lib.hid (HA.out.ext hE)
          have HB2 := Lib.hid (HB.out.ext hE)
          have HE2 := Lib.hid (Ext.trans HE.out hE)
          clear HA HB HE hE
          have HA := HA2
          clear HA2
          have HB := HB2
          clear HB2
          have HE := HE2
          clear HE2
          clear HFM
          have hmi : (mm : Int) = 4 + 4 * (m : Int) := by have := HMM.out; have := H'.out.1; omega
          have hmb : ((mm : Int) == 4 + 4 * (m : Int)) = true := by simp [hmi]
          have hm50 : m ≤ 50 := HL2.out.2
          have yt : (Y.toList == Y.toList) = true := by simp
          clear hmi
          obtain ⟨a0, a1, a2, a3, a4, a5, a6, a7, a8⟩ := HA.out.cells
          obtain ⟨b0, b1, -, -, -⟩ := HB.out
          go_wp2_with fail
          go_ret
          exact ⟨rfl, HE.out⟩
        · have f1 : (e != 0) = true := by simp [hf0]
          clear hf0
          obtain ⟨a0, a1, a2, a3, a4, a5, a6, a7, a8⟩ := HA.out.cells
          obtain ⟨b0, b1, -, -, -⟩ := HB.out
          go_wp2_with fail
          go_ret
          exact ⟨rfl, HE.out⟩
      · have n1 : (f == 0) = false := by simp [hc]
        clear hc
        by_cases hf0 : e = 0
        · subst hf0
          obtain ⟨ts, hts⟩ := HY4.out (by first | rfl | trivial)
          have HTS := Lib.hid hts
          clear hts
          obtain ⟨a0, a1, a2, a3, a4, a5, a6, a7, a8⟩ := HA.out.cells
          obtain ⟨b0, b1, -, -, -⟩ := HB.out
          go_wp2_with fail
          clear a0 a1 a2 a3 a4 a5 a6 a7 a8 b0 b1
          obtain ⟨mm, hmm⟩ : ∃ mm : Nat, (xs.length * 4 + 4) = mm := ⟨_, rfl⟩
          rw [hmm] at HTS
          have HMM := Lib.hid hmm
          clear hmm
          refine (all_fmt HTS.out (by have := HMM.out; have := HL2.out; have := H'.out.1; omega) w5).mono ?_
          rintro e w6 ⟨⟨g, cap, rfl, hfm⟩, hE⟩
          have HA2 := Lib.hid (HA.out.ext hE)
          have HB2 := Lib.hid (HB.out.ext hE)
          have HE2 := Lib.hid (Ext.trans HE.out hE)
          clear HA HB HE hE
          have HA := HA2
          clear HA2
          have HB := HB2
          clear HB2
          have HE := HE2
          clear HE2
          have HFM := Lib.hid hfm
          clear hfm HTS
          obtain ⟨a0, a1, a2, a3, a4, a5, a6, a7, a8⟩ := HA.out.cells
          obtain ⟨b0, b1, -, -, -⟩ := HB.out
          go_wp2_with fail
          clear a0 a1 a2 a3 a4 a5 a6 a7 a8 b0 b1
          refine (HFM.out w6 Ext.rfl').mono ?_
          rintro e w7 ⟨rfl, hE⟩
          have HA2 := Lib.hid (HA.out.ext hE)
          have HB2 := Lib.hid (HB.out.ext hE)
          have HE2 := Lib.hid (Ext.trans HE.out hE)
          clear HA HB HE hE
          have HA := HA2
          clear HA2
          have HB := HB2
          clear HB2
          have HE := HE2
          clear HE2
          clear HFM
          have hmi : (mm : Int) = 4 + 4 * (m : Int) := by have := HMM.out; have := H'.out.1; omega
          have hmb : ((mm : Int) == 4 + 4 * (m : Int)) = true := by simp [hmi]
          have hm50 : m ≤ 50 := HL2.out.2
          have yt : (Y.toList == Y.toList) = true := by simp
          clear hmi
          obtain ⟨a0, a1, a2, a3, a4, a5, a6, a7, a8⟩ := HA.out.cells
          obtain ⟨b0, b1, -, -, -⟩ := HB.out
          go_wp2_with fail
          go_ret
          exact ⟨rfl, HE.out⟩
        · have f1 : (e != 0) = true := by simp [hf0]
          clear hf0
          obtain ⟨a0, a1, a2, a3, a4, a5, a6, a7, a8⟩ := HA.out.cells
          obtain ⟨b0, b1, -, -, -⟩ := HB.out
          go_wp2_with fail
          go_ret
          exact ⟨rfl, HE.out⟩
end Go.Proofs.YtkdbpcenehhopaaGreat
