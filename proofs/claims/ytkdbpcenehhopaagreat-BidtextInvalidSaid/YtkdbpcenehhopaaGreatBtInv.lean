/- The law BidtextInvalid returns true. Printed by gen_btx.py. -/
import Derived.Test.YtkdbpcenehhopaaGreatBtWr
namespace Go.Proofs.YtkdbpcenehhopaaGreat
open Go.RowKit
theorem unit_packi (u : U) (n : Nat) (hn : u.steps.length = n) (h50 : n ≤ 50) (hz : (∀ z ∈ unitZs u, I64r z) ∧ ∀ x ∈ u.steps, I64r x.1 ∧ I64r x.2) : ∃ F : ByteArray, bs (unitX u) = F ∧ F.size ≤ 5000 ∧ unitR F.data.toList 0 = unitEnd ⟨(F.size : Int), 0⟩ u := by
  have hl := unit_fmt_len hz.1 hz.2
  refine ⟨_, rfl, by rw [bs_size, unitX_is]; omega, ?_⟩
  have h := unit_back [] [] hz.1 hz.2 (by simp; omega)
  simp only [List.nil_append, List.append_nil, List.length_nil, Nat.zero_add] at h
  rw [bs_list, bs_size, unitX_is]
  exact h
theorem bid_packi (b : Int) (xs : List (Int × Int)) (n : Nat) (hn : xs.length = n) (h50 : n ≤ 50) (hz : I64r b ∧ ∀ x ∈ xs, I64r x.1 ∧ I64r x.2) : ∃ F : ByteArray, bs (bidX b xs) = F ∧ F.size ≤ 5000 ∧ bidR F.data.toList 0 = bidEnd ⟨(F.size : Int), 0⟩ b xs := by
  have hl := bid_fmt_len hz.1 hz.2
  refine ⟨_, rfl, by rw [bs_size, bidX_is]; omega, ?_⟩
  have h := bid_back [] [] hz.1 hz.2 (by simp; omega)
  simp only [List.nil_append, List.append_nil, List.length_nil, Nat.zero_add] at h
  rw [bs_list, bs_size, bidX_is]
  exact h
set_option maxRecDepth 100000 in
set_option maxHeartbeats 64000000 in
theorem binv_any (u : U) (A : Option Addr) (n c : Nat) (b : Int) (xs : List (Int × Int)) (B : Option Addr) (m d : Nat) (w : World) (h : StepsAt w A n u.steps) (h' : StepsAt w B m xs) (hz : (∀ z ∈ unitZs u, I64r z) ∧ ∀ x ∈ u.steps, I64r x.1 ∧ I64r x.2) (hz' : I64r b ∧ ∀ x ∈ xs, I64r x.1 ∧ I64r x.2) :
    Calls Tryz.prog 3 #[u.val A n c, .agg #[.int .i64 b, .slice B m d]] w fun e w' => e = .returned (.bool true) ∧ Ext w w' := by
  have H := Lib.hid h
  have H' := Lib.hid h'
  clear h h'
  have HZ := Lib.hid hz
  have HZ' := Lib.hid hz'
  clear hz hz'
  go_enter Tryz.func3, Tryz.ntmps3
  have hAB : Ext (w.alloc (.cells #[.int .i64 u.bus, .int .i64 u.mn, .slice A n c, .int .i64 u.up, .int .i64 u.down, .int .i64 u.start, .int .i64 u.idle, .int .i64 u.spin, .int .i64 u.on] 24)) ((w.alloc (.cells #[.int .i64 u.bus, .int .i64 u.mn, .slice A n c, .int .i64 u.up, .int .i64 u.down, .int .i64 u.start, .int .i64 u.idle, .int .i64 u.spin, .int .i64 u.on] 24)).alloc (.cells #[.int .i64 b, .slice B m d] 26)) := Ext.al Ext.rfl' _
  have hA := (UBk.new w u A n c).ext hAB
  have hB := Cell2.new (w.alloc (.cells #[.int .i64 u.bus, .int .i64 u.mn, .slice A n c, .int .i64 u.up, .int .i64 u.down, .int .i64 u.start, .int .i64 u.idle, .int .i64 u.spin, .int .i64 u.on] 24)) _ rfl (.int .i64 b) (.slice B m d) 26
  have hE0 : Ext w ((w.alloc (.cells #[.int .i64 u.bus, .int .i64 u.mn, .slice A n c, .int .i64 u.up, .int .i64 u.down, .int .i64 u.start, .int .i64 u.idle, .int .i64 u.spin, .int .i64 u.on] 24)).alloc (.cells #[.int .i64 b, .slice B m d] 26)) := Ext.trans (Ext.al Ext.rfl' _) hAB
  have he : (w.alloc (.cells #[.int .i64 u.bus, .int .i64 u.mn, .slice A n c, .int .i64 u.up, .int .i64 u.down, .int .i64 u.start, .int .i64 u.idle, .int .i64 u.spin, .int .i64 u.on] 24)).heap.size = w.heap.size + 1 := by simp
  rw [he] at hB
  have HA := Lib.hid hA
  have HB := Lib.hid hB
  have HE := Lib.hid hE0
  clear hA hAB hB hE0 he
  obtain ⟨a0, a1, a2, a3, a4, a5, a6, a7, a8⟩ := HA.out.cells
  obtain ⟨b0, b1, -, -, -⟩ := HB.out
  go_wp2_with fail
  clear a0 a1 a2 a3 a4 a5 a6 a7 a8 b0 b1
  generalize ((w.alloc (.cells #[.int .i64 u.bus, .int .i64 u.mn, .slice A n c, .int .i64 u.up, .int .i64 u.down, .int .i64 u.start, .int .i64 u.idle, .int .i64 u.spin, .int .i64 u.on] 24)).alloc (.cells #[.int .i64 b, .slice B m d] 26)) = w0 at *
  obtain ⟨ga, hga⟩ : ∃ x, w.heap.size = x := ⟨_, rfl⟩
  rw [hga] at HA HB ⊢
  clear hga
  obtain ⟨gb, hgb⟩ : ∃ x, ga + 1 = x := ⟨_, rfl⟩
  rw [hgb] at HB ⊢
  clear hgb
  refine (blong_any ⟨#[]⟩ A n c w0).mono ?_
  rintro e w1 ⟨rfl, hE⟩
  have HA2 := Lib.hid (HA.out.ext hE)
  have HB2 := Lib.hid (HB.out.ext hE)
  have HE2 := Lib.hid (Ext.trans HE.out hE)
  clear HA HB HE hE
  have HA := HA2
  clear HA2
  have HB := HB2
  clear HB2
  have HE := HE2
  clear HE2
  obtain ⟨lg, hlg⟩ : ∃ v, (decide (5000 < (⟨#[]⟩ : ByteArray).size) || decide (50 < n)) = v := ⟨_, rfl⟩
  rw [hlg]
  have HL10 := Lib.hid hlg
  clear hlg
  cases lg with
  | true =>
    obtain ⟨a0, a1, a2, a3, a4, a5, a6, a7, a8⟩ := HA.out.cells
    obtain ⟨b0, b1, -, -, -⟩ := HB.out
    go_wp2_with fail
    clear a0 a1 a2 a3 a4 a5 a6 a7 a8 b0 b1
    refine (bt_awake w1).mono ?_
    rintro e w2 ⟨rfl, hE⟩
    have HA2 := Lib.hid (HA.out.ext hE)
    have HB2 := Lib.hid (HB.out.ext hE)
    have HE2 := Lib.hid (Ext.trans HE.out hE)
    clear HA HB HE hE
    have HA := HA2
    clear HA2
    have HB := HB2
    clear HB2
    have HE := HE2
    clear HE2
    obtain ⟨a0, a1, a2, a3, a4, a5, a6, a7, a8⟩ := HA.out.cells
    obtain ⟨b0, b1, -, -, -⟩ := HB.out
    go_wp2_with fail
    go_ret
    exact ⟨rfl, HE.out⟩
  | false =>
    have HL1 : Hid (n ≤ 50) := by
      have h1 := HL10.out
      simp only [Bool.or_eq_false_iff, decide_eq_false_iff_not] at h1
      unfold Hid
      omega
    clear HL10
    obtain ⟨a0, a1, a2, a3, a4, a5, a6, a7, a8⟩ := HA.out.cells
    obtain ⟨b0, b1, -, -, -⟩ := HB.out
    go_wp2_with fail
    clear a0 a1 a2 a3 a4 a5 a6 a7 a8 b0 b1
    refine (blong_any ⟨#[]⟩ B m d w1).mono ?_
    rintro e w2 ⟨rfl, hE⟩
    have HA2 := Lib.hid (HA.out.ext hE)
    have HB2 := Lib.hid (HB.out.ext hE)
    have HE2 := Lib.hid (Ext.trans HE.out hE)
    clear HA HB HE hE
    have HA := HA2
    clear HA2
    have HB := HB2
    clear HB2
    have HE := HE2
    clear HE2
    obtain ⟨lg, hlg⟩ : ∃ v, (decide (5000 < (⟨#[]⟩ : ByteArray).size) || decide (50 < m)) = v := ⟨_, rfl⟩
    rw [hlg]
    have HL20 := Lib.hid hlg
    clear hlg
    cases lg with
    | true =>
      obtain ⟨a0, a1, a2, a3, a4, a5, a6, a7, a8⟩ := HA.out.cells
      obtain ⟨b0, b1, -, -, -⟩ := HB.out
      go_wp2_with fail
      clear a0 a1 a2 a3 a4 a5 a6 a7 a8 b0 b1
      refine (bt_awake w2).mono ?_
      rintro e w3 ⟨rfl, hE⟩
      have HA2 := Lib.hid (HA.out.ext hE)
      have HB2 := Lib.hid (HB.out.ext hE)
      have HE2 := Lib.hid (Ext.trans HE.out hE)
      clear HA HB HE hE
      have HA := HA2
      clear HA2
      have HB := HB2
      clear HB2
      have HE := HE2
      clear HE2
      obtain ⟨a0, a1, a2, a3, a4, a5, a6, a7, a8⟩ := HA.out.cells
      obtain ⟨b0, b1, -, -, -⟩ := HB.out
      go_wp2_with fail
      go_ret
      exact ⟨rfl, HE.out⟩
    | false =>
      have HL2 : Hid (m ≤ 50) := by
        have h1 := HL20.out
        simp only [Bool.or_eq_false_iff, decide_eq_false_iff_not] at h1
        unfold Hid
        omega
      clear HL20
      obtain ⟨a0, a1, a2, a3, a4, a5, a6, a7, a8⟩ := HA.out.cells
      obtain ⟨b0, b1, -, -, -⟩ := HB.out
      go_wp2_with fail
      clear a0 a1 a2 a3 a4 a5 a6 a7 a8 b0 b1
      refine (bt_awake w2).mono ?_
      rintro e w3 ⟨rfl, hE⟩
      have HA2 := Lib.hid (HA.out.ext hE)
      have HB2 := Lib.hid (HB.out.ext hE)
      have HE2 := Lib.hid (Ext.trans HE.out hE)
      clear HA HB HE hE
      have HA := HA2
      clear HA2
      have HB := HB2
      clear HB2
      have HE := HE2
      clear HE2
      obtain ⟨a0, a1, a2, a3, a4, a5, a6, a7, a8⟩ := HA.out.cells
      obtain ⟨b0, b1, -, -, -⟩ := HB.out
      go_wp2_with fail
      clear a0 a1 a2 a3 a4 a5 a6 a7 a8 b0 b1
      obtain ⟨F, hF1, hF2, hF3⟩ := unit_packi u n H.out.1 HL1.out HZ.out
      obtain ⟨Y, hY1, hY2, hY3⟩ := bid_packi b xs m H'.out.1 HL2.out HZ'.out
      have HF2 := Lib.hid hF2
      have HF3 := Lib.hid hF3
      have HY2 := Lib.hid hY2
      have HY3 := Lib.hid hY3
      have q1 : ∀ x : ExtOf w3, Calls Tryz.prog 9 #[u.val A n c] x.w fun e w' => e = .returned (.string F) ∧ Ext x.w w' := fun x => by
        rw [← hF1]
        exact rwrite_any u A n c x.w (H.out.below (Ext.trans HE.out x.h)) HZ.out.1 HZ.out.2 (by have := HL1.out; omega)
      have q2 : ∀ x : ExtOf w3, Calls Tryz.prog 10 #[.agg #[.int .i64 b, .slice B m d]] x.w fun e w' => e = .returned (.string Y) ∧ Ext x.w w' := fun x => by
        rw [← hY1]
        exact rwriteb_any b xs B m d x.w (H'.out.below (Ext.trans HE.out x.h)) HZ'.out.1 HZ'.out.2 (by have := HL2.out; omega)
      clear hF1 hF2 hF3 hY1 hY2 hY3
      obtain ⟨b0, b1, -, -, -⟩ := HB.out
      have hcc := HA.out.cells
      have zb0 := fun x : ExtOf w3 => x.cell b0
      have zb1 := fun x : ExtOf w3 => x.cell b1
      have za0 := fun x : ExtOf w3 => x.cell hcc.1
      have za1 := fun x : ExtOf w3 => x.cell hcc.2.1
      have za2 := fun x : ExtOf w3 => x.cell hcc.2.2.1
      have za3 := fun x : ExtOf w3 => x.cell hcc.2.2.2.1
      have za4 := fun x : ExtOf w3 => x.cell hcc.2.2.2.2.1
      have za5 := fun x : ExtOf w3 => x.cell hcc.2.2.2.2.2.1
      have za6 := fun x : ExtOf w3 => x.cell hcc.2.2.2.2.2.2.1
      have za7 := fun x : ExtOf w3 => x.cell hcc.2.2.2.2.2.2.2.1
      have za8 := fun x : ExtOf w3 => x.cell hcc.2.2.2.2.2.2.2.2
      clear b0 b1 hcc
      refine wp_region_ext (by kernel_rfl) (by kernel_rfl) ?_
      repeat (go_big_quiet_step (first | exact ext_call (q1 _) | exact ext_call (q2 _)))
      refine wpQuiet_nil ?_
      rintro _ ⟨x, rfl⟩
      have hE := x.h
      clear zb0 zb1 za0 za1 za2 za3 za4 za5 za6 za7 za8 q1 q2
      generalize x.w = w4 at *
      have HA2 := Lib.hid (HA.out.ext hE)
      have HB2 := Lib.hid (HB.out.ext hE)
      have HE2 := Lib.hid (Ext.trans HE.out hE)
      clear HA HB HE hE
      have HA := HA2
      clear HA2
      have HB := HB2
      clear HB2
      have HE := HE2
      clear HE2
      obtain ⟨a0, a1, a2, a3, a4, a5, a6, a7, a8⟩ := HA.out.cells
      obtain ⟨b0, b1, -, -, -⟩ := HB.out
      go_wp2_with fail
      clear a0 a1 a2 a3 a4 a5 a6 a7 a8 b0 b1
      obtain ⟨NX, hNX⟩ : ∃ x, unitR F.data.toList 0 = x := ⟨_, rfl⟩
      have hf := parseunit_any F 0 w4 (by have := HF2.out; unfold maxLen; omega)
      rw [hNX] at hf
      have HNX : Hid (NX = unitEnd ⟨(F.size : Int), 0⟩ u) := by unfold Hid; rw [← hNX]; exact HF3.out
      clear hNX
      obtain ⟨mu, p, g⟩ := NX
      refine hf.mono ?_
      clear hf
      rintro e w5 ⟨MA, mc, rfl, hLM, hE⟩
      simp only at hLM ⊢
      obtain ⟨mn, hmn⟩ : ∃ x, mu.steps.length = x := ⟨_, rfl⟩
      rw [hmn] at hLM ⊢
      have HMN := Lib.hid hmn
      clear hmn
      have HA2 := Lib.hid (HA.out.ext hE)
      have HB2 := Lib.hid (HB.out.ext hE)
      have HE2 := Lib.hid (Ext.trans HE.out hE)
      clear HA HB HE hE
      have HA := HA2
      clear HA2
      have HB := HB2
      clear HB2
      have HE := HE2
      clear HE2
      have hC := UBk.new w5 mu MA mn mc
      have hE : Ext w5 (w5.alloc (.cells #[.int .i64 mu.bus, .int .i64 mu.mn, .slice MA mn mc, .int .i64 mu.up, .int .i64 mu.down, .int .i64 mu.start, .int .i64 mu.idle, .int .i64 mu.spin, .int .i64 mu.on] 24)) := Ext.al Ext.rfl' _
      have HLM := Lib.hid (hLM.below hE)
      clear hLM
      have HA2 := Lib.hid (HA.out.ext hE)
      have HB2 := Lib.hid (HB.out.ext hE)
      have HE2 := Lib.hid (Ext.trans HE.out hE)
      clear HA HB HE hE
      have HA := HA2
      clear HA2
      have HB := HB2
      clear HB2
      have HE := HE2
      clear HE2
      have HC := Lib.hid hC
      clear hC
      obtain ⟨a0, a1, a2, a3, a4, a5, a6, a7, a8⟩ := HA.out.cells
      obtain ⟨b0, b1, -, -, -⟩ := HB.out
      obtain ⟨c0, c1, c2, c3, c4, c5, c6, c7, c8⟩ := HC.out.cells
      go_wp2_with fail
      clear a0 a1 a2 a3 a4 a5 a6 a7 a8 b0 b1 c0 c1 c2 c3 c4 c5 c6 c7 c8
      obtain ⟨OX, hOX⟩ : ∃ x, bidR Y.data.toList 0 = x := ⟨_, rfl⟩
      have hf := parsebid_any Y 0 (w5.alloc (.cells #[.int .i64 mu.bus, .int .i64 mu.mn, .slice MA mn mc, .int .i64 mu.up, .int .i64 mu.down, .int .i64 mu.start, .int .i64 mu.idle, .int .i64 mu.spin, .int .i64 mu.on] 24)) (by have := HY2.out; unfold maxLen; omega)
      rw [hOX] at hf
      have HOX : Hid (OX = bidEnd ⟨(Y.size : Int), 0⟩ b xs) := by unfold Hid; rw [← hOX]; exact HY3.out
      clear hOX
      obtain ⟨lb, lx, q, ie⟩ := OX
      have HLM2 := HLM
      clear HLM
      refine hf.mono ?_
      clear hf
      rintro e w6 ⟨LA, lc, rfl, hLX, hE⟩
      simp only at hLX ⊢
      obtain ⟨ln, hln⟩ : ∃ x, lx.length = x := ⟨_, rfl⟩
      rw [hln] at hLX ⊢
      have HLN := Lib.hid hln
      have hLM := HLM2.out.below hE
      clear hln HLM2
      have HA2 := Lib.hid (HA.out.ext hE)
      have HB2 := Lib.hid (HB.out.ext hE)
      have HC2 := Lib.hid (HC.out.ext hE)
      have HE2 := Lib.hid (Ext.trans HE.out hE)
      clear HA HB HC HE hE
      have HA := HA2
      clear HA2
      have HB := HB2
      clear HB2
      have HC := HC2
      clear HC2
      have HE := HE2
      clear HE2
      have hD := Cell2.new w6 _ rfl (.int .i64 lb) (.slice LA ln lc) 26
      have hE : Ext w6 (w6.alloc (.cells #[.int .i64 lb, .slice LA ln lc] 26)) := Ext.al Ext.rfl' _
      have HLX := Lib.hid (hLX.below hE)
      have HLM := Lib.hid (hLM.below hE)
      clear hLX hLM
      have HA2 := Lib.hid (HA.out.ext hE)
      have HB2 := Lib.hid (HB.out.ext hE)
      have HC2 := Lib.hid (HC.out.ext hE)
      have HE2 := Lib.hid (Ext.trans HE.out hE)
      clear HA HB HC HE hE
      have HA := HA2
      clear HA2
      have HB := HB2
      clear HB2
      have HC := HC2
      clear HC2
      have HE := HE2
      clear HE2
      have HD := Lib.hid hD
      clear hD
      obtain ⟨f, hf⟩ : ∃ f, u.check 6 = f := ⟨_, rfl⟩
      obtain ⟨e9, he9⟩ : ∃ e, bidC b xs = e := ⟨_, rfl⟩
      have HG : Hid (g = f ∧ (f = 0 → u = mu ∧ p = (F.size : Int))) := by
        have h1 := HNX.out
        unfold unitEnd at h1
        rw [if_neg (by simp), hf] at h1
        by_cases h0 : f = 0
        · rw [if_neg (by simpa using h0)] at h1
          injection h1 with h2 h3 h4
          exact ⟨by rw [h4, h0], fun _ => ⟨h2.symm, h3⟩⟩
        · rw [if_pos h0] at h1
          injection h1 with h2 h3 h4
          exact ⟨h4, fun h => absurd h h0⟩
      have HI9 : Hid (ie = e9 ∧ (e9 = 0 → b = lb ∧ xs = lx ∧ q = (Y.size : Int))) := by
        have h1 := HOX.out
        unfold bidEnd at h1
        rw [if_neg (by simp), he9] at h1
        by_cases h0 : e9 = 0
        · rw [if_neg (by simpa using h0)] at h1
          injection h1 with h2 h3 h4 h5
          exact ⟨by rw [h5, h0], fun _ => ⟨h2.symm, h3.symm, h4⟩⟩
        · rw [if_pos h0] at h1
          injection h1 with h2 h3 h4 h5
          exact ⟨h5, fun h => absurd h h0⟩
      have HUF := Lib.hid hf
      have HBF : Hid (e9 = if b < 0 ∨ 6 ≤ b then 1 else chk false xs) := he9.symm
      clear hf he9 HNX HOX
      obtain rfl := HG.out.1
      obtain rfl := HI9.out.1
      have k1 : (g != g) = false := by simp
      have k2 : (ie != ie) = false := by simp
      have k3 : ((F.size : Int) == (F.size : Int)) = true := by simp
      have k4 : ((Y.size : Int) == (Y.size : Int)) = true := by simp
      by_cases hb0 : b < 0 ∨ 6 ≤ b
      · obtain rfl : ie = 1 := by rw [HBF.out, if_pos hb0]
        by_cases hb1 : b < 0
        · have r0 : decide (0 ≤ b) = false := decide_eq_false (by omega)
          clear hb0 hb1
          obtain ⟨a0, a1, a2, a3, a4, a5, a6, a7, a8⟩ := HA.out.cells
          obtain ⟨b0, b1, -, -, -⟩ := HB.out
          obtain ⟨c0, c1, c2, c3, c4, c5, c6, c7, c8⟩ := HC.out.cells
          obtain ⟨d0, d1, -, -, -⟩ := HD.out
          go_wp2_with fail
          clear a0 a1 a2 a3 a4 a5 a6 a7 a8 b0 b1 c0 c1 c2 c3 c4 c5 c6 c7 c8 d0 d1
          have hf := ucheck_any u 6 A n c (w6.alloc (.cells #[.int .i64 lb, .slice LA ln lc] 26)) (H.out.below HE.out) (by have := HL1.out; unfold maxLen; omega)
          rw [HUF.out] at hf
          have HLM2 := HLM
          have HLX2 := HLX
          clear HLM HLX
          refine hf.mono ?_
          clear hf
          rintro e w7 ⟨rfl, hE⟩
          have HLM := Lib.hid (HLM2.out.below hE)
          have HLX := Lib.hid (HLX2.out.below hE)
          clear HLM2 HLX2
          have HA2 := Lib.hid (HA.out.ext hE)
          have HB2 := Lib.hid (HB.out.ext hE)
          have HC2 := Lib.hid (HC.out.ext hE)
          have HD2 := Lib.hid (HD.out.ext hE)
          have HE2 := Lib.hid (Ext.trans HE.out hE)
          clear HA HB HC HD HE hE
          have HA := HA2
          clear HA2
          have HB := HB2
          clear HB2
          have HC := HC2
          clear HC2
          have HD := HD2
          clear HD2
          have HE := HE2
          clear HE2
          by_cases hc : g = 0
          · subst hc
            obtain ⟨hmu, hp⟩ := HG.out.2 rfl
            subst hmu hp
            obtain rfl : mn = n := by rw [← HMN.out]; exact H.out.1
            obtain ⟨a0, a1, a2, a3, a4, a5, a6, a7, a8⟩ := HA.out.cells
            obtain ⟨b0, b1, -, -, -⟩ := HB.out
            obtain ⟨c0, c1, c2, c3, c4, c5, c6, c7, c8⟩ := HC.out.cells
            obtain ⟨d0, d1, -, -, -⟩ := HD.out
            go_wp2_with fail
            clear a0 a1 a2 a3 a4 a5 a6 a7 a8 b0 b1 c0 c1 c2 c3 c4 c5 c6 c7 c8 d0 d1
            have HLX2 := HLX
            clear HLX
            refine (bt_same u A _ c MA mc w7 (H.out.below HE.out) HLM.out (by have := HL1.out; omega)).mono ?_
            rintro e w8 ⟨rfl, hE⟩
            have HLX := Lib.hid (HLX2.out.below hE)
            clear HLX2
            have HA2 := Lib.hid (HA.out.ext hE)
            have HB2 := Lib.hid (HB.out.ext hE)
            have HC2 := Lib.hid (HC.out.ext hE)
            have HD2 := Lib.hid (HD.out.ext hE)
            have HE2 := Lib.hid (Ext.trans HE.out hE)
            clear HA HB HC HD HE hE
            have HA := HA2
            clear HA2
            have HB := HB2
            clear HB2
            have HC := HC2
            clear HC2
            have HD := HD2
            clear HD2
            have HE := HE2
            clear HE2
            obtain ⟨a0, a1, a2, a3, a4, a5, a6, a7, a8⟩ := HA.out.cells
            obtain ⟨b0, b1, -, -, -⟩ := HB.out
            obtain ⟨c0, c1, c2, c3, c4, c5, c6, c7, c8⟩ := HC.out.cells
            obtain ⟨d0, d1, -, -, -⟩ := HD.out
            go_wp2_with fail
            go_ret
            exact ⟨rfl, HE.out⟩
          · have n2 : (g != 0) = true := by simp [hc]
            clear hc
            obtain ⟨a0, a1, a2, a3, a4, a5, a6, a7, a8⟩ := HA.out.cells
            obtain ⟨b0, b1, -, -, -⟩ := HB.out
            obtain ⟨c0, c1, c2, c3, c4, c5, c6, c7, c8⟩ := HC.out.cells
            obtain ⟨d0, d1, -, -, -⟩ := HD.out
            go_wp2_with fail
            go_ret
            exact ⟨rfl, HE.out⟩
        · have r0 : decide (0 ≤ b) = true := decide_eq_true (by omega)
          have r1 : decide (b < 6) = false := decide_eq_false (by omega)
          clear hb0 hb1
          obtain ⟨a0, a1, a2, a3, a4, a5, a6, a7, a8⟩ := HA.out.cells
          obtain ⟨b0, b1, -, -, -⟩ := HB.out
          obtain ⟨c0, c1, c2, c3, c4, c5, c6, c7, c8⟩ := HC.out.cells
          obtain ⟨d0, d1, -, -, -⟩ := HD.out
          go_wp2_with fail
          clear a0 a1 a2 a3 a4 a5 a6 a7 a8 b0 b1 c0 c1 c2 c3 c4 c5 c6 c7 c8 d0 d1
          have hf := ucheck_any u 6 A n c (w6.alloc (.cells #[.int .i64 lb, .slice LA ln lc] 26)) (H.out.below HE.out) (by have := HL1.out; unfold maxLen; omega)
          rw [HUF.out] at hf
          have HLM2 := HLM
          have HLX2 := HLX
          clear HLM HLX
          refine hf.mono ?_
          clear hf
          rintro e w7 ⟨rfl, hE⟩
          have HLM := Lib.hid (HLM2.out.below hE)
          have HLX := Lib.hid (HLX2.out.below hE)
          clear HLM2 HLX2
          have HA2 := Lib.hid (HA.out.ext hE)
          have HB2 := Lib.hid (HB.out.ext hE)
          have HC2 := Lib.hid (HC.out.ext hE)
          have HD2 := Lib.hid (HD.out.ext hE)
          have HE2 := Lib.hid (Ext.trans HE.out hE)
          clear HA HB HC HD HE hE
          have HA := HA2
          clear HA2
          have HB := HB2
          clear HB2
          have HC := HC2
          clear HC2
          have HD := HD2
          clear HD2
          have HE := HE2
          clear HE2
          by_cases hc : g = 0
          · subst hc
            obtain ⟨hmu, hp⟩ := HG.out.2 rfl
            subst hmu hp
            obtain rfl : mn = n := by rw [← HMN.out]; exact H.out.1
            obtain ⟨a0, a1, a2, a3, a4, a5, a6, a7, a8⟩ := HA.out.cells
            obtain ⟨b0, b1, -, -, -⟩ := HB.out
            obtain ⟨c0, c1, c2, c3, c4, c5, c6, c7, c8⟩ := HC.out.cells
            obtain ⟨d0, d1, -, -, -⟩ := HD.out
            go_wp2_with fail
            clear a0 a1 a2 a3 a4 a5 a6 a7 a8 b0 b1 c0 c1 c2 c3 c4 c5 c6 c7 c8 d0 d1
            have HLX2 := HLX
            clear HLX
            refine (bt_same u A _ c MA mc w7 (H.out.below HE.out) HLM.out (by have := HL1.out; omega)).mono ?_
            rintro e w8 ⟨rfl, hE⟩
            have HLX := Lib.hid (HLX2.out.below hE)
            clear HLX2
            have HA2 := Lib.hid (HA.out.ext hE)
            have HB2 := Lib.hid (HB.out.ext hE)
            have HC2 := Lib.hid (HC.out.ext hE)
            have HD2 := Lib.hid (HD.out.ext hE)
            have HE2 := Lib.hid (Ext.trans HE.out hE)
            clear HA HB HC HD HE hE
            have HA := HA2
            clear HA2
            have HB := HB2
            clear HB2
            have HC := HC2
            clear HC2
            have HD := HD2
            clear HD2
            have HE := HE2
            clear HE2
            obtain ⟨a0, a1, a2, a3, a4, a5, a6, a7, a8⟩ := HA.out.cells
            obtain ⟨b0, b1, -, -, -⟩ := HB.out
            obtain ⟨c0, c1, c2, c3, c4, c5, c6, c7, c8⟩ := HC.out.cells
            obtain ⟨d0, d1, -, -, -⟩ := HD.out
            go_wp2_with fail
            go_ret
            exact ⟨rfl, HE.out⟩
          · have n2 : (g != 0) = true := by simp [hc]
            clear hc
            obtain ⟨a0, a1, a2, a3, a4, a5, a6, a7, a8⟩ := HA.out.cells
            obtain ⟨b0, b1, -, -, -⟩ := HB.out
            obtain ⟨c0, c1, c2, c3, c4, c5, c6, c7, c8⟩ := HC.out.cells
            obtain ⟨d0, d1, -, -, -⟩ := HD.out
            go_wp2_with fail
            go_ret
            exact ⟨rfl, HE.out⟩
      · have HCH : Hid (ie = chk false xs) := by unfold Hid; rw [HBF.out, if_neg hb0]
        have r0 : decide (0 ≤ b) = true := decide_eq_true (by omega)
        have r1 : decide (b < 6) = true := decide_eq_true (by omega)
        clear hb0
        obtain ⟨a0, a1, a2, a3, a4, a5, a6, a7, a8⟩ := HA.out.cells
        obtain ⟨b0, b1, -, -, -⟩ := HB.out
        obtain ⟨c0, c1, c2, c3, c4, c5, c6, c7, c8⟩ := HC.out.cells
        obtain ⟨d0, d1, -, -, -⟩ := HD.out
        go_wp2_with fail
        clear a0 a1 a2 a3 a4 a5 a6 a7 a8 b0 b1 c0 c1 c2 c3 c4 c5 c6 c7 c8 d0 d1
        have hf := checkBid_any B m d xs (w6.alloc (.cells #[.int .i64 lb, .slice LA ln lc] 26)) (H'.out.below HE.out) (by have := HL2.out; unfold maxLen; omega)
        rw [← HCH.out] at hf
        have HLM2 := HLM
        have HLX2 := HLX
        clear HLM HLX
        refine hf.mono ?_
        clear hf
        rintro e w7 ⟨rfl, hE⟩
        have HLM := Lib.hid (HLM2.out.below hE)
        have HLX := Lib.hid (HLX2.out.below hE)
        clear HLM2 HLX2
        have HA2 := Lib.hid (HA.out.ext hE)
        have HB2 := Lib.hid (HB.out.ext hE)
        have HC2 := Lib.hid (HC.out.ext hE)
        have HD2 := Lib.hid (HD.out.ext hE)
        have HE2 := Lib.hid (Ext.trans HE.out hE)
        clear HA HB HC HD HE hE
        have HA := HA2
        clear HA2
        have HB := HB2
        clear HB2
        have HC := HC2
        clear HC2
        have HD := HD2
        clear HD2
        have HE := HE2
        clear HE2
        obtain ⟨a0, a1, a2, a3, a4, a5, a6, a7, a8⟩ := HA.out.cells
        obtain ⟨b0, b1, -, -, -⟩ := HB.out
        obtain ⟨c0, c1, c2, c3, c4, c5, c6, c7, c8⟩ := HC.out.cells
        obtain ⟨d0, d1, -, -, -⟩ := HD.out
        go_wp2_with fail
        clear a0 a1 a2 a3 a4 a5 a6 a7 a8 b0 b1 c0 c1 c2 c3 c4 c5 c6 c7 c8 d0 d1
        have hf := ucheck_any u 6 A n c w7 (H.out.below HE.out) (by have := HL1.out; unfold maxLen; omega)
        rw [HUF.out] at hf
        have HLM2 := HLM
        have HLX2 := HLX
        clear HLM HLX
        refine hf.mono ?_
        clear hf
        rintro e w8 ⟨rfl, hE⟩
        have HLM := Lib.hid (HLM2.out.below hE)
        have HLX := Lib.hid (HLX2.out.below hE)
        clear HLM2 HLX2
        have HA2 := Lib.hid (HA.out.ext hE)
        have HB2 := Lib.hid (HB.out.ext hE)
        have HC2 := Lib.hid (HC.out.ext hE)
        have HD2 := Lib.hid (HD.out.ext hE)
        have HE2 := Lib.hid (Ext.trans HE.out hE)
        clear HA HB HC HD HE hE
        have HA := HA2
        clear HA2
        have HB := HB2
        clear HB2
        have HC := HC2
        clear HC2
        have HD := HD2
        clear HD2
        have HE := HE2
        clear HE2
        by_cases hc : g = 0
        · subst hc
          obtain ⟨hmu, hp⟩ := HG.out.2 rfl
          subst hmu hp
          obtain rfl : mn = n := by rw [← HMN.out]; exact H.out.1
          by_cases hf0 : ie = 0
          · subst hf0
            obtain ⟨hlb, hlx, hq⟩ := HI9.out.2 rfl
            subst hlb hlx hq
            obtain rfl : ln = m := by rw [← HLN.out]; exact H'.out.1
            obtain ⟨a0, a1, a2, a3, a4, a5, a6, a7, a8⟩ := HA.out.cells
            obtain ⟨b0, b1, -, -, -⟩ := HB.out
            obtain ⟨c0, c1, c2, c3, c4, c5, c6, c7, c8⟩ := HC.out.cells
            obtain ⟨d0, d1, -, -, -⟩ := HD.out
            go_wp2_with fail
            clear a0 a1 a2 a3 a4 a5 a6 a7 a8 b0 b1 c0 c1 c2 c3 c4 c5 c6 c7 c8 d0 d1
            have HLX2 := HLX
            clear HLX
            refine (bt_same u A _ c MA mc w8 (H.out.below HE.out) HLM.out (by have := HL1.out; omega)).mono ?_
            rintro e w9 ⟨rfl, hE⟩
            have HLX := Lib.hid (HLX2.out.below hE)
            clear HLX2
            have HA2 := Lib.hid (HA.out.ext hE)
            have HB2 := Lib.hid (HB.out.ext hE)
            have HC2 := Lib.hid (HC.out.ext hE)
            have HD2 := Lib.hid (HD.out.ext hE)
            have HE2 := Lib.hid (Ext.trans HE.out hE)
            clear HA HB HC HD HE hE
            have HA := HA2
            clear HA2
            have HB := HB2
            clear HB2
            have HC := HC2
            clear HC2
            have HD := HD2
            clear HD2
            have HE := HE2
            clear HE2
            obtain ⟨a0, a1, a2, a3, a4, a5, a6, a7, a8⟩ := HA.out.cells
            obtain ⟨b0, b1, -, -, -⟩ := HB.out
            obtain ⟨c0, c1, c2, c3, c4, c5, c6, c7, c8⟩ := HC.out.cells
            obtain ⟨d0, d1, -, -, -⟩ := HD.out
            go_wp2_with fail
            clear a0 a1 a2 a3 a4 a5 a6 a7 a8 b0 b1 c0 c1 c2 c3 c4 c5 c6 c7 c8 d0 d1
            refine (bt_sameb b xs B _ d LA lc w9 (H'.out.below HE.out) HLX.out (by have := HL2.out; omega)).mono ?_
            rintro e w10 ⟨rfl, hE⟩
            have HA2 := Lib.hid (HA.out.ext hE)
            have HB2 := Lib.hid (HB.out.ext hE)
            have HC2 := Lib.hid (HC.out.ext hE)
            have HD2 := Lib.hid (HD.out.ext hE)
            have HE2 := Lib.hid (Ext.trans HE.out hE)
            clear HA HB HC HD HE hE
            have HA := HA2
            clear HA2
            have HB := HB2
            clear HB2
            have HC := HC2
            clear HC2
            have HD := HD2
            clear HD2
            have HE := HE2
            clear HE2
            obtain ⟨a0, a1, a2, a3, a4, a5, a6, a7, a8⟩ := HA.out.cells
            obtain ⟨b0, b1, -, -, -⟩ := HB.out
            obtain ⟨c0, c1, c2, c3, c4, c5, c6, c7, c8⟩ := HC.out.cells
            obtain ⟨d0, d1, -, -, -⟩ := HD.out
            go_wp2_with fail
            go_ret
            exact ⟨rfl, HE.out⟩
          · have f2 : (ie != 0) = true := by simp [hf0]
            clear hf0
            obtain ⟨a0, a1, a2, a3, a4, a5, a6, a7, a8⟩ := HA.out.cells
            obtain ⟨b0, b1, -, -, -⟩ := HB.out
            obtain ⟨c0, c1, c2, c3, c4, c5, c6, c7, c8⟩ := HC.out.cells
            obtain ⟨d0, d1, -, -, -⟩ := HD.out
            go_wp2_with fail
            clear a0 a1 a2 a3 a4 a5 a6 a7 a8 b0 b1 c0 c1 c2 c3 c4 c5 c6 c7 c8 d0 d1
            have HLX2 := HLX
            clear HLX
            refine (bt_same u A _ c MA mc w8 (H.out.below HE.out) HLM.out (by have := HL1.out; omega)).mono ?_
            rintro e w9 ⟨rfl, hE⟩
            have HLX := Lib.hid (HLX2.out.below hE)
            clear HLX2
            have HA2 := Lib.hid (HA.out.ext hE)
            have HB2 := Lib.hid (HB.out.ext hE)
            have HC2 := Lib.hid (HC.out.ext hE)
            have HD2 := Lib.hid (HD.out.ext hE)
            have HE2 := Lib.hid (Ext.trans HE.out hE)
            clear HA HB HC HD HE hE
            have HA := HA2
            clear HA2
            have HB := HB2
            clear HB2
            have HC := HC2
            clear HC2
            have HD := HD2
            clear HD2
            have HE := HE2
            clear HE2
            obtain ⟨a0, a1, a2, a3, a4, a5, a6, a7, a8⟩ := HA.out.cells
            obtain ⟨b0, b1, -, -, -⟩ := HB.out
            obtain ⟨c0, c1, c2, c3, c4, c5, c6, c7, c8⟩ := HC.out.cells
            obtain ⟨d0, d1, -, -, -⟩ := HD.out
            go_wp2_with fail
            go_ret
            exact ⟨rfl, HE.out⟩
        · have n2 : (g != 0) = true := by simp [hc]
          clear hc
          by_cases hf0 : ie = 0
          · subst hf0
            obtain ⟨hlb, hlx, hq⟩ := HI9.out.2 rfl
            subst hlb hlx hq
            obtain rfl : ln = m := by rw [← HLN.out]; exact H'.out.1
            obtain ⟨a0, a1, a2, a3, a4, a5, a6, a7, a8⟩ := HA.out.cells
            obtain ⟨b0, b1, -, -, -⟩ := HB.out
            obtain ⟨c0, c1, c2, c3, c4, c5, c6, c7, c8⟩ := HC.out.cells
            obtain ⟨d0, d1, -, -, -⟩ := HD.out
            go_wp2_with fail
            clear a0 a1 a2 a3 a4 a5 a6 a7 a8 b0 b1 c0 c1 c2 c3 c4 c5 c6 c7 c8 d0 d1
            refine (bt_sameb b xs B _ d LA lc w8 (H'.out.below HE.out) HLX.out (by have := HL2.out; omega)).mono ?_
            rintro e w9 ⟨rfl, hE⟩
            have HA2 := Lib.hid (HA.out.ext hE)
            have HB2 := Lib.hid (HB.out.ext hE)
            have HC2 := Lib.hid (HC.out.ext hE)
            have HD2 := Lib.hid (HD.out.ext hE)
            have HE2 := Lib.hid (Ext.trans HE.out hE)
            clear HA HB HC HD HE hE
            have HA := HA2
            clear HA2
            have HB := HB2
            clear HB2
            have HC := HC2
            clear HC2
            have HD := HD2
            clear HD2
            have HE := HE2
            clear HE2
            obtain ⟨a0, a1, a2, a3, a4, a5, a6, a7, a8⟩ := HA.out.cells
            obtain ⟨b0, b1, -, -, -⟩ := HB.out
            obtain ⟨c0, c1, c2, c3, c4, c5, c6, c7, c8⟩ := HC.out.cells
            obtain ⟨d0, d1, -, -, -⟩ := HD.out
            go_wp2_with fail
            go_ret
            exact ⟨rfl, HE.out⟩
          · have f2 : (ie != 0) = true := by simp [hf0]
            clear hf0
            obtain ⟨a0, a1, a2, a3, a4, a5, a6, a7, a8⟩ := HA.out.cells
            obtain ⟨b0, b1, -, -, -⟩ := HB.out
            obtain ⟨c0, c1, c2, c3, c4, c5, c6, c7, c8⟩ := HC.out.cells
            obtain ⟨d0, d1, -, -, -⟩ := HD.out
            go_wp2_with fail
            go_ret
            exact ⟨rfl, HE.out⟩
end Go.Proofs.YtkdbpcenehhopaaGreat
