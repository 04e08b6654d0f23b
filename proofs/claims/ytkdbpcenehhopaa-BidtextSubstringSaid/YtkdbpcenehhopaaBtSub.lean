/- The law BidtextSubstring returns true. Printed by gen_btx.py. -/
import Derived.Test.YtkdbpcenehhopaaBtFo
namespace Go.Proofs.Ytkdbpcenehhopaa
open Go.RowKit
theorem U16.ofP {n : Int} (h : (Lit.int .u16 n).wf = true) : 0 ≤ n ∧ n ≤ 65535 := by
  have h' := h
  simp [Lit.wf, IntKind.min, IntKind.max, IntKind.signed, IntKind.bits] at h'
  exact ⟨by omega, by omega⟩
theorem add_run (a b : ByteArray) (h : a.size + b.size ≤ 9223372036854775807) (W : World) : (Op.stringOp .add a b).run Try.prog W = .ok (.string (a ++ b)) W := run_string_add_sum _ _ _ h
/-- What the law asks of a formatted text. -/
structure SubT (R : Bs → Int → Int) (F X2 : ByteArray) : Prop where
  pos : 0 < F.size
  small : F.size ≤ 5000
  long : X2.size ≤ 65536
  cut : ∀ c : Nat, c < F.size → R (F.extract 0 c).data.toList 0 ≠ 0
theorem cut_list (F : ByteArray) (c : Nat) : (F.extract 0 c).data.toList = F.data.toList.take c := by rw [ext_list]; simp
theorem app_list (a b : ByteArray) : (a ++ b).data.toList = a.data.toList ++ b.data.toList := by rw [ByteArray.data_append, Array.toList_append]
theorem unit_packs (a d : ByteArray) (hl : a.size + d.size ≤ 5000) (u : U) : ∃ (F : ByteArray) (f : Int), bs (unitT u).1 = F ∧ (unitT u).2 = f ∧ (f = 0 → SubT (fun l k => (unitR l k).e) F (a ++ F ++ d) ∧ unitR (a ++ F ++ d).data.toList (a.size : Int) = ⟨u, (a.size : Int) + (F.size : Int), 0⟩) := by
  rcases unit_cases u with ⟨hc, e⟩ | ⟨hc, e⟩
  · rw [e]
    have hl2 := unit_len hc
    have hal : a.data.toList.length = a.size := rfl
    have hdl : d.data.toList.length = d.size := rfl
    have hne : 0 < (fmtT (unitToks u)).length := List.length_pos_iff.2 (fmt_ne _)
    have hb := unit_read hc a.data.toList d.data.toList (by simp only [List.length_append]; omega)
    refine ⟨_, _, rfl, rfl, fun _ => ⟨⟨?_, ?_, ?_, ?_⟩, ?_⟩⟩
    · rw [bs_size]; exact hne
    · rw [bs_size]; simp only; omega
    · rw [ByteArray.size_append, ByteArray.size_append, bs_size]; simp only; omega
    · intro c hc2
      rw [cut_list, bs_list]
      rw [bs_size] at hc2
      exact unit_cut hc hc2
    · rw [app_list, app_list, bs_list, bs_size, List.append_assoc]
      simp only
      rw [← hal, hb]
      simp
  · rw [e]
    exact ⟨_, _, rfl, rfl, fun h => absurd h hc⟩
theorem bid_packs (a d : ByteArray) (hl : a.size + d.size ≤ 5000) (b : Int) (xs : List (Int × Int)) : ∃ (F : ByteArray) (f : Int), bs (bidT b xs).1 = F ∧ (bidT b xs).2 = f ∧ (f = 0 → SubT (fun l k => (bidR l k).e) F (a ++ F ++ d) ∧ bidR (a ++ F ++ d).data.toList (a.size : Int) = ⟨b, xs, (a.size : Int) + (F.size : Int), 0⟩) := by
  rcases bid_cases b xs with ⟨hc, e⟩ | ⟨hc, e⟩
  · rw [e]
    have hl2 := bid_len hc
    have hal : a.data.toList.length = a.size := rfl
    have hdl : d.data.toList.length = d.size := rfl
    have hne : 0 < (fmtT (bidToks b xs)).length := List.length_pos_iff.2 (fmt_ne _)
    have hb := bid_read hc a.data.toList d.data.toList (by simp only [List.length_append]; omega)
    refine ⟨_, _, rfl, rfl, fun _ => ⟨⟨?_, ?_, ?_, ?_⟩, ?_⟩⟩
    · rw [bs_size]; exact hne
    · rw [bs_size]; simp only; omega
    · rw [ByteArray.size_append, ByteArray.size_append, bs_size]; simp only; omega
    · intro c hc2
      rw [cut_list, bs_list]
      rw [bs_size] at hc2
      exact bid_cut hc hc2
    · rw [app_list, app_list, bs_list, bs_size, List.append_assoc]
      simp only
      rw [← hal, hb]
      simp
  · rw [e]
    exact ⟨_, _, rfl, rfl, fun h => absurd h hc⟩
set_option maxRecDepth 100000 in
set_option maxHeartbeats 64000000 in
theorem bsub_any (u : U) (A : Option Addr) (n c : Nat) (b : Int) (xs : List (Int × Int)) (B : Option Addr) (m d : Nat) (a dd : ByteArray) (z : Int) (w : World) (h : StepsAt w A n u.steps) (h' : StepsAt w B m xs) (hz : 0 ≤ z ∧ z ≤ 65535) (ha : a.size ≤ 2 ^ 48) (hd : dd.size ≤ 2 ^ 48) :
    Calls Try.prog 5 #[u.val A n c, .agg #[.int .i64 b, .slice B m d], .string a, .string dd, .int .u16 z] w fun e w' => e = .returned (.bool true) ∧ Ext w w' := by
  have H := Lib.hid h
  have H' := Lib.hid h'
  clear h h'
  have HZ := Lib.hid hz
  have HAD : Hid (a.size ≤ 2 ^ 48 ∧ dd.size ≤ 2 ^ 48) := ⟨ha, hd⟩
  clear hz ha hd
  obtain ⟨X, hX⟩ : ∃ X, a ++ dd = X := ⟨_, rfl⟩
  have hadd : ∀ W, (Op.stringOp .add a dd).run Try.prog W = .ok (.string X) W := fun W => by
    rw [← hX]
    exact add_run a dd (by have := HAD.out; omega) W
  have HX : Hid (X.size = a.size + dd.size) := by unfold Hid; rw [← hX, ByteArray.size_append]
  clear hX
  go_enter Try.func5, Try.ntmps5
  have hAB : Ext (w.alloc (.cells #[.int .i64 u.bus, .int .i64 u.mn, .slice A n c, .int .i64 u.up, .int .i64 u.down, .int .i64 u.start, .int .i64 u.idle, .int .i64 u.spin, .int .i64 u.on] 30)) ((w.alloc (.cells #[.int .i64 u.bus, .int .i64 u.mn, .slice A n c, .int .i64 u.up, .int .i64 u.down, .int .i64 u.start, .int .i64 u.idle, .int .i64 u.spin, .int .i64 u.on] 30)).alloc (.cells #[.int .i64 b, .slice B m d] 33)) := Ext.al Ext.rfl' _
  have hA := (UBk.new w u A n c).ext hAB
  have hB := Cell2.new (w.alloc (.cells #[.int .i64 u.bus, .int .i64 u.mn, .slice A n c, .int .i64 u.up, .int .i64 u.down, .int .i64 u.start, .int .i64 u.idle, .int .i64 u.spin, .int .i64 u.on] 30)) _ rfl (.int .i64 b) (.slice B m d) 33
  have hE0 : Ext w ((w.alloc (.cells #[.int .i64 u.bus, .int .i64 u.mn, .slice A n c, .int .i64 u.up, .int .i64 u.down, .int .i64 u.start, .int .i64 u.idle, .int .i64 u.spin, .int .i64 u.on] 30)).alloc (.cells #[.int .i64 b, .slice B m d] 33)) := Ext.trans (Ext.al Ext.rfl' _) hAB
  have he : (w.alloc (.cells #[.int .i64 u.bus, .int .i64 u.mn, .slice A n c, .int .i64 u.up, .int .i64 u.down, .int .i64 u.start, .int .i64 u.idle, .int .i64 u.spin, .int .i64 u.on] 30)).heap.size = w.heap.size + 1 := by simp
  rw [he] at hB
  have HA := Lib.hid hA
  have HB := Lib.hid hB
  have HE := Lib.hid hE0
  clear hA hAB hB hE0 he
  obtain ⟨a0, a1, a2, a3, a4, a5, a6, a7, a8⟩ := HA.out.cells
  obtain ⟨b0, b1, -, -, -⟩ := HB.out
  go_wp2_with fail
  clear a0 a1 a2 a3 a4 a5 a6 a7 a8 b0 b1
  generalize ((w.alloc (.cells #[.int .i64 u.bus, .int .i64 u.mn, .slice A n c, .int .i64 u.up, .int .i64 u.down, .int .i64 u.start, .int .i64 u.idle, .int .i64 u.spin, .int .i64 u.on] 30)).alloc (.cells #[.int .i64 b, .slice B m d] 33)) = w0 at *
  obtain ⟨ga, hga⟩ : ∃ x, w.heap.size = x := ⟨_, rfl⟩
  rw [hga] at HA HB ⊢
  clear hga
  obtain ⟨gb, hgb⟩ : ∃ x, ga + 1 = x := ⟨_, rfl⟩
  rw [hgb] at HB ⊢
  clear hgb
  refine (blong_any X A n c w0).mono ?_
  rintro e w1 ⟨rfl, hE⟩
  have HA2 := Lib.hid (HA.out.ext hE)
  have HB2 := Lib.hid (HB.out.ext hE)
  have HE2 := Lib.hid (Ext.trans HE.out hE)
  clear HA HB HE hE
  have HA := HA2
  clear HA2
  have HB := HB2
  clear HB2
  have HE := HE2
  clear HE2
  obtain ⟨lg, hlg⟩ : ∃ v, (decide (5000 < (X : ByteArray).size) || decide (50 < n)) = v := ⟨_, rfl⟩
  rw [hlg]
  have HL1 := Lib.hid hlg
  clear hlg
  cases lg with
  | true =>
    obtain ⟨a0, a1, a2, a3, a4, a5, a6, a7, a8⟩ := HA.out.cells
    obtain ⟨b0, b1, -, -, -⟩ := HB.out
    go_wp2_with fail
    clear a0 a1 a2 a3 a4 a5 a6 a7 a8 b0 b1
    refine (bt_awake w1).mono ?_
    rintro e w2 ⟨rfl, hE⟩
    have HA2 := Lib.hid (HA.out.ext hE)
    have HB2 := Lib.hid (HB.out.ext hE)
    have HE2 := Lib.hid (Ext.trans HE.out hE)
    clear HA HB HE hE
    have HA := HA2
    clear HA2
    have HB := HB2
    clear HB2
    have HE := HE2
    clear HE2
    obtain ⟨a0, a1, a2, a3, a4, a5, a6, a7, a8⟩ := HA.out.cells
    obtain ⟨b0, b1, -, -, -⟩ := HB.out
    go_wp2_with fail
    go_ret
    exact ⟨rfl, HE.out⟩
  | false =>
    have HL1' : Hid ((X : ByteArray).size ≤ 5000 ∧ n ≤ 50) := by
      have h1 := HL1.out
      simp only [Bool.or_eq_false_iff, decide_eq_false_iff_not] at h1
      unfold Hid
      omega
    clear HL1
    have HL1 := HL1'
    clear HL1'
    obtain ⟨a0, a1, a2, a3, a4, a5, a6, a7, a8⟩ := HA.out.cells
    obtain ⟨b0, b1, -, -, -⟩ := HB.out
    go_wp2_with fail
    clear a0 a1 a2 a3 a4 a5 a6 a7 a8 b0 b1
    refine (blong_any ⟨#[]⟩ B m d w1).mono ?_
    rintro e w2 ⟨rfl, hE⟩
    have HA2 := Lib.hid (HA.out.ext hE)
    have HB2 := Lib.hid (HB.out.ext hE)
    have HE2 := Lib.hid (Ext.trans HE.out hE)
    clear HA HB HE hE
    have HA := HA2
    clear HA2
    have HB := HB2
    clear HB2
    have HE := HE2
    clear HE2
    obtain ⟨lg, hlg⟩ : ∃ v, (decide (5000 < (⟨#[]⟩ : ByteArray).size) || decide (50 < m)) = v := ⟨_, rfl⟩
    rw [hlg]
    have HL2 := Lib.hid hlg
    clear hlg
    cases lg with
    | true =>
      obtain ⟨a0, a1, a2, a3, a4, a5, a6, a7, a8⟩ := HA.out.cells
      obtain ⟨b0, b1, -, -, -⟩ := HB.out
      go_wp2_with fail
      clear a0 a1 a2 a3 a4 a5 a6 a7 a8 b0 b1
      refine (bt_awake w2).mono ?_
      rintro e w3 ⟨rfl, hE⟩
      have HA2 := Lib.hid (HA.out.ext hE)
      have HB2 := Lib.hid (HB.out.ext hE)
      have HE2 := Lib.hid (Ext.trans HE.out hE)
      clear HA HB HE hE
      have HA := HA2
      clear HA2
      have HB := HB2
      clear HB2
      have HE := HE2
      clear HE2
      obtain ⟨a0, a1, a2, a3, a4, a5, a6, a7, a8⟩ := HA.out.cells
      obtain ⟨b0, b1, -, -, -⟩ := HB.out
      go_wp2_with fail
      go_ret
      exact ⟨rfl, HE.out⟩
    | false =>
      have HL2' : Hid ((⟨#[]⟩ : ByteArray).size ≤ 5000 ∧ m ≤ 50) := by
        have h1 := HL2.out
        simp only [Bool.or_eq_false_iff, decide_eq_false_iff_not] at h1
        unfold Hid
        omega
      clear HL2
      have HL2 := HL2'
      clear HL2'
      obtain ⟨a0, a1, a2, a3, a4, a5, a6, a7, a8⟩ := HA.out.cells
      obtain ⟨b0, b1, -, -, -⟩ := HB.out
      go_wp2_with fail
      clear a0 a1 a2 a3 a4 a5 a6 a7 a8 b0 b1
      refine (bt_awake w2).mono ?_
      rintro e w3 ⟨rfl, hE⟩
      have HA2 := Lib.hid (HA.out.ext hE)
      have HB2 := Lib.hid (HB.out.ext hE)
      have HE2 := Lib.hid (Ext.trans HE.out hE)
      clear HA HB HE hE
      have HA := HA2
      clear HA2
      have HB := HB2
      clear HB2
      have HE := HE2
      clear HE2
      obtain ⟨a0, a1, a2, a3, a4, a5, a6, a7, a8⟩ := HA.out.cells
      obtain ⟨b0, b1, -, -, -⟩ := HB.out
      go_wp2_with fail
      clear a0 a1 a2 a3 a4 a5 a6 a7 a8 b0 b1
      clear hadd
      have HN : Hid (a.size + dd.size ≤ 5000) := by have h1 := HL1.out; have h2 := HX.out; unfold Hid; omega
      obtain ⟨F, f, hF1, hF2, hF4⟩ := unit_packs a dd HN.out u
      have hf := bfmtunit_any u A n c w3 (H.out.below HE.out) (by have := HL1.out; omega)
      rw [hF1, hF2] at hf
      have HF4 := Lib.hid hF4
      clear hF1 hF2 hF4
      refine (hf).mono ?_
      rintro e w4 ⟨rfl, hE⟩
      have HA2 := Lib.hid (HA.out.ext hE)
      have HB2 := Lib.hid (HB.out.ext hE)
      have HE2 := Lib.hid (Ext.trans HE.out hE)
      clear HA HB HE hE
      have HA := HA2
      clear HA2
      have HB := HB2
      clear HB2
      have HE := HE2
      clear HE2
      clear hf
      obtain ⟨a0, a1, a2, a3, a4, a5, a6, a7, a8⟩ := HA.out.cells
      obtain ⟨b0, b1, -, -, -⟩ := HB.out
      go_wp2_with fail
      clear a0 a1 a2 a3 a4 a5 a6 a7 a8 b0 b1
      obtain ⟨Y, e, hY1, hY2, hY4⟩ := bid_packs a dd HN.out b xs
      have hf := bfmtbid_any b xs B m d w4 (H'.out.below HE.out) (by have := HL2.out; omega)
      rw [hY1, hY2] at hf
      have HY4 := Lib.hid hY4
      clear hY1 hY2 hY4
      refine (hf).mono ?_
      rintro e w5 ⟨rfl, hE⟩
      have HA2 := Lib.hid (HA.out.ext hE)
      have HB2 := Lib.hid (HB.out.ext hE)
      have HE2 := Lib.hid (Ext.trans HE.out hE)
      clear HA HB HE hE
      have HA := HA2
      clear HA2
      have HB := HB2
      clear HB2
      have HE := HE2
      clear HE2
      clear hf
      by_cases hc : f = 0
      · subst hc
        obtain ⟨X1, hX1⟩ : ∃ X1, a ++ F = X1 := ⟨_, rfl⟩
        obtain ⟨X2, hX2⟩ : ∃ X2, X1 ++ dd = X2 := ⟨_, rfl⟩
        have hsub := (HF4.out (by first | rfl | trivial))
        rw [hX1, hX2] at hsub
        have HSUB := Lib.hid hsub
        have hadd1 : ∀ W, (Op.stringOp .add a F).run Try.prog W = .ok (.string X1) W := fun W => by
          rw [← hX1]
          exact add_run a F (by have := HAD.out; have := HSUB.out.1.small; omega) W
        have hadd2 : ∀ W, (Op.stringOp .add X1 dd).run Try.prog W = .ok (.string X2) W := fun W => by
          rw [← hX2]
          exact add_run X1 dd (by have := HAD.out; have := HSUB.out.1.small; rw [← hX1, ByteArray.size_append]; omega) W
        clear hX1 hX2 hsub
        have px : ((F.size : Int) == 0) = false := beq_eq_false_iff_ne.2 (by have := HSUB.out.1.pos; omega)
        have pw : ¬ ((F.size : Int) = 0) := by have := HSUB.out.1.pos; omega
        have hz0 := HZ.out.1
        have hz1 := HZ.out.2
        obtain ⟨mc, hm⟩ : ∃ mc : Nat, z.tmod (F.size : Int) = (mc : Int) := ⟨(z.tmod (F.size : Int)).toNat, by
          rw [Int.tmod_eq_emod_of_nonneg HZ.out.1]
          have := Int.emod_nonneg z (b := (F.size : Int)) (by have := HSUB.out.1.pos; omega)
          omega⟩
        have hmF : mc < F.size := by
          have h1 := Int.emod_lt_of_pos z (b := (F.size : Int)) (by have := HSUB.out.1.pos; omega)
          rw [Int.tmod_eq_emod_of_nonneg HZ.out.1] at hm
          omega
        have HMF := Lib.hid hmF
        have hA5 : a.size ≤ 5000 := by have := HN.out; omega
        have hF5 : F.size ≤ 5000 := HSUB.out.1.small
        have hm0 : (0 : Int) ≤ (mc : Int) := by omega
        have hm1 : (mc : Int) ≤ (F.size : Int) := by omega
        obtain ⟨a0, a1, a2, a3, a4, a5, a6, a7, a8⟩ := HA.out.cells
        obtain ⟨b0, b1, -, -, -⟩ := HB.out
        go_wp2_with fail
        clear a0 a1 a2 a3 a4 a5 a6 a7 a8 b0 b1
        refine (bt_unit X2 (a.size : Int) u A n c ((a.size : Int) + (F.size : Int)) 0 w5 HSUB.out.2 (H.out.below HE.out) (by have := HSUB.out.1.long; unfold maxLen; omega) (by have := HL1.out; omega)).mono ?_
        rintro e w6 ⟨rfl, hE⟩
        have HA2 := Lib.hid (HA.out.ext hE)
        have HB2 := Lib.hid (HB.out.ext hE)
        have HE2 := Lib.hid (Ext.trans HE.out hE)
        clear HA HB HE hE
        have HA := HA2
        clear HA2
        have HB := HB2
        clear HB2
        have HE := HE2
        clear HE2
        obtain ⟨a0, a1, a2, a3, a4, a5, a6, a7, a8⟩ := HA.out.cells
        obtain ⟨b0, b1, -, -, -⟩ := HB.out
        go_wp2_with fail
        clear a0 a1 a2 a3 a4 a5 a6 a7 a8 b0 b1
        have HCUT := Lib.hid (HSUB.out.1.cut mc HMF.out)
        obtain ⟨NX, hNX⟩ : ∃ x, unitR (F.extract 0 mc).data.toList 0 = x := ⟨_, rfl⟩
        have hf := parseunit_any (F.extract 0 mc) 0 w6 (by have := HSUB.out.1.small; rw [ByteArray.size_extract]; unfold maxLen; omega)
        rw [hNX] at hf
        have HCU : Hid (NX.e ≠ 0) := by rw [← hNX]; exact HCUT.out
        clear hNX HCUT hm0 hm1 hmF hm HMF px pw hadd1 hadd2 HSUB
        obtain ⟨mu, p, g⟩ := NX
        refine hf.mono ?_
        clear hf
        rintro e w7 ⟨MA, mcc, rfl, -, hE⟩
        simp only at HCU ⊢
        obtain ⟨mn, hmn⟩ : ∃ x, mu.steps.length = x := ⟨_, rfl⟩
        rw [hmn]
        clear hmn
        have HA2 := Lib.hid (HA.out.ext hE)
        have HB2 := Lib.hid (HB.out.ext hE)
        have HE2 := Lib.hid (Ext.trans HE.out hE)
        clear HA HB HE hE
        have HA := HA2
        clear HA2
        have HB := HB2
        clear HB2
        have HE := HE2
        clear HE2
        have g1 : (g == 0) = false := by have := HCU.out; simpa using this
        have hE : Ext w7 (w7.alloc (.cells #[.int .i64 mu.bus, .int .i64 mu.mn, .slice MA mn mcc, .int .i64 mu.up, .int .i64 mu.down, .int .i64 mu.start, .int .i64 mu.idle, .int .i64 mu.spin, .int .i64 mu.on] 30)) := Ext.al Ext.rfl' _
        have HA2 := Lib.hid (HA.out.ext hE)
        have HB2 := Lib.hid (HB.out.ext hE)
        have HE2 := Lib.hid (Ext.trans HE.out hE)
        clear HA HB HE hE
        have HA := HA2
        clear HA2
        have HB := HB2
        clear HB2
        have HE := HE2
        clear HE2
        by_cases hf0 : e = 0
        · subst hf0
          obtain ⟨X1, hX1⟩ : ∃ X1, a ++ Y = X1 := ⟨_, rfl⟩
          obtain ⟨X2, hX2⟩ : ∃ X2, X1 ++ dd = X2 := ⟨_, rfl⟩
          have hsub := (HY4.out (by first | rfl | trivial))
          rw [hX1, hX2] at hsub
          have HSUB := Lib.hid hsub
          have hadd1 : ∀ W, (Op.stringOp .add a Y).run Try.prog W = .ok (.string X1) W := fun W => by
            rw [← hX1]
            exact add_run a Y (by have := HAD.out; have := HSUB.out.1.small; omega) W
          have hadd2 : ∀ W, (Op.stringOp .add X1 dd).run Try.prog W = .ok (.string X2) W := fun W => by
            rw [← hX2]
            exact add_run X1 dd (by have := HAD.out; have := HSUB.out.1.small; rw [← hX1, ByteArray.size_append]; omega) W
          clear hX1 hX2 hsub
          have px : ((Y.size : Int) == 0) = false := beq_eq_false_iff_ne.2 (by have := HSUB.out.1.pos; omega)
          have pw : ¬ ((Y.size : Int) = 0) := by have := HSUB.out.1.pos; omega
          have hz0 := HZ.out.1
          have hz1 := HZ.out.2
          obtain ⟨mc, hm⟩ : ∃ mc : Nat, z.tmod (Y.size : Int) = (mc : Int) := ⟨(z.tmod (Y.size : Int)).toNat, by
            rw [Int.tmod_eq_emod_of_nonneg HZ.out.1]
            have := Int.emod_nonneg z (b := (Y.size : Int)) (by have := HSUB.out.1.pos; omega)
            omega⟩
          have hmF : mc < Y.size := by
            have h1 := Int.emod_lt_of_pos z (b := (Y.size : Int)) (by have := HSUB.out.1.pos; omega)
            rw [Int.tmod_eq_emod_of_nonneg HZ.out.1] at hm
            omega
          have HMF := Lib.hid hmF
          have hA5 : a.size ≤ 5000 := by have := HN.out; omega
          have hF5 : Y.size ≤ 5000 := HSUB.out.1.small
          have hm0 : (0 : Int) ≤ (mc : Int) := by omega
          have hm1 : (mc : Int) ≤ (Y.size : Int) := by omega
          obtain ⟨a0, a1, a2, a3, a4, a5, a6, a7, a8⟩ := HA.out.cells
          obtain ⟨b0, b1, -, -, -⟩ := HB.out
          go_wp2_with fail
          clear a0 a1 a2 a3 a4 a5 a6 a7 a8 b0 b1
          clear px pw
          have HCUT := Lib.hid (HSUB.out.1.cut mc HMF.out)
          obtain ⟨OX, hOX⟩ : ∃ x, bidR (Y.extract 0 mc).data.toList 0 = x := ⟨_, rfl⟩
          have hf := parsebid_any (Y.extract 0 mc) 0 (w7.alloc (.cells #[.int .i64 mu.bus, .int .i64 mu.mn, .slice MA mn mcc, .int .i64 mu.up, .int .i64 mu.down, .int .i64 mu.start, .int .i64 mu.idle, .int .i64 mu.spin, .int .i64 mu.on] 30)) (by have := HSUB.out.1.small; rw [ByteArray.size_extract]; unfold maxLen; omega)
          rw [hOX] at hf
          have HCU : Hid (OX.e ≠ 0) := by rw [← hOX]; exact HCUT.out
          clear hOX HCUT hm0 hm1 hmF hm
          obtain ⟨lb, lx, q, ie⟩ := OX
          refine hf.mono ?_
          clear hf
          rintro e w8 ⟨LA, lc, rfl, -, hE⟩
          simp only at HCU ⊢
          obtain ⟨ln, hln⟩ : ∃ x, lx.length = x := ⟨_, rfl⟩
          rw [hln]
          clear hln
          have HA2 := Lib.hid (HA.out.ext hE)
          have HB2 := Lib.hid (HB.out.ext hE)
          have HE2 := Lib.hid (Ext.trans HE.out hE)
          clear HA HB HE hE
          have HA := HA2
          clear HA2
          have HB := HB2
          clear HB2
          have HE := HE2
          clear HE2
          have i1 : (ie != 0) = true := by have := HCU.out; simpa using this
          have hE : Ext w8 (w8.alloc (.cells #[.int .i64 lb, .slice LA ln lc] 33)) := Ext.al Ext.rfl' _
          have HA2 := Lib.hid (HA.out.ext hE)
          have HB2 := Lib.hid (HB.out.ext hE)
          have HE2 := Lib.hid (Ext.trans HE.out hE)
          clear HA HB HE hE
          have HA := HA2
          clear HA2
          have HB := HB2
          clear HB2
          have HE := HE2
          clear HE2
          obtain ⟨a0, a1, a2, a3, a4, a5, a6, a7, a8⟩ := HA.out.cells
          obtain ⟨b0, b1, -, -, -⟩ := HB.out
          go_wp2_with fail
          clear a0 a1 a2 a3 a4 a5 a6 a7 a8 b0 b1
          refine (bt_bid X2 (a.size : Int) b xs B m d ((a.size : Int) + (Y.size : Int)) 0 _ HSUB.out.2 (H'.out.below HE.out) (by have := HSUB.out.1.long; unfold maxLen; omega) (by have := HL2.out; omega)).mono ?_
          rintro e w9 ⟨rfl, hE⟩
          have HA2 := Lib.hid (HA.out.ext hE)
          have HB2 := Lib.hid (HB.out.ext hE)
          have HE2 := Lib.hid (Ext.trans HE.out hE)
          clear HA HB HE hE
          have HA := HA2
          clear HA2
          have HB := HB2
          clear HB2
          have HE := HE2
          clear HE2
          obtain ⟨a0, a1, a2, a3, a4, a5, a6, a7, a8⟩ := HA.out.cells
          obtain ⟨b0, b1, -, -, -⟩ := HB.out
          go_wp2_with fail
          go_ret
          exact ⟨rfl, HE.out⟩
        · have f1 : (e != 0) = true := by simp [hf0]
          clear hf0
          obtain ⟨a0, a1, a2, a3, a4, a5, a6, a7, a8⟩ := HA.out.cells
          obtain ⟨b0, b1, -, -, -⟩ := HB.out
          go_wp2_with fail
          go_ret
          exact ⟨rfl, HE.out⟩
      · have n1 : (f == 0) = false := by simp [hc]
        clear hc
        by_cases hf0 : e = 0
        · subst hf0
          obtain ⟨X1, hX1⟩ : ∃ X1, a ++ Y = X1 := ⟨_, rfl⟩
          obtain ⟨X2, hX2⟩ : ∃ X2, X1 ++ dd = X2 := ⟨_, rfl⟩
          have hsub := (HY4.out (by first | rfl | trivial))
          rw [hX1, hX2] at hsub
          have HSUB := Lib.hid hsub
          have hadd1 : ∀ W, (Op.stringOp .add a Y).run Try.prog W = .ok (.string X1) W := fun W => by
            rw [← hX1]
            exact add_run a Y (by have := HAD.out; have := HSUB.out.1.small; omega) W
          have hadd2 : ∀ W, (Op.stringOp .add X1 dd).run Try.prog W = .ok (.string X2) W := fun W => by
            rw [← hX2]
            exact add_run X1 dd (by have := HAD.out; have := HSUB.out.1.small; rw [← hX1, ByteArray.size_append]; omega) W
          clear hX1 hX2 hsub
          have px : ((Y.size : Int) == 0) = false := beq_eq_false_iff_ne.2 (by have := HSUB.out.1.pos; omega)
          have pw : ¬ ((Y.size : Int) = 0) := by have := HSUB.out.1.pos; omega
          have hz0 := HZ.out.1
          have hz1 := HZ.out.2
          obtain ⟨mc, hm⟩ : ∃ mc : Nat, z.tmod (Y.size : Int) = (mc : Int) := ⟨(z.tmod (Y.size : Int)).toNat, by
            rw [Int.tmod_eq_emod_of_nonneg HZ.out.1]
            have := Int.emod_nonneg z (b := (Y.size : Int)) (by have := HSUB.out.1.pos; omega)
            omega⟩
          have hmF : mc < Y.size := by
            have h1 := Int.emod_lt_of_pos z (b := (Y.size : Int)) (by have := HSUB.out.1.pos; omega)
            rw [Int.tmod_eq_emod_of_nonneg HZ.out.1] at hm
            omega
          have HMF := Lib.hid hmF
          have hA5 : a.size ≤ 5000 := by have := HN.out; omega
          have hF5 : Y.size ≤ 5000 := HSUB.out.1.small
          have hm0 : (0 : Int) ≤ (mc : Int) := by omega
          have hm1 : (mc : Int) ≤ (Y.size : Int) := by omega
          obtain ⟨a0, a1, a2, a3, a4, a5, a6, a7, a8⟩ := HA.out.cells
          obtain ⟨b0, b1, -, -, -⟩ := HB.out
          go_wp2_with fail
          clear a0 a1 a2 a3 a4 a5 a6 a7 a8 b0 b1
          clear px pw
          have HCUT := Lib.hid (HSUB.out.1.cut mc HMF.out)
          obtain ⟨OX, hOX⟩ : ∃ x, bidR (Y.extract 0 mc).data.toList 0 = x := ⟨_, rfl⟩
          have hf := parsebid_any (Y.extract 0 mc) 0 w5 (by have := HSUB.out.1.small; rw [ByteArray.size_extract]; unfold maxLen; omega)
          rw [hOX] at hf
          have HCU : Hid (OX.e ≠ 0) := by rw [← hOX]; exact HCUT.out
          clear hOX HCUT hm0 hm1 hmF hm
          obtain ⟨lb, lx, q, ie⟩ := OX
          refine hf.mono ?_
          clear hf
          rintro e w6 ⟨LA, lc, rfl, -, hE⟩
          simp only at HCU ⊢
          obtain ⟨ln, hln⟩ : ∃ x, lx.length = x := ⟨_, rfl⟩
          rw [hln]
          clear hln
          have HA2 := Lib.hid (HA.out.ext hE)
          have HB2 := Lib.hid (HB.out.ext hE)
          have HE2 := Lib.hid (Ext.trans HE.out hE)
          clear HA HB HE hE
          have HA := HA2
          clear HA2
          have HB := HB2
          clear HB2
          have HE := HE2
          clear HE2
          have i1 : (ie != 0) = true := by have := HCU.out; simpa using this
          have hE : Ext w6 (w6.alloc (.cells #[.int .i64 lb, .slice LA ln lc] 33)) := Ext.al Ext.rfl' _
          have HA2 := Lib.hid (HA.out.ext hE)
          have HB2 := Lib.hid (HB.out.ext hE)
          have HE2 := Lib.hid (Ext.trans HE.out hE)
          clear HA HB HE hE
          have HA := HA2
          clear HA2
          have HB := HB2
          clear HB2
          have HE := HE2
          clear HE2
          obtain ⟨a0, a1, a2, a3, a4, a5, a6, a7, a8⟩ := HA.out.cells
          obtain ⟨b0, b1, -, -, -⟩ := HB.out
          go_wp2_with fail
          clear a0 a1 a2 a3 a4 a5 a6 a7 a8 b0 b1
          refine (bt_bid X2 (a.size : Int) b xs B m d ((a.size : Int) + (Y.size : Int)) 0 _ HSUB.out.2 (H'.out.below HE.out) (by have := HSUB.out.1.long; unfold maxLen; omega) (by have := HL2.out; omega)).mono ?_
          rintro e w7 ⟨rfl, hE⟩
          have HA2 := Lib.hid (HA.out.ext hE)
          have HB2 := Lib.hid (HB.out.ext hE)
          have HE2 := Lib.hid (Ext.trans HE.out hE)
          clear HA HB HE hE
          have HA := HA2
          clear HA2
          have HB := HB2
          clear HB2
          have HE := HE2
          clear HE2
          obtain ⟨a0, a1, a2, a3, a4, a5, a6, a7, a8⟩ := HA.out.cells
          obtain ⟨b0, b1, -, -, -⟩ := HB.out
          go_wp2_with fail
          go_ret
          exact ⟨rfl, HE.out⟩
        · have f1 : (e != 0) = true := by simp [hf0]
          clear hf0
          obtain ⟨a0, a1, a2, a3, a4, a5, a6, a7, a8⟩ := HA.out.cells
          obtain ⟨b0, b1, -, -, -⟩ := HB.out
          go_wp2_with fail
          go_ret
          exact ⟨rfl, HE.out⟩
end Go.Proofs.Ytkdbpcenehhopaa
