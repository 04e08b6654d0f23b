/- The law NettextSubstring returns true. Printed by gen_txsub.py. -/
import Derived.Test.YtnofbjcikfofgaaTxAw
import Derived.Test.YtnofbjcikfofgaaTxPC
namespace Go.Proofs.Ytnofbjcikfofgaa
open Go.RowKit
theorem U16.ofP {n : Int} (h : (Lit.int .u16 n).wf = true) : 0 ≤ n ∧ n ≤ 65535 := by
  have h' := h
  simp [Lit.wf, IntKind.min, IntKind.max, IntKind.signed, IntKind.bits] at h'
  exact ⟨by omega, by omega⟩
theorem add_run (a b : ByteArray) (h : a.size + b.size ≤ 9223372036854775807) (W : World) : (Op.stringOp .add a b).run Try.prog W = .ok (.string (a ++ b)) W := run_string_add_sum _ _ _ h
/-- What the law asks of a formatted text. -/
structure SubT (R : Bs → Int → Int) (F X2 : ByteArray) : Prop where
  pos : 0 < F.size
  small : F.size ≤ 5000
  long : X2.size ≤ 65536
  cut : ∀ c : Nat, c < F.size → R (F.extract 0 c).data.toList 0 ≠ 0
theorem cut_list (F : ByteArray) (c : Nat) : (F.extract 0 c).data.toList = F.data.toList.take c := by rw [ext_list]; simp
theorem app_list (a b : ByteArray) : (a ++ b).data.toList = a.data.toList ++ b.data.toList := by rw [ByteArray.data_append, Array.toList_append]
theorem net_packs (a d : ByteArray) (hl : a.size + d.size ≤ 5000) (b : Int) (ls : List (List Int)) (h4 : ∀ z ∈ ls, z.length = 4) : ∃ F : ByteArray, bs (netT b ls).1 = F ∧ (netT b ls).2 = netC b ls ∧ (netC b ls = 0 → SubT (fun l k => (netR l k).e) F (a ++ F ++ d) ∧ netR (a ++ F ++ d).data.toList (a.size : Int) = ⟨b, ls, (a.size : Int) + (F.size : Int), 0⟩) := by
  by_cases hc : netC b ls = 0
  · have e : netT b ls = (fmtT (netToks b ls), 0) := by unfold netT; rw [if_pos hc]
    rw [e]
    have hl2 := net_fmt_len hc
    have hal : a.data.toList.length = a.size := rfl
    have hdl : d.data.toList.length = d.size := rfl
    have hne : 0 < (fmtT (netToks b ls)).length := List.length_pos_iff.2 (fmt_ne _)
    have hb := net_back a.data.toList d.data.toList hc h4 (by simp only [List.length_append]; omega)
    refine ⟨_, rfl, hc.symm, fun _ => ⟨⟨?_, ?_, ?_, ?_⟩, ?_⟩⟩
    · rw [bs_size]; exact hne
    · rw [bs_size]; simp only; omega
    · rw [ByteArray.size_append, ByteArray.size_append, bs_size]; simp only; omega
    · intro c hc2
      rw [cut_list, bs_list]
      rw [bs_size] at hc2
      exact net_cut hc h4 hc2
    · rw [app_list, app_list, bs_list, bs_size, List.append_assoc]
      simp only
      rw [← hal, hb]
      simp
  · have e : netT b ls = ([], netC b ls) := by unfold netT; rw [if_neg hc]
    rw [e]
    exact ⟨_, rfl, rfl, fun h => absurd h hc⟩
theorem out_packs (a d : ByteArray) (hl : a.size + d.size ≤ 5000) (kd wh fr to_ : Int) : ∃ (F : ByteArray) (f : Int), bs (outT kd wh fr to_).1 = F ∧ (outT kd wh fr to_).2 = f ∧ (f = 0 → SubT (fun l k => (outR l k).e) F (a ++ F ++ d) ∧ outR (a ++ F ++ d).data.toList (a.size : Int) = ⟨kd, wh, fr, to_, (a.size : Int) + (F.size : Int), 0⟩) := by
  by_cases hk : kd = 1 ∨ kd = 2 ∨ kd = 3
  · by_cases hv : validO kd wh fr to_ = true
    · have e : outT kd wh fr to_ = (fmtT (outToks kd wh fr to_), 0) := by unfold outT; rw [if_pos hk, if_pos hv]
      rw [e]
      have hl2 := out_fmt_len hk hv
      have hal : a.data.toList.length = a.size := rfl
      have hdl : d.data.toList.length = d.size := rfl
      have hne : 0 < (fmtT (outToks kd wh fr to_)).length := List.length_pos_iff.2 (fmt_ne _)
      have hb := out_back a.data.toList d.data.toList hk hv (by simp only [List.length_append]; omega)
      refine ⟨_, _, rfl, rfl, fun _ => ⟨⟨?_, ?_, ?_, ?_⟩, ?_⟩⟩
      · rw [bs_size]; exact hne
      · rw [bs_size]; simp only; omega
      · rw [ByteArray.size_append, ByteArray.size_append, bs_size]; simp only; omega
      · intro c hc2
        rw [cut_list, bs_list]
        rw [bs_size] at hc2
        exact out_cut hk hv hc2
      · rw [app_list, app_list, bs_list, bs_size, List.append_assoc]
        simp only
        rw [← hal, hb]
        simp
    · have e : outT kd wh fr to_ = ([], 1) := by unfold outT; rw [if_pos hk, if_neg hv]
      rw [e]
      exact ⟨_, _, rfl, rfl, fun h => (by cases h)⟩
  · have e : outT kd wh fr to_ = ([], 12) := by unfold outT; rw [if_neg hk]
    rw [e]
    exact ⟨_, _, rfl, rfl, fun h => (by cases h)⟩
set_option maxRecDepth 100000 in
set_option maxHeartbeats 64000000 in
theorem substr_any (b : Int) (P : Option Addr) (n c : Nat) (ls : List (List Int)) (kd wh fr to_ : Int) (a d : ByteArray) (z : Int) (w : World) (h : LinesAt w P n ls) (h4 : ∀ z ∈ ls, z.length = 4) (hz : 0 ≤ z ∧ z ≤ 65535) (ha : a.size ≤ 2 ^ 48) (hd : d.size ≤ 2 ^ 48) :
    Calls Try.prog 6 #[.agg #[.int .i64 b, .slice P n c], .agg #[.int .u8 kd, .int .i64 wh, .int .i64 fr, .int .i64 to_], .string a, .string d, .int .u16 z] w fun e w' => e = .returned (.bool true) ∧ Ext w w' := by
  have H := Lib.hid h
  have H4 := Lib.hid h4
  have HZ := Lib.hid hz
  have HAD : Hid (a.size ≤ 2 ^ 48 ∧ d.size ≤ 2 ^ 48) := ⟨ha, hd⟩
  clear h h4 hz ha hd
  obtain ⟨X, hX⟩ : ∃ X, a ++ d = X := ⟨_, rfl⟩
  have hadd : ∀ W, (Op.stringOp .add a d).run Try.prog W = .ok (.string X) W := fun W => by
    rw [← hX]
    exact add_run a d (by have := HAD.out; omega) W
  have HX : Hid (X.size = a.size + d.size) := by unfold Hid; rw [← hX, ByteArray.size_append]
  clear hX
  go_enter Try.func6, Try.ntmps6
  have hA := Cell2.new w _ rfl (.int .i64 b) (.slice P n c) 31
  have hAB : Ext (w.alloc (.cells #[.int .i64 b, .slice P n c] 31)) ((w.alloc (.cells #[.int .i64 b, .slice P n c] 31)).alloc (.cells #[.int .u8 kd, .int .i64 wh, .int .i64 fr, .int .i64 to_] 34)) := Ext.al Ext.rfl' _
  have hB := Cell4.new (w.alloc (.cells #[.int .i64 b, .slice P n c] 31)) _ rfl (.int .u8 kd) (.int .i64 wh) (.int .i64 fr) (.int .i64 to_) 34
  have hE0 : Ext w ((w.alloc (.cells #[.int .i64 b, .slice P n c] 31)).alloc (.cells #[.int .u8 kd, .int .i64 wh, .int .i64 fr, .int .i64 to_] 34)) := Ext.trans (Ext.al Ext.rfl' _) hAB
  have hA2 := hA.ext hAB
  have he : (w.alloc (.cells #[.int .i64 b, .slice P n c] 31)).heap.size = w.heap.size + 1 := by simp
  rw [he] at hB
  have HA := Lib.hid hA2
  have HB := Lib.hid hB
  have HE := Lib.hid hE0
  clear hA hAB hB hE0 hA2 he
  obtain ⟨a0, a1, -, -, -⟩ := HA.out
  obtain ⟨⟨b0, b1, b2, b3⟩, -, -⟩ := HB.out
  go_wp2_with fail
  clear a0 a1 b0 b1 b2 b3
  generalize ((w.alloc (.cells #[.int .i64 b, .slice P n c] 31)).alloc (.cells #[.int .u8 kd, .int .i64 wh, .int .i64 fr, .int .i64 to_] 34)) = w0 at *
  obtain ⟨ga, hga⟩ : ∃ x, w.heap.size = x := ⟨_, rfl⟩
  rw [hga] at HA HB ⊢
  clear hga
  obtain ⟨gb, hgb⟩ : ∃ x, ga + 1 = x := ⟨_, rfl⟩
  rw [hgb] at HB ⊢
  clear hgb
  refine (long_any X b P n c w0).mono ?_
  rintro e w1 ⟨rfl, hE⟩
  have HA2 := Lib.hid (HA.out.ext hE)
  have HB2 := Lib.hid (HB.out.ext hE)
  have HE2 := Lib.hid (Ext.trans HE.out hE)
  clear HA HB HE hE
  have HA := HA2
  clear HA2
  have HB := HB2
  clear HB2
  have HE := HE2
  clear HE2
  obtain ⟨lg, hlg⟩ : ∃ v, (decide (5000 < X.size) || decide (40 < n)) = v := ⟨_, rfl⟩
  rw [hlg]
  have HLG := Lib.hid hlg
  clear hlg hadd
  cases lg with
  | true =>
    obtain ⟨a0, a1, -, -, -⟩ := HA.out
    obtain ⟨⟨b0, b1, b2, b3⟩, -, -⟩ := HB.out
    go_wp2_with fail
    clear a0 a1 b0 b1 b2 b3
    refine (awake_true w1).mono ?_
    rintro e w2 ⟨rfl, hE⟩
    have HA2 := Lib.hid (HA.out.ext hE)
    have HB2 := Lib.hid (HB.out.ext hE)
    have HE2 := Lib.hid (Ext.trans HE.out hE)
    clear HA HB HE hE
    have HA := HA2
    clear HA2
    have HB := HB2
    clear HB2
    have HE := HE2
    clear HE2
    obtain ⟨a0, a1, -, -, -⟩ := HA.out
    obtain ⟨⟨b0, b1, b2, b3⟩, -, -⟩ := HB.out
    go_wp2_with fail
    go_ret
    exact ⟨rfl, HE.out⟩
  | false =>
    have HN : Hid (n ≤ 40 ∧ a.size + d.size ≤ 5000) := by
      have h1 := HLG.out
      have h2 := HX.out
      simp only [Bool.or_eq_false_iff, decide_eq_false_iff_not] at h1
      unfold Hid
      omega
    clear HLG
    obtain ⟨a0, a1, -, -, -⟩ := HA.out
    obtain ⟨⟨b0, b1, b2, b3⟩, -, -⟩ := HB.out
    go_wp2_with fail
    clear a0 a1 b0 b1 b2 b3
    refine (awake_true w1).mono ?_
    rintro e w2 ⟨rfl, hE⟩
    have HA2 := Lib.hid (HA.out.ext hE)
    have HB2 := Lib.hid (HB.out.ext hE)
    have HE2 := Lib.hid (Ext.trans HE.out hE)
    clear HA HB HE hE
    have HA := HA2
    clear HA2
    have HB := HB2
    clear HB2
    have HE := HE2
    clear HE2
    obtain ⟨a0, a1, -, -, -⟩ := HA.out
    obtain ⟨⟨b0, b1, b2, b3⟩, -, -⟩ := HB.out
    go_wp2_with fail
    clear a0 a1 b0 b1 b2 b3
    obtain ⟨F, hF1, hF2, hF4⟩ := net_packs a d HN.out.2 b ls H4.out
    have hf := fmtnet_any b P n c ls w2 (H.out.ext HE.out) (by have := HN.out; omega)
    rw [hF1, hF2] at hf
    obtain ⟨nc, hnc⟩ : ∃ x, netC b ls = x := ⟨_, rfl⟩
    rw [hnc] at hf hF4
    have HF4 := Lib.hid hF4
    clear hF1 hF2 hF4 hnc
    refine (hf).mono ?_
    rintro e w3 ⟨rfl, hE⟩
    have HA2 := Lib.hid (HA.out.ext hE)
    have HB2 := Lib.hid (HB.out.ext hE)
    have HE2 := Lib.hid (Ext.trans HE.out hE)
    clear HA HB HE hE
    have HA := HA2
    clear HA2
    have HB := HB2
    clear HB2
    have HE := HE2
    clear HE2
    clear hf
    obtain ⟨a0, a1, -, -, -⟩ := HA.out
    obtain ⟨⟨b0, b1, b2, b3⟩, -, -⟩ := HB.out
    go_wp2_with fail
    clear a0 a1 b0 b1 b2 b3
    obtain ⟨Y, f, hY1, hY2, hY4⟩ := out_packs a d HN.out.2 kd wh fr to_
    have hf := fmtout_any kd wh fr to_ w3
    rw [hY1, hY2] at hf
    have HY4 := Lib.hid hY4
    clear hY1 hY2 hY4
    refine (hf).mono ?_
    rintro e w4 ⟨rfl, hE⟩
    have HA2 := Lib.hid (HA.out.ext hE)
    have HB2 := Lib.hid (HB.out.ext hE)
    have HE2 := Lib.hid (Ext.trans HE.out hE)
    clear HA HB HE hE
    have HA := HA2
    clear HA2
    have HB := HB2
    clear HB2
    have HE := HE2
    clear HE2
    clear hf
    by_cases hc : nc = 0
    · subst hc
      obtain ⟨X1, hX1⟩ : ∃ X1, a ++ F = X1 := ⟨_, rfl⟩
      obtain ⟨X2, hX2⟩ : ∃ X2, X1 ++ d = X2 := ⟨_, rfl⟩
      have hsub := (HF4.out (by first | rfl | trivial))
      rw [hX1, hX2] at hsub
      have HSUB := Lib.hid hsub
      have hadd1 : ∀ W, (Op.stringOp .add a F).run Try.prog W = .ok (.string X1) W := fun W => by
        rw [← hX1]
        exact add_run a F (by have := HAD.out; have := HSUB.out.1.small; omega) W
      have hadd2 : ∀ W, (Op.stringOp .add X1 d).run Try.prog W = .ok (.string X2) W := fun W => by
        rw [← hX2]
        exact add_run X1 d (by have := HAD.out; have := HSUB.out.1.small; rw [← hX1, ByteArray.size_append]; omega) W
      clear hX1 hX2 hsub
      have px : ((F.size : Int) == 0) = false := beq_eq_false_iff_ne.2 (by have := HSUB.out.1.pos; omega)
      have pw : ¬ ((F.size : Int) = 0) := by have := HSUB.out.1.pos; omega
      have hz0 := HZ.out.1
      have hz1 := HZ.out.2
      obtain ⟨m, hm⟩ : ∃ m : Nat, z.tmod (F.size : Int) = (m : Int) := ⟨(z.tmod (F.size : Int)).toNat, by
        rw [Int.tmod_eq_emod_of_nonneg HZ.out.1]
        have := Int.emod_nonneg z (b := (F.size : Int)) (by have := HSUB.out.1.pos; omega)
        omega⟩
      have hmF : m < F.size := by
        have h1 := Int.emod_lt_of_pos z (b := (F.size : Int)) (by have := HSUB.out.1.pos; omega)
        rw [Int.tmod_eq_emod_of_nonneg HZ.out.1] at hm
        omega
      have HMF := Lib.hid hmF
      have hA5 : a.size ≤ 5000 := by have := HN.out; omega
      have hF5 : F.size ≤ 5000 := HSUB.out.1.small
      have hm0 : (0 : Int) ≤ (m : Int) := by omega
      have hm1 : (m : Int) ≤ (F.size : Int) := by omega
      obtain ⟨a0, a1, -, -, -⟩ := HA.out
      obtain ⟨⟨b0, b1, b2, b3⟩, -, -⟩ := HB.out
      go_wp2_with fail
      clear a0 a1 b0 b1 b2 b3
      refine (grid_true X2 (a.size : Int) b P n c ((a.size : Int) + (F.size : Int)) 0 ls w4 HSUB.out.2 (H.out.ext HE.out) (by have := HSUB.out.1.long; unfold maxLen; omega) (by have := HN.out; omega)).mono ?_
      rintro e w5 ⟨rfl, hE⟩
      have HA2 := Lib.hid (HA.out.ext hE)
      have HB2 := Lib.hid (HB.out.ext hE)
      have HE2 := Lib.hid (Ext.trans HE.out hE)
      clear HA HB HE hE
      have HA := HA2
      clear HA2
      have HB := HB2
      clear HB2
      have HE := HE2
      clear HE2
      obtain ⟨a0, a1, -, -, -⟩ := HA.out
      obtain ⟨⟨b0, b1, b2, b3⟩, -, -⟩ := HB.out
      go_wp2_with fail
      clear a0 a1 b0 b1 b2 b3
      have HCUT := Lib.hid (HSUB.out.1.cut m HMF.out)
      obtain ⟨NX, hNX⟩ : ∃ x, netR (F.extract 0 m).data.toList 0 = x := ⟨_, rfl⟩
      have hf := parsenet_any (F.extract 0 m) 0 w5 (by have := HSUB.out.1.small; rw [ByteArray.size_extract]; unfold maxLen; omega)
      rw [hNX] at hf
      have HCU : Hid (NX.e ≠ 0) := by rw [← hNX]; exact HCUT.out
      clear hNX HCUT hm0 hm1 hmF hm HMF px pw hadd1 hadd2 HSUB
      obtain ⟨mb, ml, p, g⟩ := NX
      refine hf.mono ?_
      clear hf
      rintro e w6 ⟨A, c2, rfl, -, hE⟩
      simp only at HCU ⊢
      obtain ⟨mn, hmn⟩ : ∃ x, ml.length = x := ⟨_, rfl⟩
      rw [hmn]
      clear hmn
      have HA2 := Lib.hid (HA.out.ext hE)
      have HB2 := Lib.hid (HB.out.ext hE)
      have HE2 := Lib.hid (Ext.trans HE.out hE)
      clear HA HB HE hE
      have HA := HA2
      clear HA2
      have HB := HB2
      clear HB2
      have HE := HE2
      clear HE2
      have g1 : (g == 0) = false := by have := HCU.out; simpa using this
      have hE : Ext w6 (w6.alloc (.cells #[.int .i64 mb, .slice A mn c2] 31)) := Ext.al Ext.rfl' _
      have HA2 := Lib.hid (HA.out.ext hE)
      have HB2 := Lib.hid (HB.out.ext hE)
      have HE2 := Lib.hid (Ext.trans HE.out hE)
      clear HA HB HE hE
      have HA := HA2
      clear HA2
      have HB := HB2
      clear HB2
      have HE := HE2
      clear HE2
      by_cases hf0 : f = 0
      · subst hf0
        obtain ⟨X1, hX1⟩ : ∃ X1, a ++ Y = X1 := ⟨_, rfl⟩
        obtain ⟨X2, hX2⟩ : ∃ X2, X1 ++ d = X2 := ⟨_, rfl⟩
        have hsub := (HY4.out (by first | rfl | trivial))
        rw [hX1, hX2] at hsub
        have HSUB := Lib.hid hsub
        have hadd1 : ∀ W, (Op.stringOp .add a Y).run Try.prog W = .ok (.string X1) W := fun W => by
          rw [← hX1]
          exact add_run a Y (by have := HAD.out; have := HSUB.out.1.small; omega) W
        have hadd2 : ∀ W, (Op.stringOp .add X1 d).run Try.prog W = .ok (.string X2) W := fun W => by
          rw [← hX2]
          exact add_run X1 d (by have := HAD.out; have := HSUB.out.1.small; rw [← hX1, ByteArray.size_append]; omega) W
        clear hX1 hX2 hsub
        have py : ((Y.size : Int) == 0) = false := beq_eq_false_iff_ne.2 (by have := HSUB.out.1.pos; omega)
        have pz : ¬ ((Y.size : Int) = 0) := by have := HSUB.out.1.pos; omega
        have hz0 := HZ.out.1
        have hz1 := HZ.out.2
        obtain ⟨m, hm⟩ : ∃ m : Nat, z.tmod (Y.size : Int) = (m : Int) := ⟨(z.tmod (Y.size : Int)).toNat, by
          rw [Int.tmod_eq_emod_of_nonneg HZ.out.1]
          have := Int.emod_nonneg z (b := (Y.size : Int)) (by have := HSUB.out.1.pos; omega)
          omega⟩
        have hmF : m < Y.size := by
          have h1 := Int.emod_lt_of_pos z (b := (Y.size : Int)) (by have := HSUB.out.1.pos; omega)
          rw [Int.tmod_eq_emod_of_nonneg HZ.out.1] at hm
          omega
        have HMF := Lib.hid hmF
        have hA5 : a.size ≤ 5000 := by have := HN.out; omega
        have hF5 : Y.size ≤ 5000 := HSUB.out.1.small
        have hm0 : (0 : Int) ≤ (m : Int) := by omega
        have hm1 : (m : Int) ≤ (Y.size : Int) := by omega
        obtain ⟨a0, a1, -, -, -⟩ := HA.out
        obtain ⟨⟨b0, b1, b2, b3⟩, -, -⟩ := HB.out
        go_wp2_with fail
        clear a0 a1 b0 b1 b2 b3
        clear py pz
        have HCUT := Lib.hid (HSUB.out.1.cut m HMF.out)
        obtain ⟨OX, hOX⟩ : ∃ x, outR (Y.extract 0 m).data.toList 0 = x := ⟨_, rfl⟩
        have hf := parseout_any (Y.extract 0 m) 0 (w6.alloc (.cells #[.int .i64 mb, .slice A mn c2] 31)) (by have := HSUB.out.1.small; rw [ByteArray.size_extract]; unfold maxLen; omega)
        rw [hOX] at hf
        have HCU : Hid (OX.e ≠ 0) := by rw [← hOX]; exact HCUT.out
        clear hOX HCUT hm0 hm1 hmF hm
        obtain ⟨lk, lw, lf, lt, q, ie⟩ := OX
        refine hf.mono ?_
        clear hf
        rintro e w7 ⟨rfl, hE⟩
        simp only at HCU ⊢
        have HA2 := Lib.hid (HA.out.ext hE)
        have HB2 := Lib.hid (HB.out.ext hE)
        have HE2 := Lib.hid (Ext.trans HE.out hE)
        clear HA HB HE hE
        have HA := HA2
        clear HA2
        have HB := HB2
        clear HB2
        have HE := HE2
        clear HE2
        have i1 : (ie != 0) = true := by have := HCU.out; simpa using this
        have hE : Ext w7 (w7.alloc (.cells #[.int .u8 lk, .int .i64 lw, .int .i64 lf, .int .i64 lt] 34)) := Ext.al Ext.rfl' _
        have HA2 := Lib.hid (HA.out.ext hE)
        have HB2 := Lib.hid (HB.out.ext hE)
        have HE2 := Lib.hid (Ext.trans HE.out hE)
        clear HA HB HE hE
        have HA := HA2
        clear HA2
        have HB := HB2
        clear HB2
        have HE := HE2
        clear HE2
        have HXE := HE.out
        obtain ⟨a0, a1, -, -, -⟩ := HA.out
        obtain ⟨⟨b0, b1, b2, b3⟩, -, -⟩ := HB.out
        go_wp2_with fail
        clear a0 a1 b0 b1 b2 b3
        clear HXE
        refine (lost_true X2 (a.size : Int) kd wh fr to_ ((a.size : Int) + (Y.size : Int)) 0 _ HSUB.out.2 (by have := HSUB.out.1.long; unfold maxLen; omega)).mono ?_
        rintro e w8 ⟨rfl, hE⟩
        have HA2 := Lib.hid (HA.out.ext hE)
        have HB2 := Lib.hid (HB.out.ext hE)
        have HE2 := Lib.hid (Ext.trans HE.out hE)
        clear HA HB HE hE
        have HA := HA2
        clear HA2
        have HB := HB2
        clear HB2
        have HE := HE2
        clear HE2
        obtain ⟨a0, a1, -, -, -⟩ := HA.out
        obtain ⟨⟨b0, b1, b2, b3⟩, -, -⟩ := HB.out
        go_wp2_with fail
        go_ret
        exact ⟨rfl, HE.out⟩
      · have f1 : (f != 0) = true := by simp [hf0]
        clear hf0
        obtain ⟨a0, a1, -, -, -⟩ := HA.out
        obtain ⟨⟨b0, b1, b2, b3⟩, -, -⟩ := HB.out
        go_wp2_with fail
        go_ret
        exact ⟨rfl, HE.out⟩
    · have n1 : (nc == 0) = false := by simp [hc]
      clear hc
      by_cases hf0 : f = 0
      · subst hf0
        obtain ⟨X1, hX1⟩ : ∃ X1, a ++ Y = X1 := ⟨_, rfl⟩
        obtain ⟨X2, hX2⟩ : ∃ X2, X1 ++ d = X2 := ⟨_, rfl⟩
        have hsub := (HY4.out (by first | rfl | trivial))
        rw [hX1, hX2] at hsub
        have HSUB := Lib.hid hsub
        have hadd1 : ∀ W, (Op.stringOp .add a Y).run Try.prog W = .ok (.string X1) W := fun W => by
          rw [← hX1]
          exact add_run a Y (by have := HAD.out; have := HSUB.out.1.small; omega) W
        have hadd2 : ∀ W, (Op.stringOp .add X1 d).run Try.prog W = .ok (.string X2) W := fun W => by
          rw [← hX2]
          exact add_run X1 d (by have := HAD.out; have := HSUB.out.1.small; rw [← hX1, ByteArray.size_append]; omega) W
        clear hX1 hX2 hsub
        have py : ((Y.size : Int) == 0) = false := beq_eq_false_iff_ne.2 (by have := HSUB.out.1.pos; omega)
        have pz : ¬ ((Y.size : Int) = 0) := by have := HSUB.out.1.pos; omega
        have hz0 := HZ.out.1
        have hz1 := HZ.out.2
        obtain ⟨m, hm⟩ : ∃ m : Nat, z.tmod (Y.size : Int) = (m : Int) := ⟨(z.tmod (Y.size : Int)).toNat, by
          rw [Int.tmod_eq_emod_of_nonneg HZ.out.1]
          have := Int.emod_nonneg z (b := (Y.size : Int)) (by have := HSUB.out.1.pos; omega)
          omega⟩
        have hmF : m < Y.size := by
          have h1 := Int.emod_lt_of_pos z (b := (Y.size : Int)) (by have := HSUB.out.1.pos; omega)
          rw [Int.tmod_eq_emod_of_nonneg HZ.out.1] at hm
          omega
        have HMF := Lib.hid hmF
        have hA5 : a.size ≤ 5000 := by have := HN.out; omega
        have hF5 : Y.size ≤ 5000 := HSUB.out.1.small
        have hm0 : (0 : Int) ≤ (m : Int) := by omega
        have hm1 : (m : Int) ≤ (Y.size : Int) := by omega
        obtain ⟨a0, a1, -, -, -⟩ := HA.out
        obtain ⟨⟨b0, b1, b2, b3⟩, -, -⟩ := HB.out
        go_wp2_with fail
        clear a0 a1 b0 b1 b2 b3
        clear py pz
        have HCUT := Lib.hid (HSUB.out.1.cut m HMF.out)
        obtain ⟨OX, hOX⟩ : ∃ x, outR (Y.extract 0 m).data.toList 0 = x := ⟨_, rfl⟩
        have hf := parseout_any (Y.extract 0 m) 0 w4 (by have := HSUB.out.1.small; rw [ByteArray.size_extract]; unfold maxLen; omega)
        rw [hOX] at hf
        have HCU : Hid (OX.e ≠ 0) := by rw [← hOX]; exact HCUT.out
        clear hOX HCUT hm0 hm1 hmF hm
        obtain ⟨lk, lw, lf, lt, q, ie⟩ := OX
        refine hf.mono ?_
        clear hf
        rintro e w5 ⟨rfl, hE⟩
        simp only at HCU ⊢
        have HA2 := Lib.hid (HA.out.ext hE)
        have HB2 := Lib.hid (HB.out.ext hE)
        have HE2 := Lib.hid (Ext.trans HE.out hE)
        clear HA HB HE hE
        have HA := HA2
        clear HA2
        have HB := HB2
        clear HB2
        have HE := HE2
        clear HE2
        have i1 : (ie != 0) = true := by have := HCU.out; simpa using this
        have hE : Ext w5 (w5.alloc (.cells #[.int .u8 lk, .int .i64 lw, .int .i64 lf, .int .i64 lt] 34)) := Ext.al Ext.rfl' _
        have HA2 := Lib.hid (HA.out.ext hE)
        have HB2 := Lib.hid (HB.out.ext hE)
        have HE2 := Lib.hid (Ext.trans HE.out hE)
        clear HA HB HE hE
        have HA := HA2
        clear HA2
        have HB := HB2
        clear HB2
        have HE := HE2
        clear HE2
        have HXE := HE.out
        obtain ⟨a0, a1, -, -, -⟩ := HA.out
        obtain ⟨⟨b0, b1, b2, b3⟩, -, -⟩ := HB.out
        go_wp2_with fail
        clear a0 a1 b0 b1 b2 b3
        clear HXE
        refine (lost_true X2 (a.size : Int) kd wh fr to_ ((a.size : Int) + (Y.size : Int)) 0 _ HSUB.out.2 (by have := HSUB.out.1.long; unfold maxLen; omega)).mono ?_
        rintro e w6 ⟨rfl, hE⟩
        have HA2 := Lib.hid (HA.out.ext hE)
        have HB2 := Lib.hid (HB.out.ext hE)
        have HE2 := Lib.hid (Ext.trans HE.out hE)
        clear HA HB HE hE
        have HA := HA2
        clear HA2
        have HB := HB2
        clear HB2
        have HE := HE2
        clear HE2
        obtain ⟨a0, a1, -, -, -⟩ := HA.out
        obtain ⟨⟨b0, b1, b2, b3⟩, -, -⟩ := HB.out
        go_wp2_with fail
        go_ret
        exact ⟨rfl, HE.out⟩
      · have f1 : (f != 0) = true := by simp [hf0]
        clear hf0
        obtain ⟨a0, a1, -, -, -⟩ := HA.out
        obtain ⟨⟨b0, b1, b2, b3⟩, -, -⟩ := HB.out
        go_wp2_with fail
        go_ret
        exact ⟨rfl, HE.out⟩
end Go.Proofs.Ytnofbjcikfofgaa
