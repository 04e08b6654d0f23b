/- The contracts of pylonref01.Text and of the references' number (a space and a decimal number). Printed by gen_rtx.py. -/
import Derived.Test.YtnofbjcikfofgaaGreatRefI
import Derived.Test.YtnofbjcikfofgaaGreatTxA
namespace Go.Proofs.YtnofbjcikfofgaaGreat
open Go.RowKit
theorem add_bs2 (a b : Bs) (h : a.length + b.length ≤ 9223372036854775807) (W : World) : (Op.stringOp .add (bs a) (bs b)).run Tryz.prog W = .ok (.string (bs (a ++ b))) W := by
  rw [run_string_add_sum _ _ _ (show (bs a).size + (bs b).size ≤ 9223372036854775807 by rw [bs_size, bs_size]; exact h), bs_append]
theorem half_ten : halfOf (hOf [10]) = [10] := by
  rw [show hOf [10] = 10 from rfl, halfOf_pos (by omega), show (10 / 65536 : Nat) = 0 by omega, halfOf_zero]
theorem half_digit {r : Nat} (h : r < 10) : (halfOf r).getD 0 0 = r := by
  by_cases h0 : r = 0
  · subst h0; rw [halfOf_zero]; rfl
  · rw [halfOf_pos h0]
    simp
    omega
/-- What is left to write ahead of the digits that stand. -/
def leftT (v : Nat) (acc : Bs) : Bs := if v = 0 ∧ acc ≠ [] then [] else fmtN v
theorem left_step {v : Nat} {acc : Bs} (h : ¬ (v = 0 ∧ acc ≠ [])) : leftT v acc ++ acc = leftT (v / 10) (digC v :: acc) ++ (digC v :: acc) := by
  unfold leftT
  rw [if_neg h]
  by_cases h1 : v < 10
  · rw [if_pos ⟨by omega, by simp⟩, fmtN_small h1]
    rfl
  · rw [if_neg (by omega), fmtN_big (by omega)]
    simp
set_option maxRecDepth 100000 in
set_option maxHeartbeats 16000000 in
theorem rtext_any (b : Bool) (A : Option Addr) (n c : Nat) (z : Int) (B0 : Nat) (w : World) (h : ZCan w B0 b A n c z) (hz : I64r z) :
    Calls Tryz.prog 40 #[.agg #[.bool b, .slice A n c]] w fun e w' => e = .returned (.string (bs (fmtZ z))) ∧ Ext w w' := by
  have H := Lib.hid h
  have HZ := Lib.hid hz
  have HL19 := Lib.hid (fmtN_len64 hz)
  have HN5 : Hid (n ≤ 1000) := Nat.le_trans (i64_words hz h) (by omega)
  clear h hz
  go_enter Tryz.func40, Tryz.ntmps40
  go_wp2_with fail
  have hC0 := Cell2.new w _ rfl (.bool b) (.slice A n c) 49
  have hE0 : Ext w (w.alloc (.cells #[.bool b, .slice A n c] 49)) := Ext.al Ext.rfl' _
  generalize (w.alloc (.cells #[.bool b, .slice A n c] 49)) = w0 at *
  obtain ⟨g, hg⟩ : ∃ g, w.heap.size = g := ⟨_, rfl⟩
  rw [hg] at hC0 ⊢
  clear hg
  have HC0 := Lib.hid hC0
  have HE0 := Lib.hid hE0
  clear hC0 hE0
  obtain ⟨x0, x1, -, -, -⟩ := HC0.out
  go_wp2_with fail
  clear x0 x1
  refine (halves_any A n c (wordsOf z.natAbs) w0 (H.out.2.1.below HE0.out) (by have := HN5.out; omega)).mono ?_
  rintro e w1 ⟨A1, c1, rfl, hh, hnc, hcm, hE⟩
  rw [natOf_wordsOf] at hh hnc ⊢
  have HH := Lib.hid hh
  have HE1 := Lib.hid (Ext.trans HE0.out hE)
  have HC1 := Lib.hid (HC0.out.ext hE)
  clear hh hnc hcm hE HC0 HE0
  go_wp2_with fail
  go_loopw [3, 4] (fun hv sv wr => ∃ (v : Nat) (acc : Bs) (A2 : Option Addr) (c2 : Nat), hv = .slice A2 (halfOf v).length c2 ∧ sv = .string (bs acc) ∧ Hid (HalfAt wr A2 (halfOf v).length (halfOf v)) ∧ Hid (leftT v acc ++ acc = fmtN z.natAbs) ∧ Hid (v ≤ z.natAbs) ∧ Hid (Ext w wr) ∧ Hid (Cell2 wr g (.bool b) (.slice A n c))) (fun _ sv _ => 30 - lenS sv)
  case atStart => exact ⟨z.natAbs, [], A1, c1, rfl, rfl, HH, by unfold Hid leftT; simp, Nat.le_refl _, HE1, HC1⟩
  case round =>
    obtain ⟨v, acc, A2, c2, rfl, rfl, HV, HT, HVZ, HE, HC⟩ := hrel
    have hal : acc.length ≤ 19 := by
      have h1 := HL19.out
      rw [← HT.out, List.length_append] at h1
      omega
    have HVL : Hid ((halfOf v).length ≤ 4) := halfOf_len.2 (by have := HVZ.out; have := HZ.out; unfold I64r at this; omega)
    have ROUND : ¬ (v = 0 ∧ acc ≠ []) → Hid (leftT (v / 10) (digC v :: acc) ++ (digC v :: acc) = fmtN z.natAbs) := fun h => by unfold Hid; rw [← left_step h]; exact HT.out
    by_cases hv0 : v = 0
    rotate_left
    · obtain ⟨m, hm⟩ : ∃ m, (halfOf v).length = m := ⟨_, rfl⟩
      have hm0 : 0 < m := by have := halfOf_length_pos hv0; omega
      rw [hm] at HV HVL ⊢
      have t0 : decide ((0 : Int) < (m : Int)) = true := decide_eq_true (by omega)
      have t1 : decide (0 < m) = true := decide_eq_true hm0
      clear hm
      have HROUND := Lib.hid (ROUND (fun h => hv0 h.1))
      clear ROUND
      have hN10 : Blk (wr.alloc (.cells #[.int .i64 10] 3)) wr.heap.size 3 #[.int .i64 10] := Blk.new _ _ _
      have hE10 : Ext wr (wr.alloc (.cells #[.int .i64 10] 3)) := Ext.al Ext.rfl' _
      have hha : HalfAt (wr.alloc (.cells #[.int .i64 10] 3)) (some ⟨wr.heap.size, 0, none⟩) 1 [10] := ⟨rfl, by intro x hx; simp at hx; omega, fun _ => ⟨_, 0, rfl, hN10.lt, fun i hi => by
        obtain rfl : i = 0 := by omega
        rw [hN10.cell]
        rfl⟩⟩
      have HHA := Lib.hid hha
      have HV10 := Lib.hid (HV.out.below hE10)
      have HE10 := Lib.hid (Ext.trans HE.out hE10)
      have HC10 := Lib.hid (HC.out.ext hE10)
      clear hN10 hE10 hha HV HE HC
      go_wp2_with fail
      refine (rdiv_any A2 _ c2 (halfOf v) (some ⟨wr.heap.size, 0, none⟩) 1 1 [10] _ HV10.out HHA.out (by have := HVL.out; omega) (by omega) (by decide) half_ten).mono ?_
      rintro e w2 ⟨Aq, cq, Ar, cr, rfl, hq, -, -, hr, -, -, hE⟩
      rw [hOf_halfOf, show hOf [10] = 10 from rfl] at hq hr ⊢
      have HQ := Lib.hid hq
      have HR := Lib.hid hr
      have HE2 := Lib.hid (Ext.trans HE10.out hE)
      have HC2 := Lib.hid (HC10.out.ext hE)
      clear hq hr hE HV10 HE10 HC10 HHA
      go_wp2_with fail
      refine (at_any Ar _ cr (halfOf (v % 10)) 0 w2 HR.out (by omega)).mono ?_
      rintro e w3 ⟨rfl, rfl⟩
      rw [half_digit (show v % 10 < 10 by omega)]
      have HD : Hid (((digC v).toNat : Int) = 48 + ((v % 10 : Nat) : Int)) := by unfold Hid; rw [digC_toNat]; simp
      obtain ⟨r, hr⟩ : ∃ r, v % 10 = r := ⟨_, rfl⟩
      have hr10 : r < 10 := by omega
      rw [hr] at HD ⊢
      clear hr HR
      generalize digC v = D at *
      have hr0 : (0 : Int) ≤ (r : Int) := by omega
      have hr1 : (r : Int) ≤ 9 := by omega
      have hby : Lib.Bytes (w2.alloc (.cells #[.int .u8 (48 + (r : Int))] 5)) w2.heap.size 0 (bs [D]) := fun i hi => by
        have hb := Blk.new w2 5 #[.int .u8 (48 + (r : Int))]
        obtain rfl : i = 0 := by have : (bs [D]).size = 1 := rfl; omega
        rw [hb.cell]
        show some (Value.int .u8 (48 + (r : Int))) = some (Value.int .u8 (D.toNat : Int))
        rw [HD.out]
      have hcv := Lib.run_convert_whole (P := Tryz.prog) (w2.alloc (.cells #[.int .u8 (48 + (r : Int))] 5)) 77 5 9 (by kernel_rfl) (by kernel_rfl) (by kernel_rfl) w2.heap.size 0 (bs [D]) hby 1
      rw [show (bs [D]).size = 1 from rfl] at hcv
      have hadd : ∀ W : World, (Op.stringOp .add (bs [D]) (bs acc)).run Tryz.prog W = .ok (.string (bs ([D] ++ acc))) W := fun W => add_bs2 [D] acc (by simp only [List.length_cons, List.length_nil]; omega) W
      clear hby
      have hEN : Ext w2 (w2.alloc (.cells #[.int .u8 (48 + (r : Int))] 5)) := Ext.al Ext.rfl' _
      have HEN := Lib.hid hEN
      clear hEN
      go_wp2_with fail
      go_roundw
      case rel => exact ⟨v / 10, D :: acc, Aq, cq, rfl, rfl, HQ.out.below HEN.out, HROUND.out, by have := HVZ.out; unfold Hid; omega, Ext.trans HE2.out HEN.out, HC2.out.ext HEN.out⟩
      case measure =>
        simp [lenS, bs_size]
        omega
    · have hm : (halfOf v).length = 0 := by subst hv0; rw [halfOf_zero]; rfl
      rw [hm] at HV HVL ⊢
      have HV0 := Lib.hid hv0
      clear hm hv0
      by_cases ha : acc = []
      · subst ha
        have hb0 : bs [] = ⟨#[]⟩ := rfl
        rw [hb0]
        clear hb0
        have HROUND := Lib.hid (ROUND (fun h => h.2 rfl))
        clear ROUND
        have hN10 : Blk (wr.alloc (.cells #[.int .i64 10] 3)) wr.heap.size 3 #[.int .i64 10] := Blk.new _ _ _
        have hE10 : Ext wr (wr.alloc (.cells #[.int .i64 10] 3)) := Ext.al Ext.rfl' _
        have hha : HalfAt (wr.alloc (.cells #[.int .i64 10] 3)) (some ⟨wr.heap.size, 0, none⟩) 1 [10] := ⟨rfl, by intro x hx; simp at hx; omega, fun _ => ⟨_, 0, rfl, hN10.lt, fun i hi => by
          obtain rfl : i = 0 := by omega
          rw [hN10.cell]
          rfl⟩⟩
        have HHA := Lib.hid hha
        have HV10 := Lib.hid (HV.out.below hE10)
        have HE10 := Lib.hid (Ext.trans HE.out hE10)
        have HC10 := Lib.hid (HC.out.ext hE10)
        clear hN10 hE10 hha HV HE HC
        go_wp2_with fail
        refine (rdiv_any A2 _ c2 (halfOf v) (some ⟨wr.heap.size, 0, none⟩) 1 1 [10] _ HV10.out HHA.out (by have := HVL.out; omega) (by omega) (by decide) half_ten).mono ?_
        rintro e w2 ⟨Aq, cq, Ar, cr, rfl, hq, -, -, hr, -, -, hE⟩
        rw [hOf_halfOf, show hOf [10] = 10 from rfl] at hq hr ⊢
        have HQ := Lib.hid hq
        have HR := Lib.hid hr
        have HE2 := Lib.hid (Ext.trans HE10.out hE)
        have HC2 := Lib.hid (HC10.out.ext hE)
        clear hq hr hE HV10 HE10 HC10 HHA
        go_wp2_with fail
        refine (at_any Ar _ cr (halfOf (v % 10)) 0 w2 HR.out (by omega)).mono ?_
        rintro e w3 ⟨rfl, rfl⟩
        rw [half_digit (show v % 10 < 10 by omega)]
        have HD : Hid (((digC v).toNat : Int) = 48 + ((v % 10 : Nat) : Int)) := by unfold Hid; rw [digC_toNat]; simp
        obtain ⟨r, hr⟩ : ∃ r, v % 10 = r := ⟨_, rfl⟩
        have hr10 : r < 10 := by omega
        rw [hr] at HD ⊢
        clear hr HR
        generalize digC v = D at *
        have hr0 : (0 : Int) ≤ (r : Int) := by omega
        have hr1 : (r : Int) ≤ 9 := by omega
        have hby : Lib.Bytes (w2.alloc (.cells #[.int .u8 (48 + (r : Int))] 5)) w2.heap.size 0 (bs [D]) := fun i hi => by
          have hb := Blk.new w2 5 #[.int .u8 (48 + (r : Int))]
          obtain rfl : i = 0 := by have : (bs [D]).size = 1 := rfl; omega
          rw [hb.cell]
          show some (Value.int .u8 (48 + (r : Int))) = some (Value.int .u8 (D.toNat : Int))
          rw [HD.out]
        have hcv := Lib.run_convert_whole (P := Tryz.prog) (w2.alloc (.cells #[.int .u8 (48 + (r : Int))] 5)) 77 5 9 (by kernel_rfl) (by kernel_rfl) (by kernel_rfl) w2.heap.size 0 (bs [D]) hby 1
        rw [show (bs [D]).size = 1 from rfl] at hcv
        have hadd : ∀ W : World, (Op.stringOp .add (bs [D]) (⟨#[]⟩ : ByteArray)).run Tryz.prog W = .ok (.string (bs ([D] ++ ([] : Bs)))) W := fun W => add_bs2 [D] ([] : Bs) (by simp only [List.length_cons, List.length_nil]; omega) W
        clear hby
        have hEN : Ext w2 (w2.alloc (.cells #[.int .u8 (48 + (r : Int))] 5)) := Ext.al Ext.rfl' _
        have HEN := Lib.hid hEN
        clear hEN
        go_wp2_with fail
        go_roundw
        case rel => exact ⟨v / 10, D :: ([] : Bs), Aq, cq, rfl, rfl, HQ.out.below HEN.out, HROUND.out, by have := HVZ.out; unfold Hid; omega, Ext.trans HE2.out HEN.out, HC2.out.ext HEN.out⟩
        case measure =>
          exact (show (29 : Nat) < 30 by omega)
      · have HTL : Hid ((bs acc).toList = acc) := by unfold Hid; rw [ByteArray.toList_eq, bs_list]
        have e1 : ((bs acc).toList == []) = false := by rw [HTL.out]; simp [ha]
        have e2 : ¬ (bs acc).toList = [] := by rw [HTL.out]; exact ha
        have e3 : (bs acc).toList.isEmpty = false := by rw [HTL.out]; simpa using ha
        have HA : Hid (acc = fmtN z.natAbs) := by
          have := HT.out
          unfold leftT at this
          rw [if_pos ⟨HV0.out, ha⟩] at this
          exact this
        clear ha ROUND HT
        obtain ⟨x0, x1, -, -, -⟩ := HC.out
        go_wp2_with fail
        clear x0 x1
        refine (rsign_any b A n c z wr (H.out.ext HE.out).is (by have := HN5.out; omega)).mono ?_
        rintro e w2 ⟨rfl, hE⟩
        have HE2 := Lib.hid (Ext.trans HE.out hE)
        clear hE
        by_cases hz0 : z < 0
        · have hs : z.sign = -1 := Int.sign_eq_neg_one_of_neg hz0
          rw [hs]
          have HF : Hid (fmtZ z = 45 :: acc) := by unfold Hid fmtZ; rw [if_pos hz0, HA.out]
          have hadd : ∀ W : World, (Op.stringOp .add (⟨#[45]⟩ : ByteArray) (bs acc)).run Tryz.prog W = .ok (.string (bs ([45] ++ acc))) W := fun W => add_bs2 [45] _ (by simp only [List.length_cons, List.length_nil]; omega) W
          clear hz0 hs
          go_wp2_with fail
          go_ret
          rw [HF.out]
          exact ⟨rfl, HE2.out⟩
        · have hs : decide (z.sign < 0) = false := decide_eq_false (by
            have := Int.sign_nonneg_iff.2 (show 0 ≤ z by omega)
            omega)
          have HF : Hid (fmtZ z = acc) := by unfold Hid fmtZ; rw [if_neg hz0, HA.out]
          clear hz0
          generalize z.sign = sg at *
          go_wp2_with fail
          go_ret
          rw [HF.out]
          exact ⟨rfl, HE2.out⟩
set_option maxRecDepth 100000 in
set_option maxHeartbeats 4000000 in
theorem rnum22_any (z : Int) (w : World) (hz : I64r z) :
    Calls Tryz.prog 24 #[.int .i64 z] w fun e w' => e = .returned (.string (bs (32 :: fmtZ z))) ∧ Ext w w' := by
  have HZ := Lib.hid hz
  have HL := Lib.hid (fmtZ_len64 hz)
  clear hz
  go_enter Tryz.func24, Tryz.ntmps24
  go_wp2_with fail
  refine (rfrom_any z w HZ.out).mono ?_
  rintro e w1 ⟨b, A, n, c, rfl, hz, hE⟩
  have HC := Lib.hid hz
  have HE1 := Lib.hid hE
  clear hz hE
  go_wp2_with fail
  refine (rtext_any b A n c z _ w1 HC.out HZ.out).mono ?_
  rintro e w2 ⟨rfl, hE⟩
  have HE2 := Lib.hid (Ext.trans HE1.out hE)
  clear hE
  obtain ⟨t, ht⟩ : ∃ t, fmtZ z = t := ⟨_, rfl⟩
  rw [ht] at HL ⊢
  have HT := Lib.hid ht
  clear ht
  have hadd : ∀ W : World, (Op.stringOp .add (⟨#[32]⟩ : ByteArray) (bs t)).run Tryz.prog W = .ok (.string (bs ([32] ++ t))) W := fun W => add_bs2 [32] _ (by have := HL.out; simp only [List.length_cons, List.length_nil]; omega) W
  go_wp2_with fail
  go_ret
  rw [HT.out]
  exact ⟨rfl, HE2.out⟩
end Go.Proofs.YtnofbjcikfofgaaGreat
