/- The walk of the law StepEndpoints. -/
import Derived.Test.YtppcpklnnbgcjaaAwake23
import Derived.Test.YtppcpklnnbgcjaaEndP
namespace Go.Proofs.Ytppcpklnnbgcjaa
open Go.RowKit

set_option maxRecDepth 100000 in
set_option maxHeartbeats 4000000 in
theorem ends_any (A : Option Addr) (n c : Nat) (xs : List (Int × Int)) (w : World) (hs : StepsAt w A n xs) (hn : n ≤ maxLen) :
    Calls Try.prog 3 #[.slice A n c] w fun e w' => e = .returned (.bool true) ∧ Ext w w' := by
  by_cases h100 : 100 < n
  · have hb : decide ((100 : Int) < (n : Int)) = true := by simp; omega
    have hb2 : decide (100 < n) = true := by simp; omega
    go_enter Try.func3, Try.ntmps3
    go_wp2_with fail
    refine (awake_any w).mono ?_
    rintro e w1 ⟨rfl, hE⟩
    go_wp2_with fail
    go_ret
    exact ⟨rfl, hE⟩
  have hb : decide ((100 : Int) < (n : Int)) = false := by simp; omega
  have hb2 : decide (100 < n) = false := by simp; omega
  go_enter Try.func3, Try.ntmps3
  go_wp2_with fail
  refine (curve_any A n c xs w hs hn).mono ?_
  rintro e w1 ⟨rfl, hE⟩
  by_cases h0 : crv xs = 0
  · rw [decide_eq_true h0]
    obtain ⟨hl1, hl3, hr⟩ := crv_range h0
    have hn3 : n ≤ 3 := by rw [← hs.1]; exact hl3
    have hn1 : 1 ≤ n := by rw [← hs.1]; exact hl1
    have HL := Lib.hid hs.1
    have HR := Lib.hid hr
    have HZ := Lib.hid (end_zero h0)
    have HF := Lib.hid (end_full h0)
    have HT : Hid (total xs = sumQ xs) := by unfold Hid total; rw [if_pos h0]
    have HS := Lib.hid hs
    clear h0 hr hl1 hl3 hs
    go_wp2_with fail
    refine (awake_any w1).mono ?_
    rintro e w2 ⟨rfl, hE2⟩
    have HE := Lib.hid (Ext.trans hE hE2)
    obtain ⟨b, off, rfl, hlt, hcell⟩ := HS.out.2 (by omega)
    have HC := Lib.hid hcell
    clear hE hE2 hcell
    go_wp2_with fail
    go_loopw [3, 4, 5] (fun s k i wr => ∃ j : Nat, j ≤ n ∧ i = .int .i64 j ∧ s = .int .i64 (sumQ (xs.take j)) ∧ k = .int .i64 (sumP (xs.take j)) ∧ Hid (Ext w wr)) (fun _ _ i _ => n - (intOf i).toNat)
    case atStart => exact ⟨0, by omega, rfl, rfl, rfl, HE.out⟩
    case round =>
      obtain ⟨j, hj, rfl, rfl, rfl, HEr⟩ := hrel
      by_cases hlt2 : j < n
      · obtain ⟨c1, c2⟩ := HC.out j hlt2
        have d1 := Ext.cellOf HEr.out c1
        have d2 := Ext.cellOf HEr.out c2
        have hbv : decide ((j : Int) < (n : Int)) = true := by simp; omega
        have hmem : xs.getD j (0, 0) ∈ xs := by simp [List.getD, show j < xs.length by rw [HL.out]; exact hlt2]
        have hr1 := HR.out _ hmem
        have hrt : InRange (xs.take j) := fun y hy => HR.out y (List.mem_of_mem_take hy)
        have hbs := sumQ_bd hrt
        have hbp := sumP_bd hrt
        have hlk : (xs.take j).length ≤ 3 := by simp; omega
        have HT1 : Hid (sumQ (xs.take (j + 1)) = sumQ (xs.take j) + (xs.getD j (0, 0)).1) := by
          unfold Hid
          rw [take_snoc xs (0, 0) (by rw [HL.out]; exact hlt2), sumQ_append]; simp [sumQ]
        have HT2 : Hid (sumP (xs.take (j + 1)) = sumP (xs.take j) + (xs.getD j (0, 0)).1 * (xs.getD j (0, 0)).2) := by
          unfold Hid
          rw [take_snoc xs (0, 0) (by rw [HL.out]; exact hlt2), sumP_append]; simp [sumP]
        generalize (xs.getD j (0, 0)).1 = q at *
        generalize (xs.getD j (0, 0)).2 = p at *
        generalize sumQ (xs.take j) = s0 at *
        generalize sumP (xs.take j) = p0 at *
        obtain ⟨r1, r2, r3, r4⟩ := hr1
        have hpb : (q * p).natAbs ≤ 1000000 * 1000000 := by
          rw [Int.natAbs_mul]
          exact Nat.mul_le_mul (by omega) (by omega)
        obtain ⟨qp, hqp⟩ : ∃ v, q * p = v := ⟨_, rfl⟩
        rw [hqp] at HT2 hpb
        have hs0 : s0 ≤ 3000000 := by omega
        have hs1 : 0 ≤ s0 := by omega
        have hp1 : p0 ≤ 3000000000000 := by omega
        have hp2 : -3000000000000 ≤ p0 := by omega
        have hq1 : qp ≤ 1000000000000 := by omega
        have hq2 : -1000000000000 ≤ qp := by omega
        have hsb : b < wr.heap.size := Nat.lt_of_lt_of_le hlt HEr.out.size
        clear c1 c2 hmem hrt hbs hbp hlk hpb
        go_wp2_with fail
        go_quiet (fail)
        go_wp2_with fail
        go_roundw
        case rel => exact ⟨j + 1, by omega, by go_num, by rw [HT1.out], by rw [HT2.out], below_drewN HEr.out _⟩
        case measure => simp [intOf]; omega
      · have hbv : decide ((j : Int) < (n : Int)) = false := by simp; omega
        have HTK : Hid (xs.take j = xs) := List.take_of_length_le (by rw [HL.out]; omega)
        rw [HTK.out]
        have hbs := sumQ_bd HR.out
        have hbp := sumP_bd HR.out
        rw [HL.out] at hbs hbp
        have HNZ : Hid (n ≤ maxLen) := hn
        obtain ⟨sm, hsm⟩ : ∃ v, sumQ xs = v := ⟨_, rfl⟩
        obtain ⟨sp, hsp⟩ : ∃ v, sumP xs = v := ⟨_, rfl⟩
        rw [hsm] at HT HF hbs ⊢
        rw [hsp] at HF hbp ⊢
        clear hsm hsp
        go_wp2_with fail
        refine (sum_any _ n c xs wr (HS.out.below HEr.out) HNZ.out).mono ?_
        rintro e w3 ⟨rfl, hE3⟩
        rw [HT.out]
        have HE3 := Lib.hid (Ext.trans HEr.out hE3)
        clear hE3
        go_wp2_with fail
        refine (costs_any _ n c xs false none 0 0 false none 0 0 0 false none 0 0 false none 0 0 0 0 w3 (HS.out.below HE3.out) HNZ.out (qcan_zero w3 0).is (by omega) (by omega) (qcan_zero w3 0)).mono ?_
        rintro e w4 ⟨rfl, hE4⟩
        rw [decide_eq_true HZ.out]
        have HE4 := Lib.hid (Ext.trans HE3.out hE4)
        clear hE4
        go_wp2_with fail
        refine (lwhole_any sm w4 ⟨by omega, by omega⟩).mono ?_
        rintro e w5 ⟨s5, A5, n5, c5, t5, B5, m5, d5, rfl, hQ5, hE5⟩
        obtain ⟨ln5, lm5⟩ := hQ5.len (sz_small (z := sm) (by omega) (by omega))
        go_wp2_with fail
        refine (lwhole_any sp w5 ⟨by omega, by omega⟩).mono ?_
        rintro e w6 ⟨s6, A6, n6, c6, t6, B6, m6, d6, rfl, hQ6, hE6⟩
        have HE6 := Lib.hid (Ext.trans HE4.out (Ext.trans hE5 hE6))
        have HQ5 := Lib.hid (hQ5.ext hE6)
        have HQ6 := Lib.hid hQ6
        clear hQ5 hE5 hE6 hQ6
        go_wp2_with fail
        refine (costs_any _ n c xs s5 A5 n5 c5 t5 B5 m5 d5 (sm : Rat) s6 A6 n6 c6 t6 B6 m6 d6 (sp : Rat) _ w6 (HS.out.below HE6.out) HNZ.out HQ5.out.is (by omega) (by omega) HQ6.out).mono ?_
        rintro e w7 ⟨rfl, hE7⟩
        rw [decide_eq_true HF.out]
        go_wp2_with fail
        go_ret
        exact ⟨rfl, Ext.trans HE6.out hE7⟩
  · rw [decide_eq_false h0]
    go_wp2_with fail
    refine (awake_any w1).mono ?_
    rintro e w2 ⟨rfl, hE2⟩
    go_wp2_with fail
    go_ret
    exact ⟨rfl, Ext.trans hE hE2⟩
end Go.Proofs.Ytppcpklnnbgcjaa
