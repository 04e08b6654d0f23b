/- Contracts of package step's checks: what CheckOffer, CheckBid return on every slice of steps, and that they change no memory that was there. -/
import Derived.Test.YtkdbpcenehhopaaRows
import Derived.Test.YtkdbpcenehhopaaStepP
import Derived.Test.YtkdbpcenehhopaaBase
namespace Go.Proofs.Ytkdbpcenehhopaa
open Go.RowKit

set_option maxHeartbeats 400000 in
theorem rising1_any (a b : Int) (w : World) :
    Calls Try.prog 49 #[.int .i64 a, .int .i64 b] w fun e w' => e = .returned (.bool (decide (a < b))) ∧ w = w' := by
  go_enter Try.func49, Try.ntmps49
  go_wp2
  go_ret
  exact ⟨rfl, rfl⟩

set_option maxHeartbeats 400000 in
theorem falling1_any (a b : Int) (w : World) :
    Calls Try.prog 59 #[.int .i64 a, .int .i64 b] w fun e w' => e = .returned (.bool (decide (b < a))) ∧ w = w' := by
  go_enter Try.func59, Try.ntmps59
  go_wp2
  go_ret
  exact ⟨rfl, rfl⟩

set_option maxHeartbeats 400000 in
theorem rising_any (w : World) :
    Calls Try.prog 33 #[] w fun e w' => e = .returned (.agg #[.func (.func 49) #[] #[]]) ∧ Below w.heap.size w w' := by
  go_enter Try.func33, Try.ntmps33
  go_wp2
  exact bodyPost_ret (v := .agg #[.func (.func 49) #[] #[]]) (by simp [results, Try.results33, go_sem]) rfl ⟨rfl, (Below.refl _ _).alloc (Nat.le_refl _) _⟩

set_option maxHeartbeats 400000 in
theorem falling_any (w : World) :
    Calls Try.prog 48 #[] w fun e w' => e = .returned (.agg #[.func (.func 59) #[] #[]]) ∧ Below w.heap.size w w' := by
  go_enter Try.func48, Try.ntmps48
  go_wp2
  exact bodyPost_ret (v := .agg #[.func (.func 59) #[] #[]]) (by simp [results, Try.results48, go_sem]) rfl ⟨rfl, (Below.refl _ _).alloc (Nat.le_refl _) _⟩

/-- The function that the direction holds. -/
def dirF (rise : Bool) : Nat := if rise then 49 else 59
theorem dirF_any (rise : Bool) (a b : Int) (w : World) :
    Calls Try.prog (dirF rise) #[.int .i64 a, .int .i64 b] w fun e w' => e = .returned (.bool (folB rise a b)) ∧ w = w' := by
  cases rise
  · exact falling1_any a b w
  · exact rising1_any a b w

theorem dirF_call (rise : Bool) (x y : Value) (w : World) : Sem.run Try.prog (callFunc (dirF rise) #[x, y]) w = .ok (.enter (dirF rise) #[x, y]) w := by
  cases rise <;> simp [dirF, go_sem]

set_option maxHeartbeats 1000000 in
theorem check_any (rise : Bool) (A : Option Addr) (n c : Nat) (xs : List (Int × Int)) (w : World) (hs : StepsAt w A n xs) (hn : n ≤ maxLen) :
    Calls Try.prog 34 #[.agg #[.func (.func (dirF rise)) #[] #[]], .slice A n c] w fun e w' => e = .returned (.int .i64 (chk rise xs)) ∧ Below w.heap.size w w' := by
  unfold maxLen at hn
  obtain ⟨hl, hc⟩ := hs
  have HL := Lib.hid hl; clear hl
  by_cases h0 : n = 0
  · subst h0
    go_enter Try.func34, Try.ntmps34
    go_wp2
    go_ret
    exact ⟨by simp [chk, HL.out], (Below.refl _ _).alloc (Nat.le_refl _) _⟩
  by_cases h3 : 3 < n
  · have hb0 : ((n : Int) == 0) = false := by simp; omega
    go_enter Try.func34, Try.ntmps34
    go_wp2
    go_ret
    exact ⟨by simp [chk, HL.out, h3, h0], (Below.refl _ _).alloc (Nat.le_refl _) _⟩
  obtain ⟨b, off, rfl, hlt, hcell⟩ := hc (by omega)
  have HC := Lib.hid hcell; clear hcell hc
  have hb0 : ((n : Int) == 0) = false := by simp; omega
  have hb3 : decide (3 < (n : Int)) = false := by simp; omega
  have hchk : chk rise xs = chkFrom rise (xs.drop 0) (prevOf xs 0) := by simp [chk, HL.out, h0, h3, prevOf]
  have HK := Lib.hid hchk; clear hchk
  go_enter Try.func34, Try.ntmps34
  go_wp2
  go_loopw [15] (fun i wr => ∃ k : Nat, k ≤ n ∧ i = .int .i64 k ∧ Below (w.heap.size + 1) (w.alloc (.cells #[.func (.func (dirF rise)) #[] #[]] 79)) wr ∧ Hid (chk rise xs = chkFrom rise (xs.drop k) (prevOf xs k))) (fun i _ => n - (intOf i).toNat)
  case atStart => exact ⟨0, Nat.zero_le _, rfl, Below.refl _ _, HK⟩
  case round =>
    obtain ⟨k, hk, rfl, hbw, HI⟩ := hrel
    have hbB : Below w.heap.size w wr := ((Below.refl _ _).alloc (Nat.le_refl _) _).trans (hbw.mono (by omega))
    by_cases hlt2 : k < n
    · obtain ⟨c1, c2⟩ := HC.out k hlt2
      have d1 : wr.cell? ⟨b, off + k * 2, none⟩ = some (.int .i64 (xs.getD k (0, 0)).1) := by
        rw [hbw.cell (p := ⟨b, off + k * 2, none⟩) (by simp; omega)]; simp [go_sem, c1, hlt]
      have d2 : wr.cell? ⟨b, off + k * 2 + 1, none⟩ = some (.int .i64 (xs.getD k (0, 0)).2) := by
        rw [hbw.cell (p := ⟨b, off + k * 2 + 1, none⟩) (by simp; omega)]; simp [go_sem, c2, hlt]
      have d3 : wr.cell? ⟨w.heap.size, 0, none⟩ = some (.func (.func (dirF rise)) #[] #[]) := by
        rw [hbw.cell (p := ⟨w.heap.size, 0, none⟩) (by simp)]; simp [go_sem]
      have hsz : w.heap.size < wr.heap.size := by have := hbw.size; simp at this; omega
      have hsb : b < wr.heap.size := by omega
      have HN := Lib.hid (chkFrom_next (rise := rise) (l := xs) (k := k) (by rw [HL.out]; exact hlt2))
      have hbv : decide ((k : Int) < (n : Int)) = true := by simp; omega
      generalize hq : (xs.getD k (0, 0)).1 = q at *
      generalize hp : (xs.getD k (0, 0)).2 = p at *
      have HP := Lib.hid hp; clear hq hp c1 c2
      by_cases hst : stepB q p = true
      · have hst' := hst
        simp only [stepB, Bool.and_eq_true, decide_eq_true_eq] at hst'
        obtain ⟨⟨⟨g1, g2⟩, g3⟩, g4⟩ := hst'
        have HS := Lib.hid hst; clear hst
        by_cases hk0 : k = 0
        · have hk1 : decide (0 < k) = false := by simp; omega
          have HK0 := Lib.hid hk0; clear hk0
          go_wp2
          go_quiet (fail)
          go_wp2
          go_roundw
          case rel =>
            refine ⟨k + 1, by omega, by go_num, below_drewN (hbw.alloc (by omega) _) _, ?_⟩
            have h1 := HI.out
            have h2 : prevOf xs k = none := by rw [HK0.out]; rfl
            rw [HN.out, if_pos HS.out, h2] at h1
            exact h1
          case measure => simp [intOf]; omega
        · have hk1 : 0 < k := by omega
          obtain ⟨_, c3⟩ := HC.out (k - 1) (by omega)
          have d4 : wr.cell? ⟨b, off + (k - 1) * 2 + 1, none⟩ = some (.int .i64 (xs.getD (k - 1) (0, 0)).2) := by
            rw [hbw.cell (p := ⟨b, off + (k - 1) * 2 + 1, none⟩) (by simp; omega)]; simp [go_sem, c3, hlt]
          clear c3
          have hpv : prevOf xs k = some (xs.getD (k - 1) (0, 0)).2 := by
            obtain ⟨j, rfl⟩ : ∃ j, k = j + 1 := ⟨k - 1, by omega⟩
            rfl
          generalize (xs.getD (k - 1) (0, 0)).2 = p0 at *
          have HV := Lib.hid hpv; clear hpv
          have hx : (1 : Int) ≤ (k : Int) := by omega
          have hcf := dirF_call rise
          have hx3 : (k : Int) - 1 < (n : Int) := by omega
          have hx2 : ((k : Int) - 1).toNat = k - 1 := by omega
          have hx1 : IntKind.i64.wrap ((k : Int) - 1) = (k : Int) - 1 := IntWalk.i64_in _ (by omega)
          go_wp2
          go_quiet (exact quiet_eq (dirF_any rise _ _ _))
          clear hx1 hx2 hx3
          cases hfo : folB rise p0 p
          · go_wp2
            go_ret
            refine ⟨?_, below_drewN (hbB.alloc (by omega) _) _⟩
            have h1 := HI.out
            rw [HN.out, if_pos HS.out, HV.out] at h1
            simp only [hfo, Bool.false_eq_true, if_false] at h1
            rw [h1]
            rfl
          · go_wp2
            go_roundw
            case rel =>
              refine ⟨k + 1, by omega, by go_num, below_drewN (hbw.alloc (by omega) _) _, ?_⟩
              have h1 := HI.out
              rw [HN.out, if_pos HS.out, HV.out] at h1
              simp only [hfo, if_true] at h1
              exact h1
            case measure => simp [intOf]; omega
      · have hbad : q < 1 ∨ 1000000 < q ∨ p < -1000000 ∨ 1000000 < p := by
          simp only [stepB, Bool.and_eq_true, decide_eq_true_eq] at hst
          omega
        have HS := Lib.hid hst; clear hst
        go_wp2
        all_goals
          go_ret
          refine ⟨?_, hbB.alloc (by omega) _⟩
          have h1 := HI.out
          rw [HN.out, if_neg HS.out] at h1
          rw [h1]
          rfl
    · have hbv : decide ((k : Int) < (n : Int)) = false := by simp; omega
      go_wp2
      go_ret
      refine ⟨?_, hbB⟩
      have h1 := HI.out
      rw [List.drop_eq_nil_of_le (by rw [HL.out]; omega)] at h1
      rw [h1]
      rfl

set_option maxHeartbeats 400000 in
theorem checkOffer_any (A : Option Addr) (n c : Nat) (xs : List (Int × Int)) (w : World) (hs : StepsAt w A n xs) (hn : n ≤ maxLen) :
    Calls Try.prog 22 #[.slice A n c] w fun e w' => e = .returned (.int .i64 (chk true xs)) ∧ Ext w w' := by
  go_enter Try.func22, Try.ntmps22
  go_wp2_with fail
  refine (rising_any _).mono ?_
  rintro e w1 ⟨rfl, hb1⟩
  go_wp2_with fail
  refine (check_any true A n c xs w1 (hs.below hb1) hn).mono ?_
  rintro e w2 ⟨rfl, hb2⟩
  go_wp2_with fail
  go_ret
  exact ⟨rfl, Ext.trans hb1 hb2⟩

set_option maxHeartbeats 400000 in
theorem checkBid_any (A : Option Addr) (n c : Nat) (xs : List (Int × Int)) (w : World) (hs : StepsAt w A n xs) (hn : n ≤ maxLen) :
    Calls Try.prog 32 #[.slice A n c] w fun e w' => e = .returned (.int .i64 (chk false xs)) ∧ Ext w w' := by
  go_enter Try.func32, Try.ntmps32
  go_wp2_with fail
  refine (falling_any _).mono ?_
  rintro e w1 ⟨rfl, hb1⟩
  go_wp2_with fail
  refine (check_any false A n c xs w1 (hs.below hb1) hn).mono ?_
  rintro e w2 ⟨rfl, hb2⟩
  go_wp2_with fail
  go_ret
  exact ⟨rfl, Ext.trans hb1 hb2⟩

set_option maxHeartbeats 400000 in
theorem checkCurve_any (A : Option Addr) (n c : Nat) (xs : List (Int × Int)) (w : World) (hs : StepsAt w A n xs) (hn : n ≤ maxLen) :
    Calls Try.prog 35 #[.slice A n c] w fun e w' => e = .returned (.int .i64 (crv xs)) ∧ Ext w w' := by
  go_enter Try.func35, Try.ntmps35
  go_wp2_with fail
  refine (checkBid_any A n c xs w hs hn).mono ?_
  rintro e w1 ⟨rfl, hb1⟩
  by_cases h0 : chk false xs = 0
  · have hb : (chk false xs == 0) = true := by simp [h0]
    have H0 := Lib.hid h0; clear h0
    go_wp2_with fail
    go_ret
    exact ⟨by unfold crv; rw [if_pos H0.out]; rfl, hb1⟩
  · have hb : (chk false xs == 0) = false := by simp [h0]
    have H0 := Lib.hid h0; clear h0
    go_wp2_with fail
    refine (checkOffer_any A n c xs w1 (hs.below hb1) hn).mono ?_
    rintro e w2 ⟨rfl, hb2⟩
    go_wp2_with fail
    go_ret
    exact ⟨by unfold crv; rw [if_neg H0.out]; rfl, Ext.trans hb1 hb2⟩

theorem ret_int {k : IntKind} {a b : Int} (h : a = b) : Ending.returned (.int k a) = .returned (.int k b) := by rw [h]
theorem ret_bool {a b : Bool} (h : a = b) : Ending.returned (.bool a) = .returned (.bool b) := by rw [h]

set_option maxHeartbeats 800000 in
theorem sum_any (A : Option Addr) (n c : Nat) (xs : List (Int × Int)) (w : World) (hs : StepsAt w A n xs) (hn : n ≤ maxLen) :
    Calls Try.prog 23 #[.slice A n c] w fun e w' => e = .returned (.int .i64 (total xs)) ∧ Ext w w' := by
  go_enter Try.func23, Try.ntmps23
  go_wp2_with fail
  refine (checkCurve_any A n c xs w hs hn).mono ?_
  rintro e w1 ⟨rfl, hb1⟩
  by_cases h0 : crv xs = 0
  · have hb : (crv xs != 0) = false := by simp [h0]
    obtain ⟨hl1, hl3, hr⟩ := crv_range h0
    have hn3 : n ≤ 3 := by rw [← hs.1]; exact hl3
    have hn1 : 1 ≤ n := by rw [← hs.1]; exact hl1
    obtain ⟨b, off, rfl, hlt, hcell⟩ := (hs.below hb1).2 (by omega)
    have HL := Lib.hid hs.1
    have HR := Lib.hid hr
    have HC := Lib.hid hcell
    have H0 := Lib.hid h0; clear h0 hcell hl1 hl3 hr
    go_wp2_with fail
    go_loopw [3, 11] (fun s i wr => ∃ k : Nat, k ≤ n ∧ i = .int .i64 k ∧ s = .int .i64 (sumQ (xs.take k)) ∧ Ext w1 wr) (fun _ i _ => n - (intOf i).toNat)
    case atStart => exact ⟨0, Nat.zero_le _, rfl, rfl, Ext.rfl'⟩
    case round =>
      obtain ⟨k, hk, rfl, rfl, hbw⟩ := hrel
      have hbd := sumQ_bd (l := xs.take k) fun y hy => HR.out y (List.mem_of_mem_take hy)
      have hlk : (xs.take k).length ≤ 3 := by simp; omega
      by_cases hlt2 : k < n
      · obtain ⟨c1, c2⟩ := HC.out k hlt2
        have d1 := Ext.cellOf hbw c1
        have d2 := Ext.cellOf hbw c2
        have hbv : decide ((k : Int) < (n : Int)) = true := by simp; omega
        have hsb : b < wr.heap.size := Nat.lt_of_lt_of_le hlt hbw.size
        have HT : Hid (sumQ (xs.take (k + 1)) = sumQ (xs.take k) + (xs.getD k (0, 0)).1) := by
          rw [take_snoc xs (0, 0) (by rw [HL.out]; exact hlt2), sumQ_append]; simp [sumQ, Hid]
        have hmem : xs.getD k (0, 0) ∈ xs := by
          have : k < xs.length := by rw [HL.out]; exact hlt2
          simp [List.getD, this]
        have hr1 := HR.out _ hmem
        generalize (xs.getD k (0, 0)).1 = q at *
        generalize (xs.getD k (0, 0)).2 = p at *
        generalize sumQ (xs.take k) = s0 at *
        clear c1 c2 hmem
        obtain ⟨r1, r2, _, _⟩ := hr1
        have hs0 : s0 ≤ 3000000 := by omega
        go_wp2_with fail
        go_roundw
        case rel => exact ⟨k + 1, by omega, by go_num, by rw [HT.out], Ext.al hbw _⟩
        case measure => simp [intOf]; omega
      · have hbv : decide ((k : Int) < (n : Int)) = false := by simp; omega
        go_wp2_with fail
        go_ret
        refine ⟨ret_int ?_, Ext.trans hb1 hbw⟩
        unfold total
        rw [if_pos H0.out, List.take_of_length_le (by rw [HL.out]; omega)]
  · have hb : (crv xs != 0) = true := by simp [h0]
    have H0 := Lib.hid h0; clear h0
    go_wp2_with fail
    go_ret
    exact ⟨by unfold total; rw [if_neg H0.out]; rfl, hb1⟩
end Go.Proofs.Ytkdbpcenehhopaa
