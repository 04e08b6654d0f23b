/- A part of the proof. -/
import Derived.Test.YtjinpfnefeiooaaGreatStepX
import Derived.Test.YtjinpfnefeiooaaGreatUnits
namespace Go.Proofs.YtjinpfnefeiooaaGreat
open Go.RowKit

def manyE (n : Nat) : Int := if n = 0 then 4 else if 3 < n then 5 else 0
set_option maxHeartbeats 400000 in
theorem many_any (A : Option Addr) (n c : Nat) (w : World) :
  Calls Tryz.prog 84 #[.slice A n c] w fun e w' => e = .returned (.int .i64 (manyE n)) ∧ w = w' := by
 by_cases h0 : n = 0
 ·have HX : Hid (manyE n = 4) := by unfold Hid manyE; rw [if_pos h0]
  have hb : ((n : Int) == 0) = true := by simp; omega
  have H0 := LH h0
  clear h0
  go_enter Tryz.func84, Tryz.ntmps84
  go_wp2_with fail
  go_ret
  exact ⟨ret_int HX.out.symm, rfl⟩
 ·have hb : ((n : Int) == 0) = false := by simp; omega
  by_cases h3 : 3 < n
  ·have HX : Hid (manyE n = 5) := by unfold Hid manyE; rw [if_neg h0, if_pos h3]
   go_enter Tryz.func84, Tryz.ntmps84
   go_wp2_with fail
   go_ret
   exact ⟨ret_int HX.out.symm, rfl⟩
  ·have HX : Hid (manyE n = 0) := by unfold Hid manyE; rw [if_neg h0, if_neg h3]
   go_enter Tryz.func84, Tryz.ntmps84
   go_wp2_with fail
   go_ret
   exact ⟨ret_int HX.out.symm, rfl⟩
def ownE (q p : Int) : Int := if stepB q p then 0 else 1
set_option maxHeartbeats 800000 in
theorem own_any (q p : Int) (w : World) :
  Calls Tryz.prog 85 #[.agg #[.int .i64 q, .int .i64 p]] w fun e w' => e = .returned (.int .i64 (ownE q p)) ∧ Ext w w' := by
 by_cases hst : stepB q p = true
 ·have HX : Hid (ownE q p = 0) := by unfold Hid ownE; rw [if_pos hst]
  simp only [stepB, Bool.and_eq_true, decide_eq_true_eq] at hst
  obtain ⟨⟨⟨g1, g2⟩, g3⟩, g4⟩ := hst
  go_enter Tryz.func85, Tryz.ntmps85
  go_wp2_with fail
  go_ret
  exact ⟨ret_int HX.out.symm, Ext.al Ext.rfl' _⟩
 ·have HX : Hid (ownE q p = 1) := by unfold Hid ownE; rw [if_neg hst]
  have hbad : q < 1 ∨ 1000000 < q ∨ p < -1000000 ∨ 1000000 < p := by
   simp only [stepB, Bool.and_eq_true, decide_eq_true_eq] at hst
   omega
  clear hst
  go_enter Tryz.func85, Tryz.ntmps85
  go_wp2_with fail
  all_goals
   go_ret
   exact ⟨ret_int HX.out.symm, Ext.al Ext.rfl' _⟩
def lpE (rise : Bool) (xs : List (Int × Int)) (e : Int) (k : Nat) : Int := if e = 0 then chkFrom rise (xs.drop k) (prevOf xs k) else e
theorem lpE_start (rise : Bool) (xs : List (Int × Int)) : chk rise xs = lpE rise xs (manyE xs.length) 0 := by
 unfold chk lpE manyE
 by_cases h0 : xs.length = 0
 ·simp [h0]
 ·by_cases h3 : 3 < xs.length
  ·simp [h0, h3]
  ·simp [h0, h3, prevOf]
theorem lpE_next {rise : Bool} {xs : List (Int × Int)} {k : Nat} (hk : k < xs.length) : lpE rise xs 0 k = lpE rise xs (if stepB (xs.getD k (0, 0)).1 (xs.getD k (0, 0)).2 then (if prevOk rise (prevOf xs k) (xs.getD k (0, 0)).2 then 0 else 3) else 1) (k + 1) := by
 have h : chkFrom rise (xs.drop k) (prevOf xs k) = if stepB (xs.getD k (0, 0)).1 (xs.getD k (0, 0)).2 then (if prevOk rise (prevOf xs k) (xs.getD k (0, 0)).2 then chkFrom rise (xs.drop (k + 1)) (prevOf xs (k + 1)) else 3) else 1 := chkFrom_next (rise := rise) hk
 unfold lpE
 rw [if_pos rfl, h]
 cases stepB (xs.getD k (0, 0)).1 (xs.getD k (0, 0)).2
 ·simp
 ·cases prevOk rise (prevOf xs k) (xs.getD k (0, 0)).2 <;> simp
set_option maxHeartbeats 4000000 in
theorem rOffer_any (A : Option Addr) (n c : Nat) (xs : List (Int × Int)) (w : World) (hs : StepsAt w A n xs) (hn : n ≤ maxLen) :
  Calls Tryz.prog 55 #[.slice A n c] w fun e w' => e = .returned (.int .i64 (chk true xs)) ∧ Ext w w' := by
 unfold maxLen at hn
 have HL := LH hs.1
 have HS := LH hs.2
 clear hs
 have HST : Hid (chk true xs = lpE true xs (manyE n) 0) := by have := lpE_start true xs; rw [HL.out] at this; exact this
 go_enter Tryz.func55, Tryz.ntmps55
 go_wp2_with fail
 refine (many_any A n c _).mono ?_
 rintro e w1 ⟨rfl, rfl⟩
 generalize manyE n = e0 at *
 go_wp2_with fail
 go_loopw [3, 4] (fun ev i wr => ∃ (k : Nat) (e : Int), k ≤ n ∧ i = .int .i64 k ∧ ev = .int .i64 e ∧ Hid (chk true xs = lpE true xs e k) ∧ Ext w wr) (fun _ i _ => n - (intOf i).toNat)
 case atStart => exact ⟨0, e0, by omega, rfl, rfl, HST, Ext.rfl'⟩
 case round =>
  obtain ⟨k, e, hk, rfl, rfl, HI, hbw⟩ := hrel
  by_cases hlt : k < n
  ·have hbv : decide ((k : Int) < (n : Int)) = true := by simp; omega
   by_cases he : e = 0
   ·subst he
    obtain ⟨b, off, rfl, hbl, hcell⟩ := HS.out (by omega)
    obtain ⟨c1, c2⟩ := hcell k hlt
    have d1 := Ext.cellOf hbw c1
    have d2 := Ext.cellOf hbw c2
    clear c1 c2
    have HLN := LH (lpE_next (rise := true) (xs := xs) (k := k) (by rw [HL.out]; exact hlt))
    have h01 : (0 : Int) ≤ (k : Int) := by omega
    have h02 : (k : Int) < (n : Int) := by omega
    by_cases hk0 : k = 0
    ·have hk1 : decide (0 < k) = false := by simp; omega
     have HPV : Hid (prevOf xs k = none) := by unfold Hid; rw [hk0]; rfl
     have HK0 := LH hk0
     clear hcell hk0
     generalize (xs.getD k (0, 0)).1 = q at *
     generalize (xs.getD k (0, 0)).2 = p at *
     go_wp2_with fail
     refine (own_any q p _).mono ?_
     rintro e w2 ⟨rfl, hb2⟩
     cases hst : stepB q p
     ·have ho : ownE q p = 1 := by unfold ownE; rw [hst]; rfl
      rw [ho]
      rw [hst] at HLN
      clear ho hst
      go_wp2_with fail
      go_quiet (fail)
      go_wp2_with fail
      go_roundw
      case rel => exact ⟨k + 1, 1, by omega, by go_num, rfl, HI.out.trans (HLN.out.trans (by simp)), below_drewN (ET hbw hb2) _⟩
      case measure => simp [intOf]; omega
     ·have ho : ownE q p = 0 := by unfold ownE; rw [hst]; rfl
      rw [ho]
      rw [hst, HPV.out] at HLN
      clear ho hst
      go_wp2_with fail
      go_quiet (fail)
      go_wp2_with fail
      go_roundw
      case rel => exact ⟨k + 1, 0, by omega, by go_num, rfl, HI.out.trans (HLN.out.trans (by simp [prevOk])), below_drewN (ET hbw hb2) _⟩
      case measure => simp [intOf]; omega
    ·have hk1 : 0 < k := by omega
     obtain ⟨_, c3⟩ := hcell (k - 1) (by omega)
     have HPV : Hid (prevOf xs k = some (xs.getD (k - 1) (0, 0)).2) := by
      obtain ⟨j, rfl⟩ : ∃ j, k = j + 1 := ⟨k - 1, by omega⟩
      rfl
     have hx : (1 : Int) ≤ (k : Int) := by omega
     have hx3 : (k : Int) - 1 < (n : Int) := by omega
     have hx2 : ((k : Int) - 1).toNat = k - 1 := by omega
     have hx1 : IntKind.i64.wrap ((k : Int) - 1) = (k : Int) - 1 := IntWalk.i64_in _ (by omega)
     clear hcell
     generalize (xs.getD k (0, 0)).1 = q at *
     generalize (xs.getD k (0, 0)).2 = p at *
     generalize (xs.getD (k - 1) (0, 0)).2 = p0 at *
     go_wp2_with fail
     refine (own_any q p _).mono ?_
     rintro e w2 ⟨rfl, hb2⟩
     have hB2 := ET hbw hb2
     have e1 := Ext.cellOf hb2 d2
     have e3 := Ext.cellOf hB2 c3
     cases hst : stepB q p
     ·have ho : ownE q p = 1 := by unfold ownE; rw [hst]; rfl
      rw [ho]
      rw [hst] at HLN
      clear ho hst
      go_wp2_with fail
      go_quiet (fail)
      clear hx1 hx2 hx3
      go_wp2_with fail
      go_roundw
      case rel => exact ⟨k + 1, 1, by omega, by go_num, rfl, HI.out.trans (HLN.out.trans (by simp)), below_drewN hB2 _⟩
      case measure => simp [intOf]; omega
     ·have ho : ownE q p = 0 := by unfold ownE; rw [hst]; rfl
      rw [ho]
      rw [hst, HPV.out] at HLN
      clear ho hst
      by_cases hcmp : p ≤ p0
      ·have HPO : Hid (prevOk true (some p0) p = false) := by unfold Hid prevOk folB; simp; omega
       go_wp2_with fail
       go_quiet (fail)
       clear hx1 hx2 hx3
       go_wp2_with fail
       go_roundw
       case rel => exact ⟨k + 1, 3, by omega, by go_num, rfl, HI.out.trans (HLN.out.trans (by rw [HPO.out]; simp)), below_drewN hB2 _⟩
       case measure => simp [intOf]; omega
      ·have HPO : Hid (prevOk true (some p0) p = true) := by unfold Hid prevOk folB; simp; omega
       go_wp2_with fail
       go_quiet (fail)
       clear hx1 hx2 hx3
       go_wp2_with fail
       go_roundw
       case rel => exact ⟨k + 1, 0, by omega, by go_num, rfl, HI.out.trans (HLN.out.trans (by rw [HPO.out]; simp)), below_drewN hB2 _⟩
       case measure => simp [intOf]; omega
   ·have heb : (e == 0) = false := by simp [he]
    have HX : Hid (chk true xs = e) := by
     have := HI.out
     unfold lpE at this
     rw [if_neg he] at this
     exact this
    clear he
    go_wp2_with fail
    go_ret
    exact ⟨ret_int HX.out.symm, hbw⟩
  ·have hbv : decide ((k : Int) < (n : Int)) = false := by simp; omega
   have HX : Hid (chk true xs = e) := by
    have := HI.out
    unfold lpE at this
    rw [List.drop_eq_nil_of_le (by rw [HL.out]; omega)] at this
    by_cases he : e = 0
    ·rw [if_pos he] at this; rw [he]; exact this
    ·rw [if_neg he] at this; exact this
   go_wp2_with fail
   go_ret
   exact ⟨ret_int HX.out.symm, hbw⟩
set_option maxHeartbeats 4000000 in
theorem rBid_any (A : Option Addr) (n c : Nat) (xs : List (Int × Int)) (w : World) (hs : StepsAt w A n xs) (hn : n ≤ maxLen) :
  Calls Tryz.prog 135 #[.slice A n c] w fun e w' => e = .returned (.int .i64 (chk false xs)) ∧ Ext w w' := by
 unfold maxLen at hn
 have HL := LH hs.1
 have HS := LH hs.2
 clear hs
 have HST : Hid (chk false xs = lpE false xs (manyE n) 0) := by have := lpE_start false xs; rw [HL.out] at this; exact this
 go_enter Tryz.func135, Tryz.ntmps135
 go_wp2_with fail
 refine (many_any A n c _).mono ?_
 rintro e w1 ⟨rfl, rfl⟩
 generalize manyE n = e0 at *
 go_wp2_with fail
 go_loopw [3, 4] (fun ev i wr => ∃ (k : Nat) (e : Int), k ≤ n ∧ i = .int .i64 k ∧ ev = .int .i64 e ∧ Hid (chk false xs = lpE false xs e k) ∧ Ext w wr) (fun _ i _ => n - (intOf i).toNat)
 case atStart => exact ⟨0, e0, by omega, rfl, rfl, HST, Ext.rfl'⟩
 case round =>
  obtain ⟨k, e, hk, rfl, rfl, HI, hbw⟩ := hrel
  by_cases hlt : k < n
  ·have hbv : decide ((k : Int) < (n : Int)) = true := by simp; omega
   by_cases he : e = 0
   ·subst he
    obtain ⟨b, off, rfl, hbl, hcell⟩ := HS.out (by omega)
    obtain ⟨c1, c2⟩ := hcell k hlt
    have d1 := Ext.cellOf hbw c1
    have d2 := Ext.cellOf hbw c2
    clear c1 c2
    have HLN := LH (lpE_next (rise := false) (xs := xs) (k := k) (by rw [HL.out]; exact hlt))
    have h01 : (0 : Int) ≤ (k : Int) := by omega
    have h02 : (k : Int) < (n : Int) := by omega
    by_cases hk0 : k = 0
    ·have hk1 : decide (0 < k) = false := by simp; omega
     have HPV : Hid (prevOf xs k = none) := by unfold Hid; rw [hk0]; rfl
     have HK0 := LH hk0
     clear hcell hk0
     generalize (xs.getD k (0, 0)).1 = q at *
     generalize (xs.getD k (0, 0)).2 = p at *
     go_wp2_with fail
     refine (own_any q p _).mono ?_
     rintro e w2 ⟨rfl, hb2⟩
     cases hst : stepB q p
     ·have ho : ownE q p = 1 := by unfold ownE; rw [hst]; rfl
      rw [ho]
      rw [hst] at HLN
      clear ho hst
      go_wp2_with fail
      go_quiet (fail)
      go_wp2_with fail
      go_roundw
      case rel => exact ⟨k + 1, 1, by omega, by go_num, rfl, HI.out.trans (HLN.out.trans (by simp)), below_drewN (ET hbw hb2) _⟩
      case measure => simp [intOf]; omega
     ·have ho : ownE q p = 0 := by unfold ownE; rw [hst]; rfl
      rw [ho]
      rw [hst, HPV.out] at HLN
      clear ho hst
      go_wp2_with fail
      go_quiet (fail)
      go_wp2_with fail
      go_roundw
      case rel => exact ⟨k + 1, 0, by omega, by go_num, rfl, HI.out.trans (HLN.out.trans (by simp [prevOk])), below_drewN (ET hbw hb2) _⟩
      case measure => simp [intOf]; omega
    ·have hk1 : 0 < k := by omega
     obtain ⟨_, c3⟩ := hcell (k - 1) (by omega)
     have HPV : Hid (prevOf xs k = some (xs.getD (k - 1) (0, 0)).2) := by
      obtain ⟨j, rfl⟩ : ∃ j, k = j + 1 := ⟨k - 1, by omega⟩
      rfl
     have hx : (1 : Int) ≤ (k : Int) := by omega
     have hx3 : (k : Int) - 1 < (n : Int) := by omega
     have hx2 : ((k : Int) - 1).toNat = k - 1 := by omega
     have hx1 : IntKind.i64.wrap ((k : Int) - 1) = (k : Int) - 1 := IntWalk.i64_in _ (by omega)
     clear hcell
     generalize (xs.getD k (0, 0)).1 = q at *
     generalize (xs.getD k (0, 0)).2 = p at *
     generalize (xs.getD (k - 1) (0, 0)).2 = p0 at *
     go_wp2_with fail
     refine (own_any q p _).mono ?_
     rintro e w2 ⟨rfl, hb2⟩
     have hB2 := ET hbw hb2
     have e1 := Ext.cellOf hb2 d2
     have e3 := Ext.cellOf hB2 c3
     cases hst : stepB q p
     ·have ho : ownE q p = 1 := by unfold ownE; rw [hst]; rfl
      rw [ho]
      rw [hst] at HLN
      clear ho hst
      go_wp2_with fail
      go_quiet (fail)
      clear hx1 hx2 hx3
      go_wp2_with fail
      go_roundw
      case rel => exact ⟨k + 1, 1, by omega, by go_num, rfl, HI.out.trans (HLN.out.trans (by simp)), below_drewN hB2 _⟩
      case measure => simp [intOf]; omega
     ·have ho : ownE q p = 0 := by unfold ownE; rw [hst]; rfl
      rw [ho]
      rw [hst, HPV.out] at HLN
      clear ho hst
      by_cases hcmp : p0 ≤ p
      ·have HPO : Hid (prevOk false (some p0) p = false) := by unfold Hid prevOk folB; simp; omega
       go_wp2_with fail
       go_quiet (fail)
       clear hx1 hx2 hx3
       go_wp2_with fail
       go_roundw
       case rel => exact ⟨k + 1, 3, by omega, by go_num, rfl, HI.out.trans (HLN.out.trans (by rw [HPO.out]; simp)), below_drewN hB2 _⟩
       case measure => simp [intOf]; omega
      ·have HPO : Hid (prevOk false (some p0) p = true) := by unfold Hid prevOk folB; simp; omega
       go_wp2_with fail
       go_quiet (fail)
       clear hx1 hx2 hx3
       go_wp2_with fail
       go_roundw
       case rel => exact ⟨k + 1, 0, by omega, by go_num, rfl, HI.out.trans (HLN.out.trans (by rw [HPO.out]; simp)), below_drewN hB2 _⟩
       case measure => simp [intOf]; omega
   ·have heb : (e == 0) = false := by simp [he]
    have HX : Hid (chk false xs = e) := by
     have := HI.out
     unfold lpE at this
     rw [if_neg he] at this
     exact this
    clear he
    go_wp2_with fail
    go_ret
    exact ⟨ret_int HX.out.symm, hbw⟩
  ·have hbv : decide ((k : Int) < (n : Int)) = false := by simp; omega
   have HX : Hid (chk false xs = e) := by
    have := HI.out
    unfold lpE at this
    rw [List.drop_eq_nil_of_le (by rw [HL.out]; omega)] at this
    by_cases he : e = 0
    ·rw [if_pos he] at this; rw [he]; exact this
    ·rw [if_neg he] at this; exact this
   go_wp2_with fail
   go_ret
   exact ⟨ret_int HX.out.symm, hbw⟩
set_option maxHeartbeats 400000 in
theorem rCurve_any (A : Option Addr) (n c : Nat) (xs : List (Int × Int)) (w : World) (hs : StepsAt w A n xs) (hn : n ≤ maxLen) :
  Calls Tryz.prog 117 #[.slice A n c] w fun e w' => e = .returned (.int .i64 (crv xs)) ∧ Ext w w' := by
 go_enter Tryz.func117, Tryz.ntmps117
 go_wp2_with fail
 refine (rBid_any A n c xs w hs hn).mono ?_
 rintro e w1 ⟨rfl, hb1⟩
 by_cases h0 : chk false xs = 0
 ·have hb : (chk false xs == 0) = true := by simp [h0]
  have H0 := LH h0; clear h0
  go_wp2_with fail
  go_ret
  exact ⟨by unfold crv; rw [if_pos H0.out]; rfl, hb1⟩
 ·have hb : (chk false xs == 0) = false := by simp [h0]
  have H0 := LH h0; clear h0
  go_wp2_with fail
  refine (rOffer_any A n c xs w1 (hs.below hb1) hn).mono ?_
  rintro e w2 ⟨rfl, hb2⟩
  go_wp2_with fail
  go_ret
  exact ⟨by unfold crv; rw [if_neg H0.out]; rfl, ET hb1 hb2⟩
set_option maxHeartbeats 1000000 in
theorem rSum_any (A : Option Addr) (n c : Nat) (xs : List (Int × Int)) (w : World) (hs : StepsAt w A n xs) (hn : n ≤ maxLen) :
  Calls Tryz.prog 86 #[.slice A n c] w fun e w' => e = .returned (.int .i64 (total xs)) ∧ Ext w w' := by
 have HS0 := LH hs
 unfold maxLen at hn
 have HL := LH hs.1
 have HS := LH hs.2
 clear hs
 have hnm : n ≤ maxLen := by unfold maxLen; omega
 have HNM := LH hnm
 clear hnm
 by_cases h0 : crv xs = 0
 ·have hb : (crv xs == 0) = true := by simp [h0]
  obtain ⟨hl1, hl3, hr⟩ := crv_range h0
  have hn3 : n ≤ 3 := by rw [← HL.out]; exact hl3
  have HR := LH hr
  have H0 := LH h0
  clear h0 hr hl1 hl3
  go_enter Tryz.func86, Tryz.ntmps86
  go_wp2_with fail
  go_loopw [3, 4] (fun s i wr => ∃ k : Nat, k ≤ n ∧ i = .int .i64 k ∧ s = .int .i64 (sumQ (xs.take k)) ∧ Ext w wr) (fun _ i _ => n - (intOf i).toNat)
  case atStart => exact ⟨0, Nat.zero_le _, rfl, rfl, Ext.rfl'⟩
  case round =>
   obtain ⟨k, hk, rfl, rfl, hbw⟩ := hrel
   have hbd := sumQ_bd (l := xs.take k) fun y hy => HR.out y (List.mem_of_mem_take hy)
   have hlk : (xs.take k).length ≤ 3 := by simp; omega
   by_cases hlt2 : k < n
   ·obtain ⟨b, off, rfl, hbl, hcell⟩ := HS.out (by omega)
    obtain ⟨c1, c2⟩ := hcell k hlt2
    have hbv : decide ((k : Int) < (n : Int)) = true := by simp; omega
    have HT : Hid (sumQ (xs.take (k + 1)) = sumQ (xs.take k) + (xs.getD k (0, 0)).1) := by
     rw [take_snoc xs (0, 0) (by rw [HL.out]; exact hlt2), sumQ_append]; simp [sumQ, Hid]
    have hmem : xs.getD k (0, 0) ∈ xs := by
     have : k < xs.length := by rw [HL.out]; exact hlt2
     simp [List.getD, this]
    have hr1 := HR.out _ hmem
    generalize (xs.getD k (0, 0)).1 = q at *
    generalize sumQ (xs.take k) = s0 at *
    clear c2 hmem hcell
    obtain ⟨r1, r2, _, _⟩ := hr1
    have hs0 : s0 ≤ 3000000 := by omega
    go_wp2_with fail
    refine (rCurve_any _ n c xs _ (HS0.out.below hbw) HNM.out).mono ?_
    rintro e w2 ⟨rfl, hb2⟩
    have d1 := Ext.cellOf (ET hbw hb2) c1
    go_wp2_with fail
    go_roundw
    case rel => exact ⟨k + 1, by omega, by go_num, by rw [HT.out], ET hbw hb2⟩
    case measure => simp [intOf]; omega
   ·have hbv : decide ((k : Int) < (n : Int)) = false := by simp; omega
    go_wp2_with fail
    go_ret
    refine ⟨ret_int ?_, hbw⟩
    unfold total
    rw [if_pos H0.out, List.take_of_length_le (by rw [HL.out]; omega)]
 ·have hb : (crv xs == 0) = false := by simp [h0]
  have HX : Hid (total xs = 0) := by unfold Hid total; rw [if_neg h0]
  clear h0
  go_enter Tryz.func86, Tryz.ntmps86
  go_wp2_with fail
  go_loopw [3, 4] (fun s i wr => i = .int .i64 0 ∧ s = .int .i64 0 ∧ Ext w wr) (fun _ i _ => n - (intOf i).toNat)
  case atStart => exact ⟨rfl, rfl, Ext.rfl'⟩
  case round =>
   obtain ⟨rfl, rfl, hbw⟩ := hrel
   by_cases hn0 : 0 < n
   ·have hbv : decide ((0 : Int) < (n : Int)) = true := by simp; omega
    go_wp2_with fail
    refine (rCurve_any _ n c xs _ (HS0.out.below hbw) HNM.out).mono ?_
    rintro e w2 ⟨rfl, hb2⟩
    go_wp2_with fail
    go_ret
    exact ⟨ret_int HX.out.symm, ET hbw hb2⟩
   ·have hbv : decide ((0 : Int) < (n : Int)) = false := by simp; omega
    go_wp2_with fail
    go_ret
    exact ⟨ret_int HX.out.symm, hbw⟩
end Go.Proofs.YtjinpfnefeiooaaGreat
namespace Go.Proofs.YtjinpfnefeiooaaGreat
open Go.RowKit

set_option maxHeartbeats 400000 in
theorem rMax_any (u : U) (A : Option Addr) (n c : Nat) (w : World) (hs : StepsAt w A n u.steps) (hn : n ≤ maxLen) :
  Calls Tryz.prog 56 #[u.val A n c] w fun e w' => e = .returned (.int .i64 u.top) ∧ Ext w w' := by
 go_enter Tryz.func56, Tryz.ntmps56
 go_wp2_with fail
 refine (rOffer_any A n c u.steps _ (hs.below ((Below.refl _ _).alloc (Nat.le_refl _) _)) hn).mono ?_
 rintro e w1 ⟨rfl, hb1⟩
 have hE : Ext w w1 := Ext.new hb1
 by_cases hc : chk true u.steps = 0
 ·have hcb : (chk true u.steps != 0) = false := by simp [hc]
  have HC : Hid (u.top = total u.steps) := by unfold Hid U.top; rw [if_pos hc]
  clear hc
  have d2 : w1.cell? ⟨w.heap.size, 2, none⟩ = some (.slice A n c) := Ext.cellOf hb1 (by simp [go_sem])
  go_wp2_with fail
  refine (rSum_any A n c u.steps _ (hs.below hE) hn).mono ?_
  rintro e w2 ⟨rfl, hb2⟩
  go_wp2_with fail
  go_ret
  exact ⟨ret_int HC.out.symm, ET hE hb2⟩
 ·have hcb : (chk true u.steps != 0) = true := by simp [hc]
  have HC : Hid (u.top = 0) := by unfold Hid U.top; rw [if_neg hc]
  clear hc
  go_wp2_with fail
  go_ret
  exact ⟨ret_int HC.out.symm, hE⟩
theorem firstBad (u : U) : (¬ u.mn < 0 ∧ ¬ u.top < u.mn ∧ ¬ u.up < 1 ∧ ¬ 6 < u.up ∧ ¬ u.down < 1 ∧ ¬ 6 < u.down ∧ ¬ u.start < 0 ∧ ¬ 1000000000 < u.start ∧ ¬ u.idle < 0 ∧ ¬ 1000000000 < u.idle ∧ ¬ u.spin < 0 ∧ ¬ 1000000 < u.spin ∧ ¬ u.on = 0 ∧ ¬ u.on < -6 ∧ ¬ 6 < u.on) ∨ (u.mn < 0) ∨ (¬ u.mn < 0 ∧ u.top < u.mn) ∨ (¬ u.mn < 0 ∧ ¬ u.top < u.mn ∧ u.up < 1) ∨ (¬ u.mn < 0 ∧ ¬ u.top < u.mn ∧ ¬ u.up < 1 ∧ 6 < u.up) ∨ (¬ u.mn < 0 ∧ ¬ u.top < u.mn ∧ ¬ u.up < 1 ∧ ¬ 6 < u.up ∧ u.down < 1) ∨ (¬ u.mn < 0 ∧ ¬ u.top < u.mn ∧ ¬ u.up < 1 ∧ ¬ 6 < u.up ∧ ¬ u.down < 1 ∧ 6 < u.down) ∨ (¬ u.mn < 0 ∧ ¬ u.top < u.mn ∧ ¬ u.up < 1 ∧ ¬ 6 < u.up ∧ ¬ u.down < 1 ∧ ¬ 6 < u.down ∧ u.start < 0) ∨ (¬ u.mn < 0 ∧ ¬ u.top < u.mn ∧ ¬ u.up < 1 ∧ ¬ 6 < u.up ∧ ¬ u.down < 1 ∧ ¬ 6 < u.down ∧ ¬ u.start < 0 ∧ 1000000000 < u.start) ∨ (¬ u.mn < 0 ∧ ¬ u.top < u.mn ∧ ¬ u.up < 1 ∧ ¬ 6 < u.up ∧ ¬ u.down < 1 ∧ ¬ 6 < u.down ∧ ¬ u.start < 0 ∧ ¬ 1000000000 < u.start ∧ u.idle < 0) ∨ (¬ u.mn < 0 ∧ ¬ u.top < u.mn ∧ ¬ u.up < 1 ∧ ¬ 6 < u.up ∧ ¬ u.down < 1 ∧ ¬ 6 < u.down ∧ ¬ u.start < 0 ∧ ¬ 1000000000 < u.start ∧ ¬ u.idle < 0 ∧ 1000000000 < u.idle) ∨ (¬ u.mn < 0 ∧ ¬ u.top < u.mn ∧ ¬ u.up < 1 ∧ ¬ 6 < u.up ∧ ¬ u.down < 1 ∧ ¬ 6 < u.down ∧ ¬ u.start < 0 ∧ ¬ 1000000000 < u.start ∧ ¬ u.idle < 0 ∧ ¬ 1000000000 < u.idle ∧ u.spin < 0) ∨ (¬ u.mn < 0 ∧ ¬ u.top < u.mn ∧ ¬ u.up < 1 ∧ ¬ 6 < u.up ∧ ¬ u.down < 1 ∧ ¬ 6 < u.down ∧ ¬ u.start < 0 ∧ ¬ 1000000000 < u.start ∧ ¬ u.idle < 0 ∧ ¬ 1000000000 < u.idle ∧ ¬ u.spin < 0 ∧ 1000000 < u.spin) ∨ (¬ u.mn < 0 ∧ ¬ u.top < u.mn ∧ ¬ u.up < 1 ∧ ¬ 6 < u.up ∧ ¬ u.down < 1 ∧ ¬ 6 < u.down ∧ ¬ u.start < 0 ∧ ¬ 1000000000 < u.start ∧ ¬ u.idle < 0 ∧ ¬ 1000000000 < u.idle ∧ ¬ u.spin < 0 ∧ ¬ 1000000 < u.spin ∧ u.on = 0) ∨ (¬ u.mn < 0 ∧ ¬ u.top < u.mn ∧ ¬ u.up < 1 ∧ ¬ 6 < u.up ∧ ¬ u.down < 1 ∧ ¬ 6 < u.down ∧ ¬ u.start < 0 ∧ ¬ 1000000000 < u.start ∧ ¬ u.idle < 0 ∧ ¬ 1000000000 < u.idle ∧ ¬ u.spin < 0 ∧ ¬ 1000000 < u.spin ∧ ¬ u.on = 0 ∧ u.on < -6) ∨ (¬ u.mn < 0 ∧ ¬ u.top < u.mn ∧ ¬ u.up < 1 ∧ ¬ 6 < u.up ∧ ¬ u.down < 1 ∧ ¬ 6 < u.down ∧ ¬ u.start < 0 ∧ ¬ 1000000000 < u.start ∧ ¬ u.idle < 0 ∧ ¬ 1000000000 < u.idle ∧ ¬ u.spin < 0 ∧ ¬ 1000000 < u.spin ∧ ¬ u.on = 0 ∧ ¬ u.on < -6 ∧ 6 < u.on) := by
 by_cases h0 : u.mn < 0
 ·exact .inr (.inl h0)
 by_cases h1 : u.top < u.mn
 ·exact .inr (.inr (.inl ⟨h0, h1⟩))
 by_cases h2 : u.up < 1
 ·exact .inr (.inr (.inr (.inl ⟨h0, h1, h2⟩)))
 by_cases h3 : 6 < u.up
 ·exact .inr (.inr (.inr (.inr (.inl ⟨h0, h1, h2, h3⟩))))
 by_cases h4 : u.down < 1
 ·exact .inr (.inr (.inr (.inr (.inr (.inl ⟨h0, h1, h2, h3, h4⟩)))))
 by_cases h5 : 6 < u.down
 ·exact .inr (.inr (.inr (.inr (.inr (.inr (.inl ⟨h0, h1, h2, h3, h4, h5⟩))))))
 by_cases h6 : u.start < 0
 ·exact .inr (.inr (.inr (.inr (.inr (.inr (.inr (.inl ⟨h0, h1, h2, h3, h4, h5, h6⟩)))))))
 by_cases h7 : 1000000000 < u.start
 ·exact .inr (.inr (.inr (.inr (.inr (.inr (.inr (.inr (.inl ⟨h0, h1, h2, h3, h4, h5, h6, h7⟩))))))))
 by_cases h8 : u.idle < 0
 ·exact .inr (.inr (.inr (.inr (.inr (.inr (.inr (.inr (.inr (.inl ⟨h0, h1, h2, h3, h4, h5, h6, h7, h8⟩)))))))))
 by_cases h9 : 1000000000 < u.idle
 ·exact .inr (.inr (.inr (.inr (.inr (.inr (.inr (.inr (.inr (.inr (.inl ⟨h0, h1, h2, h3, h4, h5, h6, h7, h8, h9⟩))))))))))
 by_cases h10 : u.spin < 0
 ·exact .inr (.inr (.inr (.inr (.inr (.inr (.inr (.inr (.inr (.inr (.inr (.inl ⟨h0, h1, h2, h3, h4, h5, h6, h7, h8, h9, h10⟩)))))))))))
 by_cases h11 : 1000000 < u.spin
 ·exact .inr (.inr (.inr (.inr (.inr (.inr (.inr (.inr (.inr (.inr (.inr (.inr (.inl ⟨h0, h1, h2, h3, h4, h5, h6, h7, h8, h9, h10, h11⟩))))))))))))
 by_cases h12 : u.on = 0
 ·exact .inr (.inr (.inr (.inr (.inr (.inr (.inr (.inr (.inr (.inr (.inr (.inr (.inr (.inl ⟨h0, h1, h2, h3, h4, h5, h6, h7, h8, h9, h10, h11, h12⟩)))))))))))))
 by_cases h13 : u.on < -6
 ·exact .inr (.inr (.inr (.inr (.inr (.inr (.inr (.inr (.inr (.inr (.inr (.inr (.inr (.inr (.inl ⟨h0, h1, h2, h3, h4, h5, h6, h7, h8, h9, h10, h11, h12, h13⟩))))))))))))))
 by_cases h14 : 6 < u.on
 ·exact .inr (.inr (.inr (.inr (.inr (.inr (.inr (.inr (.inr (.inr (.inr (.inr (.inr (.inr (.inr (⟨h0, h1, h2, h3, h4, h5, h6, h7, h8, h9, h10, h11, h12, h13, h14⟩)))))))))))))))
 exact .inl ⟨h0, h1, h2, h3, h4, h5, h6, h7, h8, h9, h10, h11, h12, h13, h14⟩
theorem restOk {u : U} (hc : chk true u.steps = 0) (h : ¬ u.mn < 0 ∧ ¬ u.top < u.mn ∧ ¬ u.up < 1 ∧ ¬ 6 < u.up ∧ ¬ u.down < 1 ∧ ¬ 6 < u.down ∧ ¬ u.start < 0 ∧ ¬ 1000000000 < u.start ∧ ¬ u.idle < 0 ∧ ¬ 1000000000 < u.idle ∧ ¬ u.spin < 0 ∧ ¬ 1000000 < u.spin ∧ ¬ u.on = 0 ∧ ¬ u.on < -6 ∧ ¬ 6 < u.on) : (u.okMin && u.okHold && u.okMoney && u.okSpin && u.okOn) = true := by
 have ht : u.top = total u.steps := by unfold U.top; rw [if_pos hc]
 rw [ht] at h
 simp only [U.okMin, U.okHold, U.okMoney, U.okSpin, U.okOn, Bool.and_eq_true, decide_eq_true_eq]
 omega
theorem restBad {u : U} (hc : chk true u.steps = 0) (h : ¬ (¬ u.mn < 0 ∧ ¬ u.top < u.mn ∧ ¬ u.up < 1 ∧ ¬ 6 < u.up ∧ ¬ u.down < 1 ∧ ¬ 6 < u.down ∧ ¬ u.start < 0 ∧ ¬ 1000000000 < u.start ∧ ¬ u.idle < 0 ∧ ¬ 1000000000 < u.idle ∧ ¬ u.spin < 0 ∧ ¬ 1000000 < u.spin ∧ ¬ u.on = 0 ∧ ¬ u.on < -6 ∧ ¬ 6 < u.on)) : ¬ (u.okMin && u.okHold && u.okMoney && u.okSpin && u.okOn) = true := by
 have ht : u.top = total u.steps := by unfold U.top; rw [if_pos hc]
 rw [ht] at h
 simp only [U.okMin, U.okHold, U.okMoney, U.okSpin, U.okOn, Bool.and_eq_true, decide_eq_true_eq]
 omega
set_option maxRecDepth 100000 in
set_option maxHeartbeats 16000000 in
theorem rCheck_any (u : U) (buses : Int) (A : Option Addr) (n c : Nat) (w : World) (hs : StepsAt w A n u.steps) (hn : n ≤ maxLen) :
  Calls Tryz.prog 31 #[u.val A n c, .int .i64 buses] w fun e w' => e = .returned (.int .i64 (u.check buses)) ∧ Ext w w' := by
 by_cases hbus : u.okBus buses = true
 ·have hbus' := hbus
  simp only [U.okBus, Bool.and_eq_true, decide_eq_true_eq] at hbus'
  obtain ⟨b1, b2⟩ := hbus'
  have HB := LH hbus; clear hbus
  go_enter Tryz.func31, Tryz.ntmps31
  go_wp2_with fail
  refine (rOffer_any A n c u.steps _ (hs.below ((Below.refl _ _).alloc (Nat.le_refl _) _)) hn).mono ?_
  rintro e w1 ⟨rfl, hb1⟩
  have hE : Ext w w1 := Ext.new hb1
  by_cases hc : chk true u.steps = 0
  ·have hcb : (chk true u.steps != 0) = false := by simp [hc]
   have HC := LH hc; clear hc
   obtain ⟨d0, d1, d2, d3, d4, d5, d6, d7, d8⟩ := (ubox w u A n c).ext hb1
   have x0 := fun x : ExtOf w1 => x.cell d0
   have x1 := fun x : ExtOf w1 => x.cell d1
   have x2 := fun x : ExtOf w1 => x.cell d2
   have x3 := fun x : ExtOf w1 => x.cell d3
   have x4 := fun x : ExtOf w1 => x.cell d4
   have x5 := fun x : ExtOf w1 => x.cell d5
   have x6 := fun x : ExtOf w1 => x.cell d6
   have x7 := fun x : ExtOf w1 => x.cell d7
   have x8 := fun x : ExtOf w1 => x.cell d8
   have K1 := LH (fun wx (h : Ext w1 wx) => rMax_any u A n c wx ((hs.below hE).below h) hn)
   go_wp2_with fail
   refine wp_region_ext (by kernel_rfl) (by kernel_rfl) ?_
   simp only [List.append]
   clear d0 d1 d2 d3 d4 d5 d6 d7 d8 hcb b1 b2
   rcases firstBad u with hg | hd
   ·have HX : Hid (u.check buses = 0) := ucheck_ok HB.out HC.out (restOk HC.out hg)
    obtain ⟨k0, k1, k2, k3, k4, k5, k6, k7, k8, k9, k10, k11, k12, k13, k14⟩ := hg
    have hb0 : decide (u.mn < 0) = false := by simp; omega
    have hb1 : decide (u.top < u.mn) = false := by simp; omega
    have hb2 : decide (u.up < 1) = false := by simp; omega
    have hb3 : decide (6 < u.up) = false := by simp; omega
    have hb4 : decide (u.down < 1) = false := by simp; omega
    have hb5 : decide (6 < u.down) = false := by simp; omega
    have hb6 : decide (u.start < 0) = false := by simp; omega
    have hb7 : decide (1000000000 < u.start) = false := by simp; omega
    have hb8 : decide (u.idle < 0) = false := by simp; omega
    have hb9 : decide (1000000000 < u.idle) = false := by simp; omega
    have hb10 : decide (u.spin < 0) = false := by simp; omega
    have hb11 : decide (1000000 < u.spin) = false := by simp; omega
    have hb12 : (u.on == 0) = false := by simp; omega
    have hb13 : decide (u.on < -6) = false := by simp; omega
    have hb14 : decide (6 < u.on) = false := by simp; omega
    clear k0 k1 k2 k3 k4 k5 k6 k7 k8 k9 k10 k11 k12 k13 k14
    repeat (go_big_quiet_step (exact ext_call (K1.out _ (ExtOf.h _))))
    refine wpQuiet_nil ?_
    rintro _ ⟨x, rfl⟩
    clear x0 x1 x2 x3 x4 x5 x6 x7 x8
    go_wp2_with fail
    go_ret
    exact ⟨ret_int HX.out.symm, ET hE x.h⟩
   ·rcases hd with h | h | h | h | h | h | h | h | h | h | h | h | h | h | h
    ·have HX : Hid (u.check buses = 1) := by
      exact ucheck_bad HB.out HC.out (restBad HC.out fun hg => hg.1 h)
     have hb0 : decide (u.mn < 0) = true := by simp; omega
     clear h
     repeat (go_big_quiet_step (exact ext_call (K1.out _ (ExtOf.h _))))
     refine wpQuiet_nil ?_
     rintro _ ⟨x, rfl⟩
     clear x0 x1 x2 x3 x4 x5 x6 x7 x8
     go_wp2_with fail
     go_ret
     exact ⟨ret_int HX.out.symm, ET hE x.h⟩
    ·have HX : Hid (u.check buses = 1) := by
      obtain ⟨k0, k1⟩ := h
      exact ucheck_bad HB.out HC.out (restBad HC.out fun hg => hg.2.1 k1)
     have hb0 : decide (u.mn < 0) = false := by simp; omega
     have hb1 : decide (u.top < u.mn) = true := by simp; omega
     clear h
     repeat (go_big_quiet_step (exact ext_call (K1.out _ (ExtOf.h _))))
     refine wpQuiet_nil ?_
     rintro _ ⟨x, rfl⟩
     clear x0 x1 x2 x3 x4 x5 x6 x7 x8
     go_wp2_with fail
     go_ret
     exact ⟨ret_int HX.out.symm, ET hE x.h⟩
    ·have HX : Hid (u.check buses = 1) := by
      obtain ⟨k0, k1, k2⟩ := h
      exact ucheck_bad HB.out HC.out (restBad HC.out fun hg => hg.2.2.1 k2)
     have hb0 : decide (u.mn < 0) = false := by simp; omega
     have hb1 : decide (u.top < u.mn) = false := by simp; omega
     have hb2 : decide (u.up < 1) = true := by simp; omega
     clear h
     repeat (go_big_quiet_step (exact ext_call (K1.out _ (ExtOf.h _))))
     refine wpQuiet_nil ?_
     rintro _ ⟨x, rfl⟩
     clear x0 x1 x2 x3 x4 x5 x6 x7 x8
     go_wp2_with fail
     go_ret
     exact ⟨ret_int HX.out.symm, ET hE x.h⟩
    ·have HX : Hid (u.check buses = 1) := by
      obtain ⟨k0, k1, k2, k3⟩ := h
      exact ucheck_bad HB.out HC.out (restBad HC.out fun hg => hg.2.2.2.1 k3)
     have hb0 : decide (u.mn < 0) = false := by simp; omega
     have hb1 : decide (u.top < u.mn) = false := by simp; omega
     have hb2 : decide (u.up < 1) = false := by simp; omega
     have hb3 : decide (6 < u.up) = true := by simp; omega
     clear h
     repeat (go_big_quiet_step (exact ext_call (K1.out _ (ExtOf.h _))))
     refine wpQuiet_nil ?_
     rintro _ ⟨x, rfl⟩
     clear x0 x1 x2 x3 x4 x5 x6 x7 x8
     go_wp2_with fail
     go_ret
     exact ⟨ret_int HX.out.symm, ET hE x.h⟩
    ·have HX : Hid (u.check buses = 1) := by
      obtain ⟨k0, k1, k2, k3, k4⟩ := h
      exact ucheck_bad HB.out HC.out (restBad HC.out fun hg => hg.2.2.2.2.1 k4)
     have hb0 : decide (u.mn < 0) = false := by simp; omega
     have hb1 : decide (u.top < u.mn) = false := by simp; omega
     have hb2 : decide (u.up < 1) = false := by simp; omega
     have hb3 : decide (6 < u.up) = false := by simp; omega
     have hb4 : decide (u.down < 1) = true := by simp; omega
     clear h
     repeat (go_big_quiet_step (exact ext_call (K1.out _ (ExtOf.h _))))
     refine wpQuiet_nil ?_
     rintro _ ⟨x, rfl⟩
     clear x0 x1 x2 x3 x4 x5 x6 x7 x8
     go_wp2_with fail
     go_ret
     exact ⟨ret_int HX.out.symm, ET hE x.h⟩
    ·have HX : Hid (u.check buses = 1) := by
      obtain ⟨k0, k1, k2, k3, k4, k5⟩ := h
      exact ucheck_bad HB.out HC.out (restBad HC.out fun hg => hg.2.2.2.2.2.1 k5)
     have hb0 : decide (u.mn < 0) = false := by simp; omega
     have hb1 : decide (u.top < u.mn) = false := by simp; omega
     have hb2 : decide (u.up < 1) = false := by simp; omega
     have hb3 : decide (6 < u.up) = false := by simp; omega
     have hb4 : decide (u.down < 1) = false := by simp; omega
     have hb5 : decide (6 < u.down) = true := by simp; omega
     clear h
     repeat (go_big_quiet_step (exact ext_call (K1.out _ (ExtOf.h _))))
     refine wpQuiet_nil ?_
     rintro _ ⟨x, rfl⟩
     clear x0 x1 x2 x3 x4 x5 x6 x7 x8
     go_wp2_with fail
     go_ret
     exact ⟨ret_int HX.out.symm, ET hE x.h⟩
    ·have HX : Hid (u.check buses = 1) := by
      obtain ⟨k0, k1, k2, k3, k4, k5, k6⟩ := h
      exact ucheck_bad HB.out HC.out (restBad HC.out fun hg => hg.2.2.2.2.2.2.1 k6)
     have hb0 : decide (u.mn < 0) = false := by simp; omega
     have hb1 : decide (u.top < u.mn) = false := by simp; omega
     have hb2 : decide (u.up < 1) = false := by simp; omega
     have hb3 : decide (6 < u.up) = false := by simp; omega
     have hb4 : decide (u.down < 1) = false := by simp; omega
     have hb5 : decide (6 < u.down) = false := by simp; omega
     have hb6 : decide (u.start < 0) = true := by simp; omega
     clear h
     repeat (go_big_quiet_step (exact ext_call (K1.out _ (ExtOf.h _))))
     refine wpQuiet_nil ?_
     rintro _ ⟨x, rfl⟩
     clear x0 x1 x2 x3 x4 x5 x6 x7 x8
     go_wp2_with fail
     go_ret
     exact ⟨ret_int HX.out.symm, ET hE x.h⟩
    ·have HX : Hid (u.check buses = 1) := by
      obtain ⟨k0, k1, k2, k3, k4, k5, k6, k7⟩ := h
      exact ucheck_bad HB.out HC.out (restBad HC.out fun hg => hg.2.2.2.2.2.2.2.1 k7)
     have hb0 : decide (u.mn < 0) = false := by simp; omega
     have hb1 : decide (u.top < u.mn) = false := by simp; omega
     have hb2 : decide (u.up < 1) = false := by simp; omega
     have hb3 : decide (6 < u.up) = false := by simp; omega
     have hb4 : decide (u.down < 1) = false := by simp; omega
     have hb5 : decide (6 < u.down) = false := by simp; omega
     have hb6 : decide (u.start < 0) = false := by simp; omega
     have hb7 : decide (1000000000 < u.start) = true := by simp; omega
     clear h
     repeat (go_big_quiet_step (exact ext_call (K1.out _ (ExtOf.h _))))
     refine wpQuiet_nil ?_
     rintro _ ⟨x, rfl⟩
     clear x0 x1 x2 x3 x4 x5 x6 x7 x8
     go_wp2_with fail
     go_ret
     exact ⟨ret_int HX.out.symm, ET hE x.h⟩
    ·have HX : Hid (u.check buses = 1) := by
      obtain ⟨k0, k1, k2, k3, k4, k5, k6, k7, k8⟩ := h
      exact ucheck_bad HB.out HC.out (restBad HC.out fun hg => hg.2.2.2.2.2.2.2.2.1 k8)
     have hb0 : decide (u.mn < 0) = false := by simp; omega
     have hb1 : decide (u.top < u.mn) = false := by simp; omega
     have hb2 : decide (u.up < 1) = false := by simp; omega
     have hb3 : decide (6 < u.up) = false := by simp; omega
     have hb4 : decide (u.down < 1) = false := by simp; omega
     have hb5 : decide (6 < u.down) = false := by simp; omega
     have hb6 : decide (u.start < 0) = false := by simp; omega
     have hb7 : decide (1000000000 < u.start) = false := by simp; omega
     have hb8 : decide (u.idle < 0) = true := by simp; omega
     clear h
     repeat (go_big_quiet_step (exact ext_call (K1.out _ (ExtOf.h _))))
     refine wpQuiet_nil ?_
     rintro _ ⟨x, rfl⟩
     clear x0 x1 x2 x3 x4 x5 x6 x7 x8
     go_wp2_with fail
     go_ret
     exact ⟨ret_int HX.out.symm, ET hE x.h⟩
    ·have HX : Hid (u.check buses = 1) := by
      obtain ⟨k0, k1, k2, k3, k4, k5, k6, k7, k8, k9⟩ := h
      exact ucheck_bad HB.out HC.out (restBad HC.out fun hg => hg.2.2.2.2.2.2.2.2.2.1 k9)
     have hb0 : decide (u.mn < 0) = false := by simp; omega
     have hb1 : decide (u.top < u.mn) = false := by simp; omega
     have hb2 : decide (u.up < 1) = false := by simp; omega
     have hb3 : decide (6 < u.up) = false := by simp; omega
     have hb4 : decide (u.down < 1) = false := by simp; omega
     have hb5 : decide (6 < u.down) = false := by simp; omega
     have hb6 : decide (u.start < 0) = false := by simp; omega
     have hb7 : decide (1000000000 < u.start) = false := by simp; omega
     have hb8 : decide (u.idle < 0) = false := by simp; omega
     have hb9 : decide (1000000000 < u.idle) = true := by simp; omega
     clear h
     repeat (go_big_quiet_step (exact ext_call (K1.out _ (ExtOf.h _))))
     refine wpQuiet_nil ?_
     rintro _ ⟨x, rfl⟩
     clear x0 x1 x2 x3 x4 x5 x6 x7 x8
     go_wp2_with fail
     go_ret
     exact ⟨ret_int HX.out.symm, ET hE x.h⟩
    ·have HX : Hid (u.check buses = 1) := by
      obtain ⟨k0, k1, k2, k3, k4, k5, k6, k7, k8, k9, k10⟩ := h
      exact ucheck_bad HB.out HC.out (restBad HC.out fun hg => hg.2.2.2.2.2.2.2.2.2.2.1 k10)
     have hb0 : decide (u.mn < 0) = false := by simp; omega
     have hb1 : decide (u.top < u.mn) = false := by simp; omega
     have hb2 : decide (u.up < 1) = false := by simp; omega
     have hb3 : decide (6 < u.up) = false := by simp; omega
     have hb4 : decide (u.down < 1) = false := by simp; omega
     have hb5 : decide (6 < u.down) = false := by simp; omega
     have hb6 : decide (u.start < 0) = false := by simp; omega
     have hb7 : decide (1000000000 < u.start) = false := by simp; omega
     have hb8 : decide (u.idle < 0) = false := by simp; omega
     have hb9 : decide (1000000000 < u.idle) = false := by simp; omega
     have hb10 : decide (u.spin < 0) = true := by simp; omega
     clear h
     repeat (go_big_quiet_step (exact ext_call (K1.out _ (ExtOf.h _))))
     refine wpQuiet_nil ?_
     rintro _ ⟨x, rfl⟩
     clear x0 x1 x2 x3 x4 x5 x6 x7 x8
     go_wp2_with fail
     go_ret
     exact ⟨ret_int HX.out.symm, ET hE x.h⟩
    ·have HX : Hid (u.check buses = 1) := by
      obtain ⟨k0, k1, k2, k3, k4, k5, k6, k7, k8, k9, k10, k11⟩ := h
      exact ucheck_bad HB.out HC.out (restBad HC.out fun hg => hg.2.2.2.2.2.2.2.2.2.2.2.1 k11)
     have hb0 : decide (u.mn < 0) = false := by simp; omega
     have hb1 : decide (u.top < u.mn) = false := by simp; omega
     have hb2 : decide (u.up < 1) = false := by simp; omega
     have hb3 : decide (6 < u.up) = false := by simp; omega
     have hb4 : decide (u.down < 1) = false := by simp; omega
     have hb5 : decide (6 < u.down) = false := by simp; omega
     have hb6 : decide (u.start < 0) = false := by simp; omega
     have hb7 : decide (1000000000 < u.start) = false := by simp; omega
     have hb8 : decide (u.idle < 0) = false := by simp; omega
     have hb9 : decide (1000000000 < u.idle) = false := by simp; omega
     have hb10 : decide (u.spin < 0) = false := by simp; omega
     have hb11 : decide (1000000 < u.spin) = true := by simp; omega
     clear h
     repeat (go_big_quiet_step (exact ext_call (K1.out _ (ExtOf.h _))))
     refine wpQuiet_nil ?_
     rintro _ ⟨x, rfl⟩
     clear x0 x1 x2 x3 x4 x5 x6 x7 x8
     go_wp2_with fail
     go_ret
     exact ⟨ret_int HX.out.symm, ET hE x.h⟩
    ·have HX : Hid (u.check buses = 1) := by
      obtain ⟨k0, k1, k2, k3, k4, k5, k6, k7, k8, k9, k10, k11, k12⟩ := h
      exact ucheck_bad HB.out HC.out (restBad HC.out fun hg => hg.2.2.2.2.2.2.2.2.2.2.2.2.1 k12)
     have hb0 : decide (u.mn < 0) = false := by simp; omega
     have hb1 : decide (u.top < u.mn) = false := by simp; omega
     have hb2 : decide (u.up < 1) = false := by simp; omega
     have hb3 : decide (6 < u.up) = false := by simp; omega
     have hb4 : decide (u.down < 1) = false := by simp; omega
     have hb5 : decide (6 < u.down) = false := by simp; omega
     have hb6 : decide (u.start < 0) = false := by simp; omega
     have hb7 : decide (1000000000 < u.start) = false := by simp; omega
     have hb8 : decide (u.idle < 0) = false := by simp; omega
     have hb9 : decide (1000000000 < u.idle) = false := by simp; omega
     have hb10 : decide (u.spin < 0) = false := by simp; omega
     have hb11 : decide (1000000 < u.spin) = false := by simp; omega
     have hb12 : (u.on == 0) = true := by simp; omega
     clear h
     repeat (go_big_quiet_step (exact ext_call (K1.out _ (ExtOf.h _))))
     refine wpQuiet_nil ?_
     rintro _ ⟨x, rfl⟩
     clear x0 x1 x2 x3 x4 x5 x6 x7 x8
     go_wp2_with fail
     go_ret
     exact ⟨ret_int HX.out.symm, ET hE x.h⟩
    ·have HX : Hid (u.check buses = 1) := by
      obtain ⟨k0, k1, k2, k3, k4, k5, k6, k7, k8, k9, k10, k11, k12, k13⟩ := h
      exact ucheck_bad HB.out HC.out (restBad HC.out fun hg => hg.2.2.2.2.2.2.2.2.2.2.2.2.2.1 k13)
     have hb0 : decide (u.mn < 0) = false := by simp; omega
     have hb1 : decide (u.top < u.mn) = false := by simp; omega
     have hb2 : decide (u.up < 1) = false := by simp; omega
     have hb3 : decide (6 < u.up) = false := by simp; omega
     have hb4 : decide (u.down < 1) = false := by simp; omega
     have hb5 : decide (6 < u.down) = false := by simp; omega
     have hb6 : decide (u.start < 0) = false := by simp; omega
     have hb7 : decide (1000000000 < u.start) = false := by simp; omega
     have hb8 : decide (u.idle < 0) = false := by simp; omega
     have hb9 : decide (1000000000 < u.idle) = false := by simp; omega
     have hb10 : decide (u.spin < 0) = false := by simp; omega
     have hb11 : decide (1000000 < u.spin) = false := by simp; omega
     have hb12 : (u.on == 0) = false := by simp; omega
     have hb13 : decide (u.on < -6) = true := by simp; omega
     clear h
     repeat (go_big_quiet_step (exact ext_call (K1.out _ (ExtOf.h _))))
     refine wpQuiet_nil ?_
     rintro _ ⟨x, rfl⟩
     clear x0 x1 x2 x3 x4 x5 x6 x7 x8
     go_wp2_with fail
     go_ret
     exact ⟨ret_int HX.out.symm, ET hE x.h⟩
    ·have HX : Hid (u.check buses = 1) := by
      obtain ⟨k0, k1, k2, k3, k4, k5, k6, k7, k8, k9, k10, k11, k12, k13, k14⟩ := h
      exact ucheck_bad HB.out HC.out (restBad HC.out fun hg => hg.2.2.2.2.2.2.2.2.2.2.2.2.2.2 k14)
     have hb0 : decide (u.mn < 0) = false := by simp; omega
     have hb1 : decide (u.top < u.mn) = false := by simp; omega
     have hb2 : decide (u.up < 1) = false := by simp; omega
     have hb3 : decide (6 < u.up) = false := by simp; omega
     have hb4 : decide (u.down < 1) = false := by simp; omega
     have hb5 : decide (6 < u.down) = false := by simp; omega
     have hb6 : decide (u.start < 0) = false := by simp; omega
     have hb7 : decide (1000000000 < u.start) = false := by simp; omega
     have hb8 : decide (u.idle < 0) = false := by simp; omega
     have hb9 : decide (1000000000 < u.idle) = false := by simp; omega
     have hb10 : decide (u.spin < 0) = false := by simp; omega
     have hb11 : decide (1000000 < u.spin) = false := by simp; omega
     have hb12 : (u.on == 0) = false := by simp; omega
     have hb13 : decide (u.on < -6) = false := by simp; omega
     have hb14 : decide (6 < u.on) = true := by simp; omega
     clear h
     repeat (go_big_quiet_step (exact ext_call (K1.out _ (ExtOf.h _))))
     refine wpQuiet_nil ?_
     rintro _ ⟨x, rfl⟩
     clear x0 x1 x2 x3 x4 x5 x6 x7 x8
     go_wp2_with fail
     go_ret
     exact ⟨ret_int HX.out.symm, ET hE x.h⟩
  ·have hcb : (chk true u.steps != 0) = true := by simp [hc]
   have HC := LH hc; clear hc
   go_wp2_with fail
   go_ret
   exact ⟨ret_int (ucheck_chk HB.out HC.out).symm, hE⟩
 ·have HX : Hid (u.check buses = 1) := ucheck_bus hbus
  have hbad : u.bus < 0 ∨ buses ≤ u.bus := by
   simp only [U.okBus, Bool.and_eq_true, decide_eq_true_eq] at hbus
   omega
  clear hbus
  go_enter Tryz.func31, Tryz.ntmps31
  go_wp2_with fail
  all_goals
   go_ret
   exact ⟨ret_int HX.out.symm, Ext.al Ext.rfl' _⟩
set_option maxHeartbeats 400000 in
theorem rMay_any (u : U) (A : Option Addr) (n c : Nat) (w : World) (hs : StepsAt w A n u.steps) (hn : n ≤ maxLen) :
  Calls Tryz.prog 64 #[u.val A n c] w fun e w' => e = .returned (.bool u.ok) ∧ Ext w w' := by
 go_enter Tryz.func64, Tryz.ntmps64
 go_wp2_with fail
 refine (rCheck_any u 6 A n c _ (hs.below ((Below.refl _ _).alloc (Nat.le_refl _) _)) hn).mono ?_
 rintro e w1 ⟨rfl, hb1⟩
 go_wp2_with fail
 go_ret
 exact ⟨rfl, Ext.new hb1⟩
end Go.Proofs.YtjinpfnefeiooaaGreat
