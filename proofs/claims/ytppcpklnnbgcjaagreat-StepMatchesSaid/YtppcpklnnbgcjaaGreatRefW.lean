/- Contracts of pylonref23.wants, SupplyAt, DemandAt, Negate. Printed by gen_wants.py. -/
import Derived.Test.YtppcpklnnbgcjaaGreatRefS
import Derived.Test.YtppcpklnnbgcjaaGreatLaw23B
import Derived.Test.YtppcpklnnbgcjaaGreatNeg
namespace Go.Proofs.YtppcpklnnbgcjaaGreat
open Go.RowKit

set_option maxRecDepth 100000 in
set_option maxHeartbeats 8000000 in
theorem rwants_any (A : Option Addr) (n c : Nat) (xs : List (Int × Int)) (sa : Bool) (Aa : Option Addr) (na ca : Nat) (ta : Bool) (Ba : Option Addr) (ma da : Nat) (q : Rat) (sg : Int) (w : World) (hs : StepsAt w A n xs) (hn3 : n ≤ 3) (hr : ∀ x ∈ xs, 1 ≤ x.1 ∧ x.1 ≤ 1000000 ∧ -1000000 ≤ x.2 ∧ x.2 ≤ 1000000) (h1 : QIs w sa Aa na ca ta Ba ma da q) (l1 : na ≤ 1000) (l2 : ma ≤ 1000) (hsg : sg = 1 ∨ sg = -1) :
    Calls Tryz.prog 50 #[.slice A n c, .agg #[.bool sa, .slice Aa na ca, .bool ta, .slice Ba ma da], .int .i64 sg] w fun e w' => e = .returned (.tuple #[.int .i64 (leastOf (-sg) q xs), .int .i64 (mostOf (-sg) q xs)]) ∧ Ext w w' := by
  have HS := Lib.hid hs
  have HL := Lib.hid hs.1
  have HR := Lib.hid hr
  have HQ := Lib.hid h1
  clear hs hr h1
  go_enter Tryz.func50, Tryz.ntmps50
  go_wp2_with fail
  have k0 := Cell4.new (w) (w.heap.size) rfl (.bool sa) (.slice Aa na ca) (.bool ta) (.slice Ba ma da) 27
  have hE : Ext w ((w).alloc (.cells #[.bool sa, .slice Aa na ca, .bool ta, .slice Ba ma da] 27)) := (Ext.al Ext.rfl' _)
  generalize (w).alloc (.cells #[.bool sa, .slice Aa na ca, .bool ta, .slice Ba ma da] 27) = w1 at *
  have Ew1 := Lib.hid hE
  clear hE
  have Ka := Lib.hid k0
  clear k0
  go_loopw [8, 9, 10] (fun lo hi i wr => ∃ k : Nat, k ≤ n ∧ i = .int .i64 k ∧ lo = .int .i64 (leastOf (-sg) q (xs.take k)) ∧ hi = .int .i64 (mostOf (-sg) q (xs.take k)) ∧ Hid (Ext w1 wr)) (fun _ _ i _ => n - (intOf i).toNat)
  case atStart => exact ⟨0, by omega, rfl, rfl, rfl, Ext.rfl'⟩
  case round =>
    obtain ⟨k, hk, rfl, rfl, rfl, HEr⟩ := hrel
    by_cases hlt : k < n
    rotate_left
    · have hbv : decide ((k : Int) < (n : Int)) = false := by simp; omega
      have hbv2 : decide (k < n) = false := by simp; omega
      obtain rfl : k = n := by omega
      have HT : Hid (xs.take k = xs) := by unfold Hid; rw [← HL.out, List.take_length]
      rw [HT.out]
      go_wp2_with fail
      go_ret2
      exact ⟨rfl, (Ext.trans Ew1.out HEr.out)⟩
    · have hbv : decide ((k : Int) < (n : Int)) = true := by simp; omega
      have hbv2 : decide (k < n) = true := by simp; omega
      obtain ⟨b, off, rfl, hlb, hcell⟩ := HS.out.2 (by omega)
      obtain ⟨c1', c2'⟩ := hcell k hlt
      have HC1 := Lib.hid c1'
      have HC2 := Lib.hid c2'
      have hmem : xs.getD k (0, 0) ∈ xs := by simp [List.getD, show k < xs.length by rw [HL.out]; exact hlt]
      obtain ⟨r1, r2, r3, r4⟩ := HR.out _ hmem
      have hbd := will_bd (-sg) q (l := xs.take k) fun y hy => HR.out y (List.mem_of_mem_take hy)
      have hbs := sumQ_bd (l := xs.take k) fun y hy => HR.out y (List.mem_of_mem_take hy)
      have hlk : (xs.take k).length ≤ 3 := by simp; omega
      have HT1 : Hid (leastOf (-sg) q (xs.take (k + 1)) = leastOf (-sg) q (xs.take k) + (if cmpQ ((xs.getD k (0, 0)).2 : Int) q = -sg then (xs.getD k (0, 0)).1 else 0)) := by
        unfold Hid
        rw [take_snoc xs (0, 0) (by rw [HL.out]; exact hlt), leastOf_append]
        simp [leastOf]
      have HT2 : Hid (mostOf (-sg) q (xs.take (k + 1)) = mostOf (-sg) q (xs.take k) + (if cmpQ ((xs.getD k (0, 0)).2 : Int) q = -sg ∨ cmpQ ((xs.getD k (0, 0)).2 : Int) q = 0 then (xs.getD k (0, 0)).1 else 0)) := by
        unfold Hid
        rw [take_snoc xs (0, 0) (by rw [HL.out]; exact hlt), mostOf_append]
        simp [mostOf]
      generalize (xs.getD k (0, 0)).1 = qy at *
      generalize (xs.getD k (0, 0)).2 = py at *
      generalize leastOf (-sg) q (xs.take k) = lo at *
      generalize mostOf (-sg) q (xs.take k) = hi at *
      have hlo1 : 0 ≤ lo := hbd.1
      have hhi1 : lo ≤ hi := hbd.2.1
      have hhi2 : hi ≤ 3000000 := by omega
      clear hbd hbs hlk hmem c1' c2' hcell
      have hz0 : (0 : Int) ≤ (k : Int) := by omega
      have hzn : (k : Int) < (n : Int) := by omega
      go_wp2_with fail
      refine wp_region_lexS (C := InX wr.drew []) (by kernel_rfl) (by kernel_rfl) (inX_self _ _) ?_
      have hE : Ext wr wr.drew := Ext.rfl'.drew
      generalize wr.drew = w2 at *
      have Ew2 := Lib.hid hE
      clear hE
      have fa0 := fun z : ExtX w2 [] => z.cell (p := ⟨w.heap.size, 0, none⟩) (Ka.out.ext (Ext.trans HEr.out Ew2.out)).1.1 (by simp)
      have fa1 := fun z : ExtX w2 [] => z.cell (p := ⟨w.heap.size, 1, none⟩) (Ka.out.ext (Ext.trans HEr.out Ew2.out)).1.2.1 (by simp)
      have fa2 := fun z : ExtX w2 [] => z.cell (p := ⟨w.heap.size, 2, none⟩) (Ka.out.ext (Ext.trans HEr.out Ew2.out)).1.2.2.1 (by simp)
      have fa3 := fun z : ExtX w2 [] => z.cell (p := ⟨w.heap.size, 3, none⟩) (Ka.out.ext (Ext.trans HEr.out Ew2.out)).1.2.2.2 (by simp)
      have x4 := fun z : ExtX w2 [] => z.cell (p := ⟨b, off + k * 2 + 1, none⟩) (Ext.cellOf (Ext.trans Ew1.out (Ext.trans HEr.out Ew2.out)) HC2.out) (by simp)
      repeat (refine lexAt_still (by rfl) ?_; go_big_quiet_step (fail); refine wpQuiet_nil ?_)
      refine lexAt_move (by rfl) (by kernel_rfl) ?_
      go_wp2_with fail
      refine (rint_any py w2 ⟨by omega, by omega⟩).mono ?_
      rintro e w3 ⟨sy, Ay, ny, cy, ty, By, my, dy, rfl, hQ, hE⟩
      have Ew3 := Lib.hid hE
      clear hE
      have Qy := Lib.hid hQ
      clear hQ
      go_wp2_with fail
      refine And.intro (inX_of_ext _ Ew3.out) ?_
      repeat (refine lexAt_still (by rfl) ?_; go_big_quiet_step (fail); refine wpQuiet_nil ?_)
      refine lexAt_move (by rfl) (by kernel_rfl) ?_
      go_wp2_with fail
      refine (rqcmp_any sy Ay ny cy ty By my dy _ sa Aa na ca ta Ba ma da _ 1000 w3 (Qy.out.rarg (sz_small (z := py) (by omega) (by omega)) (by omega)) ((HQ.out.ext (Ext.trans Ew1.out (Ext.trans HEr.out (Ext.trans Ew2.out Ew3.out)))).rarg (by omega) (by omega)) (by omega)).mono ?_
      rintro e w4 ⟨rfl, hE⟩
      have Ew4 := Lib.hid hE
      clear hE
      have hcb : -1 ≤ cmpQ (py : Rat) q ∧ cmpQ (py : Rat) q ≤ 1 := by
        unfold cmpQ
        repeat' split
        all_goals omega
      obtain ⟨cv, hcv⟩ : ∃ v, cmpQ (py : Rat) q = v := ⟨_, rfl⟩
      rw [hcv] at hcb HT1 HT2 ⊢
      clear hcv
      obtain ⟨cw, hcw⟩ : ∃ v, sg * cv = v := ⟨_, rfl⟩
      have hwb : -1 ≤ cw ∧ cw ≤ 1 ∧ (cw < 0 ↔ cv = -sg) ∧ (cw ≤ 0 ↔ cv = -sg ∨ cv = 0) := by
        rcases hsg with e | e <;> subst e <;> omega
      have hw1 := hwb.1
      have hw2 := hwb.2.1
      have HWB := Lib.hid hwb.2.2
      clear hwb hcb
      go_wp2_with fail
      refine And.intro (inX_of_ext _ (Ext.trans Ew3.out Ew4.out)) ?_
      repeat (refine lexAt_still (by rfl) ?_; go_big_quiet_step (fail); refine wpQuiet_nil ?_)
      refine lexAt_nil ?_
      clear fa0 fa1 fa2 fa3 x4
      have xq := Ext.cellOf (Ext.trans Ew1.out (Ext.trans HEr.out (Ext.trans Ew2.out (Ext.trans Ew3.out Ew4.out)))) HC1.out
      have HEF := Lib.hid (Ext.trans HEr.out (Ext.trans Ew2.out (Ext.trans Ew3.out Ew4.out)))
      by_cases hneg : cw < 0
      · have hb1 : decide (cw < 0) = true := decide_eq_true hneg
        have hb2 : decide (cw ≤ 0) = true := decide_eq_true (by omega)
        rw [if_pos (HWB.out.1.1 hneg)] at HT1
        rw [if_pos (.inl (HWB.out.1.1 hneg))] at HT2
        clear hneg HWB hcw
        go_wp2_with fail
        go_roundw
        case rel => exact ⟨k + 1, by omega, by go_num, by rw [HT1.out], by rw [HT2.out], HEF.out⟩
        case measure => simp [intOf]; omega
      · have hb1 : decide (cw < 0) = false := decide_eq_false hneg
        have HC := Lib.hid (fun e => hneg (HWB.out.1.2 e))
        rw [if_neg HC.out, Int.add_zero] at HT1
        by_cases hle : cw ≤ 0
        · have hb2 : decide (cw ≤ 0) = true := decide_eq_true hle
          rw [if_pos (HWB.out.2.1 hle)] at HT2
          clear hneg hle HWB hcw HC
          go_wp2_with fail
          go_roundw
          case rel => exact ⟨k + 1, by omega, by go_num, by rw [HT1.out], by rw [HT2.out], HEF.out⟩
          case measure => simp [intOf]; omega
        · have hb2 : decide (cw ≤ 0) = false := decide_eq_false hle
          rw [if_neg (fun e => hle (HWB.out.2.2 e)), Int.add_zero] at HT2
          clear hneg hle HWB hcw HC
          go_wp2_with fail
          go_roundw
          case rel => exact ⟨k + 1, by omega, by go_num, by rw [HT1.out], by rw [HT2.out], HEF.out⟩
          case measure => simp [intOf]; omega
theorem ret3 {a b e a' b' e' : Int} (h1 : a = a') (h2 : b = b') (h3 : e = e') : Ending.returned (.tuple #[.int .i64 a, .int .i64 b, .int .i64 e]) = .returned (.tuple #[.int .i64 a', .int .i64 b', .int .i64 e']) := by rw [h1, h2, h3]
set_option maxRecDepth 100000 in
set_option maxHeartbeats 4000000 in
theorem rsupply_any (A : Option Addr) (n c : Nat) (xs : List (Int × Int)) (sa : Bool) (Aa : Option Addr) (na ca : Nat) (ta : Bool) (Ba : Option Addr) (ma da : Nat) (q : Rat) (w : World) (hs : StepsAt w A n xs) (hn : n ≤ maxLen) (h1 : QIs w sa Aa na ca ta Ba ma da q) (l1 : na ≤ 1000) (l2 : ma ≤ 1000) :
    Calls Tryz.prog 16 #[.slice A n c, .agg #[.bool sa, .slice Aa na ca, .bool ta, .slice Ba ma da]] w fun e w' => e = .returned (.tuple #[.int .i64 (wantL true xs q), .int .i64 (wantM true xs q), .int .i64 (chk true xs)]) ∧ Ext w w' := by
  have HS := Lib.hid hs
  have HQ := Lib.hid h1
  clear hs h1
  go_enter Tryz.func16, Tryz.ntmps16
  go_wp2_with fail
  have k0 := Cell4.new (w) (w.heap.size) rfl (.bool sa) (.slice Aa na ca) (.bool ta) (.slice Ba ma da) 27
  have hE : Ext w ((w).alloc (.cells #[.bool sa, .slice Aa na ca, .bool ta, .slice Ba ma da] 27)) := (Ext.al Ext.rfl' _)
  generalize (w).alloc (.cells #[.bool sa, .slice Aa na ca, .bool ta, .slice Ba ma da] 27) = w1 at *
  have Ew1 := Lib.hid hE
  clear hE
  have Ka := Lib.hid k0
  clear k0
  refine (rOffer_any A n c xs w1 (HS.out.below Ew1.out) hn).mono ?_
  rintro e w2 ⟨rfl, hE⟩
  have Ew2 := Lib.hid hE
  clear hE
  by_cases h0 : chk true xs = 0
  · obtain ⟨hl1, hl3, hr⟩ := chk_range h0
    have hn3 : n ≤ 3 := by rw [← HS.out.1]; exact hl3
    have HR := Lib.hid hr
    have HW : Hid (leastOf (-(1 : Int)) q xs = wantL true xs q ∧ mostOf (-(1 : Int)) q xs = wantM true xs q ∧ (0 : Int) = chk true xs) := by
      refine ⟨?_, ?_, h0.symm⟩
      · unfold wantL; rw [if_pos h0]; rfl
      · unfold wantM; rw [if_pos h0]; rfl
    rw [h0]
    clear h0 hl1 hl3 hr
    obtain ⟨⟨xa0, xa1, xa2, xa3⟩, -, za⟩ := (Ka.out.ext Ew2.out)
    go_wp2_with fail
    clear xa0 xa1 xa2 xa3 za
    refine (rwants_any A n c xs sa Aa na ca ta Ba ma da q 1 w2 (HS.out.below (Ext.trans Ew1.out Ew2.out)) hn3 HR.out (HQ.out.ext (Ext.trans Ew1.out Ew2.out)) l1 l2 (by omega)).mono ?_
    rintro e w3 ⟨rfl, hE⟩
    have Ew3 := Lib.hid hE
    clear hE
    go_wp2_with fail
    refine bodyPost_ret (by simp [results, Tryz.results16, go_sem]; rfl) rfl ?_
    exact ⟨ret3 HW.out.1 HW.out.2.1 HW.out.2.2, (Ext.trans Ew1.out (Ext.trans Ew2.out Ew3.out))⟩
  · have hb : (chk true xs != 0) = true := by simp [h0]
    have HW : Hid ((0 : Int) = wantL true xs q ∧ (0 : Int) = wantM true xs q) := by
      refine ⟨?_, ?_⟩
      · unfold wantL; rw [if_neg h0]
      · unfold wantM; rw [if_neg h0]
    clear h0
    obtain ⟨ck, hck⟩ : ∃ v, chk true xs = v := ⟨_, rfl⟩
    rw [hck] at hb ⊢
    have HCK := Lib.hid hck
    clear hck
    go_wp2_with fail
    refine bodyPost_ret (by simp [results, Tryz.results16, go_sem]; rfl) rfl ?_
    exact ⟨ret3 HW.out.1 HW.out.2 HCK.out.symm, (Ext.trans Ew1.out Ew2.out)⟩
set_option maxRecDepth 100000 in
set_option maxHeartbeats 4000000 in
theorem rdemand_any (A : Option Addr) (n c : Nat) (xs : List (Int × Int)) (sa : Bool) (Aa : Option Addr) (na ca : Nat) (ta : Bool) (Ba : Option Addr) (ma da : Nat) (q : Rat) (w : World) (hs : StepsAt w A n xs) (hn : n ≤ maxLen) (h1 : QIs w sa Aa na ca ta Ba ma da q) (l1 : na ≤ 1000) (l2 : ma ≤ 1000) :
    Calls Tryz.prog 18 #[.slice A n c, .agg #[.bool sa, .slice Aa na ca, .bool ta, .slice Ba ma da]] w fun e w' => e = .returned (.tuple #[.int .i64 (wantL false xs q), .int .i64 (wantM false xs q), .int .i64 (chk false xs)]) ∧ Ext w w' := by
  have HS := Lib.hid hs
  have HQ := Lib.hid h1
  clear hs h1
  go_enter Tryz.func18, Tryz.ntmps18
  go_wp2_with fail
  have k0 := Cell4.new (w) (w.heap.size) rfl (.bool sa) (.slice Aa na ca) (.bool ta) (.slice Ba ma da) 27
  have hE : Ext w ((w).alloc (.cells #[.bool sa, .slice Aa na ca, .bool ta, .slice Ba ma da] 27)) := (Ext.al Ext.rfl' _)
  generalize (w).alloc (.cells #[.bool sa, .slice Aa na ca, .bool ta, .slice Ba ma da] 27) = w1 at *
  have Ew1 := Lib.hid hE
  clear hE
  have Ka := Lib.hid k0
  clear k0
  refine (rBid_any A n c xs w1 (HS.out.below Ew1.out) hn).mono ?_
  rintro e w2 ⟨rfl, hE⟩
  have Ew2 := Lib.hid hE
  clear hE
  by_cases h0 : chk false xs = 0
  · obtain ⟨hl1, hl3, hr⟩ := chk_range h0
    have hn3 : n ≤ 3 := by rw [← HS.out.1]; exact hl3
    have HR := Lib.hid hr
    have HW : Hid (leastOf (-(-1 : Int)) q xs = wantL false xs q ∧ mostOf (-(-1 : Int)) q xs = wantM false xs q ∧ (0 : Int) = chk false xs) := by
      refine ⟨?_, ?_, h0.symm⟩
      · unfold wantL; rw [if_pos h0]; rfl
      · unfold wantM; rw [if_pos h0]; rfl
    rw [h0]
    clear h0 hl1 hl3 hr
    obtain ⟨⟨xa0, xa1, xa2, xa3⟩, -, za⟩ := (Ka.out.ext Ew2.out)
    go_wp2_with fail
    clear xa0 xa1 xa2 xa3 za
    refine (rwants_any A n c xs sa Aa na ca ta Ba ma da q (-1) w2 (HS.out.below (Ext.trans Ew1.out Ew2.out)) hn3 HR.out (HQ.out.ext (Ext.trans Ew1.out Ew2.out)) l1 l2 (by omega)).mono ?_
    rintro e w3 ⟨rfl, hE⟩
    have Ew3 := Lib.hid hE
    clear hE
    go_wp2_with fail
    refine bodyPost_ret (by simp [results, Tryz.results18, go_sem]; rfl) rfl ?_
    exact ⟨ret3 HW.out.1 HW.out.2.1 HW.out.2.2, (Ext.trans Ew1.out (Ext.trans Ew2.out Ew3.out))⟩
  · have hb : (chk false xs != 0) = true := by simp [h0]
    have HW : Hid ((0 : Int) = wantL false xs q ∧ (0 : Int) = wantM false xs q) := by
      refine ⟨?_, ?_⟩
      · unfold wantL; rw [if_neg h0]
      · unfold wantM; rw [if_neg h0]
    clear h0
    obtain ⟨ck, hck⟩ : ∃ v, chk false xs = v := ⟨_, rfl⟩
    rw [hck] at hb ⊢
    have HCK := Lib.hid hck
    clear hck
    go_wp2_with fail
    refine bodyPost_ret (by simp [results, Tryz.results18, go_sem]; rfl) rfl ?_
    exact ⟨ret3 HW.out.1 HW.out.2 HCK.out.symm, (Ext.trans Ew1.out Ew2.out)⟩
set_option maxRecDepth 100000 in
set_option maxHeartbeats 8000000 in
theorem rneg23_any (A : Option Addr) (n c : Nat) (xs : List (Int × Int)) (w : World) (hs : StepsAt w A n xs) (hn : n ≤ 100) :
    Calls Tryz.prog 26 #[.slice A n c] w fun e w' => ∃ A' c', e = .returned (.slice A' n c') ∧ StepsAt w' A' n (negL xs) ∧ n ≤ c' ∧ c' ≤ maxLen ∧ Ext w w' := by
  obtain ⟨i0, hi, hz0, hz1, hz2⟩ := info_parts info_step
  have HI0 := Lib.hid (And.intro hi (And.intro hz0 (And.intro hz1 hz2)))
  have HS := Lib.hid hs
  have HL := Lib.hid hs.1
  clear hi hz0 hz1 hz2 hs
  go_enter Tryz.func26, Tryz.ntmps26
  go_wp2_with fail
  go_loopw [3, 4] (fun v i wr => ∃ k : Nat, k ≤ n ∧ i = .int .i64 (k : Int) ∧ Hid (Ext w wr ∧ wr.ownsRow w.heap.size 47 2 v k (stepCells ((negL xs).take k)))) (fun _ i _ => n - (intOf i).toNat)
  case atStart => exact ⟨0, by omega, rfl, Ext.rfl', own_nil _ _ _ _⟩
  case round =>
    obtain ⟨k, hk, rfl, HI⟩ := hrel
    have HNL : Hid ((negL xs).length = n) := by unfold Hid; rw [show (negL xs).length = xs.length by simp [negL]]; exact HL.out
    by_cases hlt : k < n
    · have hbv : decide ((k : Int) < (n : Int)) = true := by simp; omega
      have hbv2 : decide (k < n) = true := by simp; omega
      have HE := Lib.hid HI.out.1
      have HO := Lib.hid HI.out.2
      clear HI
      obtain ⟨b, off, rfl, hlb, hcell⟩ := HS.out.2 (by omega)
      obtain ⟨c0, c1⟩ := hcell k hlt
      have HT : Hid ((negL xs).take (k + 1) = (negL xs).take k ++ [((xs.getD k (0, 0)).1, wrap64 (-(xs.getD k (0, 0)).2))]) := by
        unfold Hid
        rw [take_snoc _ (0, 0) (by rw [HNL.out]; exact hlt)]
        congr 2
        have hkx : k < xs.length := by rw [HL.out]; exact hlt
        simp [negL, negW, List.getD, hkx]
      generalize (xs.getD k (0, 0)).1 = x at *
      generalize (xs.getD k (0, 0)).2 = y at *
      have c0' := Ext.cellOf (Ext.trans HE.out (Ext.rfl' (w := wr)).drew) c0
      have c1' := Ext.cellOf (Ext.trans HE.out (Ext.rfl' (w := wr)).drew) c1
      have hnb : b ∉ u3.ownBlock.toList := by
        intro hm
        have := (own_lt HO.out (g := b) (by simpa using hm)).2
        omega
      have hz0 : (0 : Int) ≤ (k : Int) := by omega
      have hzn : (k : Int) < (n : Int) := by omega
      go_wp2_with fail
      refine wp_region_lex (C := InX wr.drew u3.ownBlock.toList) (by kernel_rfl) (by kernel_rfl) (inX_self _ _) ?_
      have x0 := fun z : ExtX wr.drew u3.ownBlock.toList => z.cell (p := ⟨b, off + k * 2, none⟩) c0' hnb
      have x1 := fun z : ExtX wr.drew u3.ownBlock.toList => z.cell (p := ⟨b, off + k * 2 + 1, none⟩) c1' hnb
      have HO2 : Hid (wr.drew.ownsRow w.heap.size 47 2 u3 k (stepCells ((negL xs).take k))) := HO.out
      have HE2 : Hid (Ext w wr.drew) := HE.out.drew
      clear c0 c1 c0' c1' HO HE hcell
      generalize wr.drew = wd at *
      repeat (refine wpLex_still (by rfl) ?_; go_big_quiet_step (fail); refine wpQuiet_nil ?_)
      refine wpLex_move (by rfl) (by rfl) ?_
      go_wp2_with fail
      obtain ⟨ny, hny⟩ : ∃ v, wrap64 (-y) = v := ⟨_, rfl⟩
      rw [hny] at HT ⊢
      clear hny
      refine And.intro (inX_of_ext _ (Ext.al Ext.rfl' _)) ?_
      have HO3 := Lib.hid (own_keep (w' := wd.alloc (.cells #[.int .i64 x, .int .i64 ny] 47)) HO2.out (fun g hg => Below.heap_alloc wd _ g (own_lt HO2.out hg).1))
      have HE3 : Hid (Ext w (wd.alloc (.cells #[.int .i64 x, .int .i64 ny] 47))) := Ext.al HE2.out _
      have HX3 := Lib.hid (inX_of_ext u3.ownBlock.toList (Ext.al (Ext.rfl' (w := wd)) (.cells #[.int .i64 x, .int .i64 ny] 47)))
      have HNW := Lib.hid (World.news_of_block (cs := #[.int .i64 x, .int .i64 ny]) (t := 47) (fr := (0, 0)) (heap_alloc_new wd (.cells #[.int .i64 x, .int .i64 ny] 47)))
      generalize wd.alloc (.cells #[.int .i64 x, .int .i64 ny] 47) = w3 at *
      refine wpLex_move (by rfl) (by rfl) ?_
      refine wpList_append_atW _ rfl (.tmp 11) (.tmp 24) 22 rfl w.heap.size 47 i0 _ 2 16 Tryz.underlying22 HI0.out.1 HI0.out.2.1 HI0.out.2.2.1 HI0.out.2.2.2 rfl (by omega) u3 k _ rfl HO3.out ⟨wd.heap.size, 0, none⟩ 1 1 [.int .i64 x, .int .i64 ny] rfl rfl HNW.out (by simp [Value.oneCell']) (.inr (by omega)) (by simp [maxLen]; omega) (by omega) (HE3.out.size) ?_
      intro g cap w4 hown hgr hgg
      go_wp2_with fail
      refine And.intro (inX_grown HX3.out hgr (fun g hg => by simpa using hg)) ?_
      repeat (refine wpLex_still (by rfl) ?_; go_big_quiet_step (fail); refine wpQuiet_nil ?_)
      refine wpLex_nil ?_
      have HO4 : Hid (Ext w w4 ∧ w4.ownsRow w.heap.size 47 2 (.slice (some ⟨g, 0, none⟩) (k + 1) cap) (k + 1) (stepCells ((negL xs).take (k + 1)))) := by
        refine ⟨ext_grownW HE3.out hgr (fun g hg => (own_lt HO3.out hg).2), ?_⟩
        rw [HT.out, stepCells_append]
        exact hown
      clear hown hgr hgg HO3 HO2 HNW HX3 x0 x1
      go_wp2_with fail
      go_roundw
      case rel => exact ⟨k + 1, by omega, by go_num, HO4.out.1, HO4.out.2⟩
      case measure => simp [intOf]; omega
    · have hbv : decide ((k : Int) < (n : Int)) = false := by simp; omega
      have hbv2 : decide (k < n) = false := by simp; omega
      obtain rfl : k = n := by omega
      obtain ⟨hE, hown⟩ := HI.out
      rw [show (negL xs).take k = negL xs by rw [← HNL.out, List.take_length]] at hown
      obtain ⟨A', c', rfl, h1, h3, h4⟩ := own_steps hown
      have HH := Lib.hid h4
      have HEX := Lib.hid hE
      clear HI hown h4 hE
      go_wp2_with fail
      go_ret
      exact ⟨_, _, rfl, HH.out, h1, h3, HEX.out⟩
end Go.Proofs.YtppcpklnnbgcjaaGreat
