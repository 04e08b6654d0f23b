/- The walk of the law StepOptimalQuantities. Printed by gen_opt.py. -/
import Derived.Test.YtppcpklnnbgcjaaAwake23
import Derived.Test.YtppcpklnnbgcjaaLong23
import Derived.Test.YtppcpklnnbgcjaaOptQ
import Derived.Test.YtppcpklnnbgcjaaVarQ
namespace Go.Proofs.Ytppcpklnnbgcjaa
open Go.RowKit

theorem bools2 (w : World) (t : TypeId) : Blk (w.alloc (.cells #[.bool false, .bool true] t)) w.heap.size t #[.bool false, .bool true] := Blk.new w t _
theorem sz_profit {xs : List (Int × Int)} {p q : Rat} {k l : Nat} (bid : Bool) (hp : Sz k p) (hq : Sz l q) (hq2 : Sz 1000 q) : Sz (k + l + 8024 + 1) (profit xs p q bid) := by
  have h1 := (hp.mul hq).sub (sz_costV (xs := xs) hq2)
  unfold profit
  cases bid
  · exact h1
  · exact h1.neg
set_option maxRecDepth 100000 in
set_option maxHeartbeats 16000000 in
theorem opt_any (A : Option Addr) (n c : Nat) (xs : List (Int × Int)) (s1 : Bool) (A1 : Option Addr) (n1 c1 : Nat) (t1 : Bool) (B1 : Option Addr) (m1 d1 : Nat) (p : Rat) (s2 : Bool) (A2 : Option Addr) (n2 c2 : Nat) (t2 : Bool) (B2 : Option Addr) (m2 d2 : Nat) (q : Rat) (w : World) (hs : StepsAt w A n xs) (hn : n ≤ maxLen) (h1 : QIs w s1 A1 n1 c1 t1 B1 m1 d1 p) (h2 : QIs w s2 A2 n2 c2 t2 B2 m2 d2 q) :
    Calls Try.prog 7 #[.slice A n c, .agg #[.bool s1, .slice A1 n1 c1, .bool t1, .slice B1 m1 d1], .agg #[.bool s2, .slice A2 n2 c2, .bool t2, .slice B2 m2 d2]] w fun e w' => e = .returned (.bool true) ∧ Ext w w' := by
  have HS := Lib.hid hs
  have H1 := Lib.hid h1
  have H2 := Lib.hid h2
  have HBL : Hid ((n1 ≤ maxLen ∧ m1 ≤ maxLen) ∧ n2 ≤ maxLen ∧ m2 ≤ maxLen) := by
    obtain ⟨z, y, ⟨_, _, a1, a2, _⟩, ⟨_, _, a3, a4, _⟩, _⟩ := h1
    obtain ⟨z', y', ⟨_, _, b1, b2, _⟩, ⟨_, _, b3, b4, _⟩, _⟩ := h2
    exact ⟨⟨by omega, by omega⟩, by omega, by omega⟩
  clear hs h1 h2
  by_cases h100 : 100 < n
  · have hb : decide ((100 : Int) < (n : Int)) = true := by simp; omega
    have hb2 : decide (100 < n) = true := by simp; omega
    go_enter Try.func7, Try.ntmps7
    go_wp2_with fail
    obtain ⟨k1, k2, hE⟩ := boxQ2 w (.bool s1) (.slice A1 n1 c1) (.bool t1) (.slice B1 m1 d1) (.bool s2) (.slice A2 n2 c2) (.bool t2) (.slice B2 m2 d2) 33
    generalize (w.alloc (.cells #[.bool s1, .slice A1 n1 c1, .bool t1, .slice B1 m1 d1] 33)).alloc (.cells #[.bool s2, .slice A2 n2 c2, .bool t2, .slice B2 m2 d2] 33) = wb1 at *
    have Ewb1 := Lib.hid hE
    clear hE
    have K1 := Lib.hid k1
    have K2 := Lib.hid k2
    clear k1 k2
    refine wp_region_lexS (C := InX wb1.drew []) (by kernel_rfl) (by kernel_rfl) (inX_self _ _) ?_
    have hE : Ext wb1 wb1.drew := Ext.rfl'.drew
    generalize wb1.drew = w1 at *
    have Ew1 := Lib.hid hE
    clear hE
    have f10 := fun z : ExtX w1 [] => z.cell (p := ⟨w.heap.size, 0, none⟩) (K1.out.ext Ew1.out).1.1 (by simp)
    have f11 := fun z : ExtX w1 [] => z.cell (p := ⟨w.heap.size, 1, none⟩) (K1.out.ext Ew1.out).1.2.1 (by simp)
    have f12 := fun z : ExtX w1 [] => z.cell (p := ⟨w.heap.size, 2, none⟩) (K1.out.ext Ew1.out).1.2.2.1 (by simp)
    have f13 := fun z : ExtX w1 [] => z.cell (p := ⟨w.heap.size, 3, none⟩) (K1.out.ext Ew1.out).1.2.2.2 (by simp)
    have f20 := fun z : ExtX w1 [] => z.cell (p := ⟨w.heap.size + 1, 0, none⟩) (K2.out.ext Ew1.out).1.1 (by simp)
    have f21 := fun z : ExtX w1 [] => z.cell (p := ⟨w.heap.size + 1, 1, none⟩) (K2.out.ext Ew1.out).1.2.1 (by simp)
    have f22 := fun z : ExtX w1 [] => z.cell (p := ⟨w.heap.size + 1, 2, none⟩) (K2.out.ext Ew1.out).1.2.2.1 (by simp)
    have f23 := fun z : ExtX w1 [] => z.cell (p := ⟨w.heap.size + 1, 3, none⟩) (K2.out.ext Ew1.out).1.2.2.2 (by simp)
    repeat (refine lexAt_still (by rfl) ?_; go_big_quiet_step (fail); refine wpQuiet_nil ?_)
    refine lexAt_skip (by kernel_rfl) ?_
    simp only [Act.put, List.setIfInBounds_toArray, List.set_cons_succ, List.set_cons_zero]
    repeat (refine lexAt_still (by rfl) ?_; go_big_quiet_step (fail); refine wpQuiet_nil ?_)
    refine lexAt_skip (by kernel_rfl) ?_
    simp only [Act.put, List.setIfInBounds_toArray, List.set_cons_succ, List.set_cons_zero]
    repeat (refine lexAt_still (by rfl) ?_; go_big_quiet_step (fail); refine wpQuiet_nil ?_)
    refine lexAt_skip (by kernel_rfl) ?_
    simp only [Act.put, List.setIfInBounds_toArray, List.set_cons_succ, List.set_cons_zero]
    repeat (refine lexAt_still (by rfl) ?_; go_big_quiet_step (fail); refine wpQuiet_nil ?_)
    refine lexAt_skip (by kernel_rfl) ?_
    simp only [Act.put, List.setIfInBounds_toArray, List.set_cons_succ, List.set_cons_zero]
    repeat (refine lexAt_still (by rfl) ?_; go_big_quiet_step (fail); refine wpQuiet_nil ?_)
    refine lexAt_skip (by kernel_rfl) ?_
    simp only [Act.put, List.setIfInBounds_toArray, List.set_cons_succ, List.set_cons_zero]
    repeat (refine lexAt_still (by rfl) ?_; go_big_quiet_step (fail); refine wpQuiet_nil ?_)
    refine lexAt_skip (by kernel_rfl) ?_
    simp only [Act.put, List.setIfInBounds_toArray, List.set_cons_succ, List.set_cons_zero]
    repeat (refine lexAt_still (by rfl) ?_; go_big_quiet_step (fail); refine wpQuiet_nil ?_)
    refine lexAt_skip (by kernel_rfl) ?_
    simp only [Act.put, List.setIfInBounds_toArray, List.set_cons_succ, List.set_cons_zero]
    repeat (refine lexAt_still (by rfl) ?_; go_big_quiet_step (fail); refine wpQuiet_nil ?_)
    refine lexAt_skip (by kernel_rfl) ?_
    simp only [Act.put, List.setIfInBounds_toArray, List.set_cons_succ, List.set_cons_zero]
    repeat (refine lexAt_still (by rfl) ?_; go_big_quiet_step (fail); refine wpQuiet_nil ?_)
    refine lexAt_nil ?_
    clear f10 f11 f12 f13 f20 f21 f22 f23
    go_wp2_with fail
    refine (awake_any w1).mono ?_
    rintro e wz ⟨rfl, hEz⟩
    go_wp2_with fail
    go_ret
    exact ⟨rfl, Ext.trans (Ext.trans Ewb1.out Ew1.out) hEz⟩
  have hb : decide ((100 : Int) < (n : Int)) = false := by simp; omega
  have hb2 : decide (100 < n) = false := by simp; omega
  go_enter Try.func7, Try.ntmps7
  go_wp2_with fail
  obtain ⟨k1, k2, hE⟩ := boxQ2 w (.bool s1) (.slice A1 n1 c1) (.bool t1) (.slice B1 m1 d1) (.bool s2) (.slice A2 n2 c2) (.bool t2) (.slice B2 m2 d2) 33
  generalize (w.alloc (.cells #[.bool s1, .slice A1 n1 c1, .bool t1, .slice B1 m1 d1] 33)).alloc (.cells #[.bool s2, .slice A2 n2 c2, .bool t2, .slice B2 m2 d2] 33) = wb1 at *
  have Ewb1 := Lib.hid hE
  clear hE
  have K1 := Lib.hid k1
  have K2 := Lib.hid k2
  clear k1 k2
  refine wp_region_lexS (C := InX wb1.drew []) (by kernel_rfl) (by kernel_rfl) (inX_self _ _) ?_
  have hE : Ext wb1 wb1.drew := Ext.rfl'.drew
  generalize wb1.drew = w2 at *
  have Ew2 := Lib.hid hE
  clear hE
  have f10 := fun z : ExtX w2 [] => z.cell (p := ⟨w.heap.size, 0, none⟩) (K1.out.ext Ew2.out).1.1 (by simp)
  have f11 := fun z : ExtX w2 [] => z.cell (p := ⟨w.heap.size, 1, none⟩) (K1.out.ext Ew2.out).1.2.1 (by simp)
  have f12 := fun z : ExtX w2 [] => z.cell (p := ⟨w.heap.size, 2, none⟩) (K1.out.ext Ew2.out).1.2.2.1 (by simp)
  have f13 := fun z : ExtX w2 [] => z.cell (p := ⟨w.heap.size, 3, none⟩) (K1.out.ext Ew2.out).1.2.2.2 (by simp)
  have f20 := fun z : ExtX w2 [] => z.cell (p := ⟨w.heap.size + 1, 0, none⟩) (K2.out.ext Ew2.out).1.1 (by simp)
  have f21 := fun z : ExtX w2 [] => z.cell (p := ⟨w.heap.size + 1, 1, none⟩) (K2.out.ext Ew2.out).1.2.1 (by simp)
  have f22 := fun z : ExtX w2 [] => z.cell (p := ⟨w.heap.size + 1, 2, none⟩) (K2.out.ext Ew2.out).1.2.2.1 (by simp)
  have f23 := fun z : ExtX w2 [] => z.cell (p := ⟨w.heap.size + 1, 3, none⟩) (K2.out.ext Ew2.out).1.2.2.2 (by simp)
  repeat (refine lexAt_still (by rfl) ?_; go_big_quiet_step (fail); refine wpQuiet_nil ?_)
  refine lexAt_move (by rfl) (by kernel_rfl) ?_
  go_wp2_with fail
  have hbk := Blk.new w2 33 #[.bool s1, .slice A1 n1 c1, .bool t1, .slice B1 m1 d1, .bool s2, .slice A2 n2 c2, .bool t2, .slice B2 m2 d2]
  have hE : Ext w2 (w2.alloc (.cells #[.bool s1, .slice A1 n1 c1, .bool t1, .slice B1 m1 d1, .bool s2, .slice A2 n2 c2, .bool t2, .slice B2 m2 d2] 33)) := Ext.al Ext.rfl' _
  generalize w2.alloc (.cells #[.bool s1, .slice A1 n1 c1, .bool t1, .slice B1 m1 d1, .bool s2, .slice A2 n2 c2, .bool t2, .slice B2 m2 d2] 33) = w3 at *
  have Ew3 := Lib.hid hE
  clear hE
  refine And.intro (inX_of_ext _ Ew3.out) ?_
  repeat (refine lexAt_still (by rfl) ?_; go_big_quiet_step (fail); refine wpQuiet_nil ?_)
  refine lexAt_move (by rfl) (by kernel_rfl) ?_
  go_wp2_with fail
  refine (long_any w2.heap.size 2 2 (fun i => if i = 0 then (n1, m1) else (n2, m2)) w3 ?_ (by omega) ?_).mono ?_
  · intro i hi
    have : i = 0 ∨ i = 1 := by omega
    rcases this with rfl | rfl
    · exact ⟨A1, c1, B1, d1, by rw [hbk.cell]; rfl, by rw [hbk.cell]; rfl⟩
    · exact ⟨A2, c2, B2, d2, by rw [hbk.cell]; rfl, by rw [hbk.cell]; rfl⟩
  · intro i
    by_cases e : i = 0
    · simp only [if_pos e]; exact HBL.out.1
    · simp only [if_neg e]; exact HBL.out.2
  rintro e w4 ⟨⟨bl, rfl, hbl⟩, hE⟩
  have Ew4 := Lib.hid hE
  clear hE
  have HLN : Hid (bl = false → ((n1 ≤ 6 ∧ m1 ≤ 6) ∧ n2 ≤ 6 ∧ m2 ≤ 6)) := fun e => ⟨hbl.1 e 0 (by omega), hbl.1 e 1 (by omega)⟩
  clear hbk hbl HBL
  cases bl
  rotate_left
  · skip
    go_wp2_with fail
    refine And.intro (inX_of_ext _ (Ext.trans Ew3.out Ew4.out)) ?_
    repeat (refine lexAt_still (by rfl) ?_; go_big_quiet_step (fail); refine wpQuiet_nil ?_)
    refine lexAt_skip (by kernel_rfl) ?_
    simp only [Act.put, List.setIfInBounds_toArray, List.set_cons_succ, List.set_cons_zero]
    repeat (refine lexAt_still (by rfl) ?_; go_big_quiet_step (fail); refine wpQuiet_nil ?_)
    refine lexAt_skip (by kernel_rfl) ?_
    simp only [Act.put, List.setIfInBounds_toArray, List.set_cons_succ, List.set_cons_zero]
    repeat (refine lexAt_still (by rfl) ?_; go_big_quiet_step (fail); refine wpQuiet_nil ?_)
    refine lexAt_skip (by kernel_rfl) ?_
    simp only [Act.put, List.setIfInBounds_toArray, List.set_cons_succ, List.set_cons_zero]
    repeat (refine lexAt_still (by rfl) ?_; go_big_quiet_step (fail); refine wpQuiet_nil ?_)
    refine lexAt_skip (by kernel_rfl) ?_
    simp only [Act.put, List.setIfInBounds_toArray, List.set_cons_succ, List.set_cons_zero]
    repeat (refine lexAt_still (by rfl) ?_; go_big_quiet_step (fail); refine wpQuiet_nil ?_)
    refine lexAt_skip (by kernel_rfl) ?_
    simp only [Act.put, List.setIfInBounds_toArray, List.set_cons_succ, List.set_cons_zero]
    repeat (refine lexAt_still (by rfl) ?_; go_big_quiet_step (fail); refine wpQuiet_nil ?_)
    refine lexAt_skip (by kernel_rfl) ?_
    simp only [Act.put, List.setIfInBounds_toArray, List.set_cons_succ, List.set_cons_zero]
    repeat (refine lexAt_still (by rfl) ?_; go_big_quiet_step (fail); refine wpQuiet_nil ?_)
    refine lexAt_nil ?_
    clear f10 f11 f12 f13 f20 f21 f22 f23
    go_wp2_with fail
    refine (awake_any w4).mono ?_
    rintro e wz ⟨rfl, hEz⟩
    go_wp2_with fail
    go_ret
    exact ⟨rfl, Ext.trans (Ext.trans Ewb1.out (Ext.trans Ew2.out (Ext.trans Ew3.out Ew4.out))) hEz⟩
  obtain ⟨⟨ln1, lm1⟩, ln2, lm2⟩ := HLN.out rfl
  clear HLN
  have HZ1 : Hid (Sz 6 p) := H1.out.sz (by omega) (by omega) (by omega)
  have HZ2 : Hid (Sz 6 q) := H2.out.sz (by omega) (by omega) (by omega)
  go_wp2_with fail
  refine And.intro (inX_of_ext _ (Ext.trans Ew3.out Ew4.out)) ?_
  repeat (refine lexAt_still (by rfl) ?_; go_big_quiet_step (fail); refine wpQuiet_nil ?_)
  refine lexAt_move (by rfl) (by kernel_rfl) ?_
  go_wp2_with fail
  refine (curve_any A n c xs w4 (HS.out.below (Ext.trans Ewb1.out (Ext.trans Ew2.out (Ext.trans Ew3.out Ew4.out)))) hn).mono ?_
  rintro e w5 ⟨rfl, hE⟩
  have Ew5 := Lib.hid hE
  clear hE
  by_cases h0 : crv xs = 0
  rotate_left
  · rw [decide_eq_false h0]
    go_wp2_with fail
    refine And.intro (inX_of_ext _ (Ext.trans Ew3.out (Ext.trans Ew4.out Ew5.out))) ?_
    repeat (refine lexAt_still (by rfl) ?_; go_big_quiet_step (fail); refine wpQuiet_nil ?_)
    refine lexAt_skip (by kernel_rfl) ?_
    simp only [Act.put, List.setIfInBounds_toArray, List.set_cons_succ, List.set_cons_zero]
    repeat (refine lexAt_still (by rfl) ?_; go_big_quiet_step (fail); refine wpQuiet_nil ?_)
    refine lexAt_skip (by kernel_rfl) ?_
    simp only [Act.put, List.setIfInBounds_toArray, List.set_cons_succ, List.set_cons_zero]
    repeat (refine lexAt_still (by rfl) ?_; go_big_quiet_step (fail); refine wpQuiet_nil ?_)
    refine lexAt_skip (by kernel_rfl) ?_
    simp only [Act.put, List.setIfInBounds_toArray, List.set_cons_succ, List.set_cons_zero]
    repeat (refine lexAt_still (by rfl) ?_; go_big_quiet_step (fail); refine wpQuiet_nil ?_)
    refine lexAt_skip (by kernel_rfl) ?_
    simp only [Act.put, List.setIfInBounds_toArray, List.set_cons_succ, List.set_cons_zero]
    repeat (refine lexAt_still (by rfl) ?_; go_big_quiet_step (fail); refine wpQuiet_nil ?_)
    refine lexAt_skip (by kernel_rfl) ?_
    simp only [Act.put, List.setIfInBounds_toArray, List.set_cons_succ, List.set_cons_zero]
    repeat (refine lexAt_still (by rfl) ?_; go_big_quiet_step (fail); refine wpQuiet_nil ?_)
    refine lexAt_nil ?_
    clear f10 f11 f12 f13 f20 f21 f22 f23
    go_wp2_with fail
    refine (awake_any w5).mono ?_
    rintro e wz ⟨rfl, hEz⟩
    go_wp2_with fail
    go_ret
    exact ⟨rfl, Ext.trans (Ext.trans Ewb1.out (Ext.trans Ew2.out (Ext.trans Ew3.out (Ext.trans Ew4.out Ew5.out)))) hEz⟩
  rw [decide_eq_true h0]
  have H0 := Lib.hid h0
  clear h0
  have HSN := Lib.hid (sign_neg_iff q)
  have HTB := Lib.hid (total_bd xs)
  go_wp2_with fail
  refine And.intro (inX_of_ext _ (Ext.trans Ew3.out (Ext.trans Ew4.out Ew5.out))) ?_
  repeat (refine lexAt_still (by rfl) ?_; go_big_quiet_step (fail); refine wpQuiet_nil ?_)
  refine lexAt_move (by rfl) (by kernel_rfl) ?_
  go_wp2_with fail
  refine (qsign_any s2 A2 n2 c2 t2 B2 m2 d2 _ w5 (H2.out.ext (Ext.trans Ewb1.out (Ext.trans Ew2.out (Ext.trans Ew3.out (Ext.trans Ew4.out Ew5.out)))))).mono ?_
  rintro e w6 ⟨rfl, hE⟩
  have Ew6 := Lib.hid hE
  clear hE
  obtain ⟨sg, hsg⟩ : ∃ x, Int.sign (Rat.num q) = x := ⟨_, rfl⟩
  rw [hsg]
  have Hsg := Lib.hid hsg
  clear hsg
  by_cases hneg : q < 0
  · have hb3 : decide (sg < 0) = true := by rw [← Hsg.out]; exact decide_eq_true (HSN.out.2 hneg)
    clear hneg
    go_wp2_with fail
    refine And.intro (inX_of_ext _ (Ext.trans Ew3.out (Ext.trans Ew4.out (Ext.trans Ew5.out Ew6.out)))) ?_
    repeat (refine lexAt_still (by rfl) ?_; go_big_quiet_step (fail); refine wpQuiet_nil ?_)
    refine lexAt_skip (by kernel_rfl) ?_
    simp only [Act.put, List.setIfInBounds_toArray, List.set_cons_succ, List.set_cons_zero]
    repeat (refine lexAt_still (by rfl) ?_; go_big_quiet_step (fail); refine wpQuiet_nil ?_)
    refine lexAt_skip (by kernel_rfl) ?_
    simp only [Act.put, List.setIfInBounds_toArray, List.set_cons_succ, List.set_cons_zero]
    repeat (refine lexAt_still (by rfl) ?_; go_big_quiet_step (fail); refine wpQuiet_nil ?_)
    refine lexAt_skip (by kernel_rfl) ?_
    simp only [Act.put, List.setIfInBounds_toArray, List.set_cons_succ, List.set_cons_zero]
    repeat (refine lexAt_still (by rfl) ?_; go_big_quiet_step (fail); refine wpQuiet_nil ?_)
    refine lexAt_skip (by kernel_rfl) ?_
    simp only [Act.put, List.setIfInBounds_toArray, List.set_cons_succ, List.set_cons_zero]
    repeat (refine lexAt_still (by rfl) ?_; go_big_quiet_step (fail); refine wpQuiet_nil ?_)
    refine lexAt_nil ?_
    clear f10 f11 f12 f13 f20 f21 f22 f23
    go_wp2_with fail
    refine (awake_any w6).mono ?_
    rintro e wz ⟨rfl, hEz⟩
    go_wp2_with fail
    go_ret
    exact ⟨rfl, Ext.trans (Ext.trans Ewb1.out (Ext.trans Ew2.out (Ext.trans Ew3.out (Ext.trans Ew4.out (Ext.trans Ew5.out Ew6.out))))) hEz⟩
  have hb3 : decide (sg < 0) = false := by rw [← Hsg.out]; exact decide_eq_false (fun e => hneg (HSN.out.1 e))
  have HQ0 : Hid (0 ≤ q) := Rat.not_lt.1 hneg
  clear hneg
  go_wp2_with fail
  refine And.intro (inX_of_ext _ (Ext.trans Ew3.out (Ext.trans Ew4.out (Ext.trans Ew5.out Ew6.out)))) ?_
  repeat (refine lexAt_still (by rfl) ?_; go_big_quiet_step (fail); refine wpQuiet_nil ?_)
  refine lexAt_move (by rfl) (by kernel_rfl) ?_
  go_wp2_with fail
  refine (sum_any A n c xs w6 (HS.out.below (Ext.trans Ewb1.out (Ext.trans Ew2.out (Ext.trans Ew3.out (Ext.trans Ew4.out (Ext.trans Ew5.out Ew6.out)))))) hn).mono ?_
  rintro e w7 ⟨rfl, hE⟩
  have Ew7 := Lib.hid hE
  clear hE
  obtain ⟨tt, htt⟩ : ∃ x, total xs = x := ⟨_, rfl⟩
  rw [htt]
  have Htt := Lib.hid htt
  clear htt
  go_wp2_with fail
  refine And.intro (inX_of_ext _ (Ext.trans Ew3.out (Ext.trans Ew4.out (Ext.trans Ew5.out (Ext.trans Ew6.out Ew7.out))))) ?_
  repeat (refine lexAt_still (by rfl) ?_; go_big_quiet_step (fail); refine wpQuiet_nil ?_)
  have ht1 : 0 ≤ tt := by rw [← Htt.out]; exact HTB.out.1
  have ht2 : tt ≤ 3000000 := by rw [← Htt.out]; exact HTB.out.2
  refine lexAt_move (by rfl) (by kernel_rfl) ?_
  go_wp2_with fail
  refine (qfrom_any tt w7 ⟨by omega, by omega⟩).mono ?_
  rintro e w8 ⟨sb, Ab, nb, cb, tb, Bb, mb, db, rfl, hQ, hE⟩
  have Ew8 := Lib.hid hE
  clear hE
  have Qb := Lib.hid hQ
  clear hQ
  go_wp2_with fail
  refine And.intro (inX_of_ext _ (Ext.trans Ew3.out (Ext.trans Ew4.out (Ext.trans Ew5.out (Ext.trans Ew6.out (Ext.trans Ew7.out Ew8.out)))))) ?_
  repeat (refine lexAt_still (by rfl) ?_; go_big_quiet_step (fail); refine wpQuiet_nil ?_)
  refine lexAt_move (by rfl) (by kernel_rfl) ?_
  go_wp2_with fail
  refine (qcmp_any s2 A2 n2 c2 t2 B2 m2 d2 _ sb Ab nb cb tb Bb mb db _ w8 ⟨(H2.out.ext (Ext.trans Ewb1.out (Ext.trans Ew2.out (Ext.trans Ew3.out (Ext.trans Ew4.out (Ext.trans Ew5.out (Ext.trans Ew6.out (Ext.trans Ew7.out Ew8.out)))))))), by omega, by omega⟩ (Qb.out.arg (sz_small (z := tt) (by omega) (by omega)) (by omega))).mono ?_
  rintro e w9 ⟨rfl, hE⟩
  have Ew9 := Lib.hid hE
  clear hE
  obtain ⟨cm, hcm⟩ : ∃ x, cmpQ q ((tt : Int) : Rat) = x := ⟨_, rfl⟩
  rw [hcm]
  have Hcm := Lib.hid hcm
  clear hcm
  by_cases hgt : ((tt : Int) : Rat) < q
  · have hb4 : decide (0 < cm) = true := by
      have : 0 < cm := by rw [← Hcm.out]; exact (cmpQ_pos _ _).2 hgt
      simp; omega
    clear hgt
    go_wp2_with fail
    refine And.intro (inX_of_ext _ (Ext.trans Ew3.out (Ext.trans Ew4.out (Ext.trans Ew5.out (Ext.trans Ew6.out (Ext.trans Ew7.out (Ext.trans Ew8.out Ew9.out))))))) ?_
    repeat (refine lexAt_still (by rfl) ?_; go_big_quiet_step (fail); refine wpQuiet_nil ?_)
    refine lexAt_skip (by kernel_rfl) ?_
    simp only [Act.put, List.setIfInBounds_toArray, List.set_cons_succ, List.set_cons_zero]
    repeat (refine lexAt_still (by rfl) ?_; go_big_quiet_step (fail); refine wpQuiet_nil ?_)
    refine lexAt_nil ?_
    clear f10 f11 f12 f13 f20 f21 f22 f23
    go_wp2_with fail
    refine (awake_any w9).mono ?_
    rintro e wz ⟨rfl, hEz⟩
    go_wp2_with fail
    go_ret
    exact ⟨rfl, Ext.trans (Ext.trans Ewb1.out (Ext.trans Ew2.out (Ext.trans Ew3.out (Ext.trans Ew4.out (Ext.trans Ew5.out (Ext.trans Ew6.out (Ext.trans Ew7.out (Ext.trans Ew8.out Ew9.out)))))))) hEz⟩
  have hb4 : decide (0 < cm) = false := by
    have : ¬ 0 < cm := by rw [← Hcm.out]; exact fun e => hgt ((cmpQ_pos _ _).1 e)
    simp; omega
  have HQ1 : Hid (q ≤ ((total xs : Int) : Rat)) := by unfold Hid; rw [Htt.out]; exact Rat.not_lt.1 hgt
  clear hgt
  go_wp2_with fail
  refine And.intro (inX_of_ext _ (Ext.trans Ew3.out (Ext.trans Ew4.out (Ext.trans Ew5.out (Ext.trans Ew6.out (Ext.trans Ew7.out (Ext.trans Ew8.out Ew9.out))))))) ?_
  repeat (refine lexAt_still (by rfl) ?_; go_big_quiet_step (fail); refine wpQuiet_nil ?_)
  refine lexAt_move (by rfl) (by kernel_rfl) ?_
  go_wp2_with fail
  refine (awake_any w9).mono ?_
  rintro e w10 ⟨rfl, hE⟩
  have Ew10 := Lib.hid hE
  clear hE
  go_wp2_with fail
  refine And.intro (inX_of_ext _ (Ext.trans Ew3.out (Ext.trans Ew4.out (Ext.trans Ew5.out (Ext.trans Ew6.out (Ext.trans Ew7.out (Ext.trans Ew8.out (Ext.trans Ew9.out Ew10.out)))))))) ?_
  repeat (refine lexAt_still (by rfl) ?_; go_big_quiet_step (fail); refine wpQuiet_nil ?_)
  refine lexAt_nil ?_
  clear f10 f11 f12 f13 f20 f21 f22 f23
  go_wp2_with fail
  have hbk := bools2 w10 4
  have hE : Ext w10 (w10.alloc (.cells #[.bool false, .bool true] 4)) := Ext.al Ext.rfl' _
  generalize w10.alloc (.cells #[.bool false, .bool true] 4) = w11 at *
  have Ew11 := Lib.hid hE
  clear hE
  have hb20 : w11.cell? ⟨w10.heap.size, 0, none⟩ = some (.bool false) := by rw [hbk.cell]; rfl
  have hb21 : w11.cell? ⟨w10.heap.size, 1, none⟩ = some (.bool true) := by rw [hbk.cell]; rfl
  have HB0 := Lib.hid hb20
  have HB1 := Lib.hid hb21
  clear hbk hb20 hb21
  go_loopw [50] (fun i wr => ∃ k : Nat, k ≤ 2 ∧ i = .int .i64 k ∧ Hid (Ext w11 wr)) (fun i _ => 2 - (intOf i).toNat)
  case atStart => exact ⟨0, by omega, rfl, Ext.rfl'⟩
  case round =>
    obtain ⟨k, hk, rfl, HEr⟩ := hrel
    have hk3 : k = 0 ∨ k = 1 ∨ k = 2 := by omega
    rcases hk3 with rfl | rfl | rfl
    · have hcell := Ext.cellOf HEr.out HB0.out
      obtain ⟨⟨x10, x11, x12, x13⟩, -, z1⟩ := (K1.out.ext (Ext.trans Ew2.out (Ext.trans Ew3.out (Ext.trans Ew4.out (Ext.trans Ew5.out (Ext.trans Ew6.out (Ext.trans Ew7.out (Ext.trans Ew8.out (Ext.trans Ew9.out (Ext.trans Ew10.out (Ext.trans Ew11.out HEr.out)))))))))))
      go_wp2_with fail
      clear hcell
      clear x10 x11 x12 x13 z1
      refine (supply_any A n c xs s1 A1 n1 c1 t1 B1 m1 d1 p wr (HS.out.below (Ext.trans Ewb1.out (Ext.trans Ew2.out (Ext.trans Ew3.out (Ext.trans Ew4.out (Ext.trans Ew5.out (Ext.trans Ew6.out (Ext.trans Ew7.out (Ext.trans Ew8.out (Ext.trans Ew9.out (Ext.trans Ew10.out (Ext.trans Ew11.out HEr.out)))))))))))) hn ⟨(H1.out.ext (Ext.trans Ewb1.out (Ext.trans Ew2.out (Ext.trans Ew3.out (Ext.trans Ew4.out (Ext.trans Ew5.out (Ext.trans Ew6.out (Ext.trans Ew7.out (Ext.trans Ew8.out (Ext.trans Ew9.out (Ext.trans Ew10.out (Ext.trans Ew11.out HEr.out)))))))))))), by omega, by omega⟩).mono ?_
      rintro e w12 ⟨rfl, hE⟩
      have Ew12 := Lib.hid hE
      clear hE
      obtain ⟨l1, hl1⟩ : ∃ v, wantL true xs p = v := ⟨_, rfl⟩
      obtain ⟨u1, hu1⟩ : ∃ v, wantM true xs p = v := ⟨_, rfl⟩
      obtain ⟨ch, hch⟩ : ∃ v, chk true xs = v := ⟨_, rfl⟩
      rw [hl1, hu1, hch]
      by_cases hc0 : ch = 0
      rotate_left
      · have hb6 : (ch != 0) = true := by simp [hc0]
        clear hl1 hu1 hch hc0
        go_wp2_with fail
        go_roundw
        case rel => exact ⟨1, by omega, rfl, (Ext.trans HEr.out Ew12.out)⟩
        case measure => simp [intOf]
      subst hc0
      have HF : Hid (0 ≤ l1 ∧ l1 ≤ u1 ∧ u1 ≤ total xs ∧ profit xs p (l1 : Int) false = profit xs p (u1 : Int) false ∧ (((l1 : Int) : Rat) ≤ q ∧ q ≤ ((u1 : Int) : Rat) → profit xs p q false = profit xs p (l1 : Int) false) ∧ (¬ (((l1 : Int) : Rat) ≤ q ∧ q ≤ ((u1 : Int) : Rat)) → profit xs p q false < profit xs p (l1 : Int) false)) := by
        have := opt_facts false (p := p) hch HQ0.out HQ1.out
        rw [show (!false) = true from rfl, hl1, hu1] at this
        exact this
      have hf1 := HF.out.1
      have hf2 := HF.out.2.1
      have hf3 : u1 ≤ tt := by rw [← Htt.out]; exact HF.out.2.2.1
      have hb7 : decide (l1 < 0) = false := by simp; omega
      have hb8 : decide (u1 < l1) = false := by simp; omega
      have hb9 : decide (tt < u1) = false := by simp; omega
      clear hl1 hu1 hch
      go_wp2_with fail
      refine (sum_any A n c xs w12 (HS.out.below (Ext.trans Ewb1.out (Ext.trans Ew2.out (Ext.trans Ew3.out (Ext.trans Ew4.out (Ext.trans Ew5.out (Ext.trans Ew6.out (Ext.trans Ew7.out (Ext.trans Ew8.out (Ext.trans Ew9.out (Ext.trans Ew10.out (Ext.trans Ew11.out (Ext.trans HEr.out Ew12.out))))))))))))) hn).mono ?_
      rintro e w13 ⟨rfl, hE⟩
      have Ew13 := Lib.hid hE
      clear hE
      rw [Htt.out]
      go_wp2_with fail
      refine wp_region_havS [17, 18, 19] [0, 1, 2, 3, 4, 5, 6, 7, 8, 9, 10, 11, 12, 13, 14, 15, 16] [20, 21, 22] (fun _ => .cells #[.bool false, .slice none 0 0, .bool false, .slice none 0 0] 33) (by kernel_rfl) (by kernel_rfl) ?_ ?_
      · intro f hf
        simp only [List.mem_cons, List.not_mem_nil, or_false] at hf
        rcases hf with rfl | rfl | rfl
        all_goals exact makes_q (by rfl) rfl
      have hE : Ext w13 w13.drew := Ext.rfl'.drew
      generalize w13.drew = w14 at *
      have Ew14 := Lib.hid hE
      clear hE
      have f10 := fun z : ExtX w14 [] => z.cell (p := ⟨w.heap.size, 0, none⟩) (K1.out.ext (Ext.trans Ew2.out (Ext.trans Ew3.out (Ext.trans Ew4.out (Ext.trans Ew5.out (Ext.trans Ew6.out (Ext.trans Ew7.out (Ext.trans Ew8.out (Ext.trans Ew9.out (Ext.trans Ew10.out (Ext.trans Ew11.out (Ext.trans HEr.out (Ext.trans Ew12.out (Ext.trans Ew13.out Ew14.out)))))))))))))).1.1 (by simp)
      have f11 := fun z : ExtX w14 [] => z.cell (p := ⟨w.heap.size, 1, none⟩) (K1.out.ext (Ext.trans Ew2.out (Ext.trans Ew3.out (Ext.trans Ew4.out (Ext.trans Ew5.out (Ext.trans Ew6.out (Ext.trans Ew7.out (Ext.trans Ew8.out (Ext.trans Ew9.out (Ext.trans Ew10.out (Ext.trans Ew11.out (Ext.trans HEr.out (Ext.trans Ew12.out (Ext.trans Ew13.out Ew14.out)))))))))))))).1.2.1 (by simp)
      have f12 := fun z : ExtX w14 [] => z.cell (p := ⟨w.heap.size, 2, none⟩) (K1.out.ext (Ext.trans Ew2.out (Ext.trans Ew3.out (Ext.trans Ew4.out (Ext.trans Ew5.out (Ext.trans Ew6.out (Ext.trans Ew7.out (Ext.trans Ew8.out (Ext.trans Ew9.out (Ext.trans Ew10.out (Ext.trans Ew11.out (Ext.trans HEr.out (Ext.trans Ew12.out (Ext.trans Ew13.out Ew14.out)))))))))))))).1.2.2.1 (by simp)
      have f13 := fun z : ExtX w14 [] => z.cell (p := ⟨w.heap.size, 3, none⟩) (K1.out.ext (Ext.trans Ew2.out (Ext.trans Ew3.out (Ext.trans Ew4.out (Ext.trans Ew5.out (Ext.trans Ew6.out (Ext.trans Ew7.out (Ext.trans Ew8.out (Ext.trans Ew9.out (Ext.trans Ew10.out (Ext.trans Ew11.out (Ext.trans HEr.out (Ext.trans Ew12.out (Ext.trans Ew13.out Ew14.out)))))))))))))).1.2.2.2 (by simp)
      have f20 := fun z : ExtX w14 [] => z.cell (p := ⟨w.heap.size + 1, 0, none⟩) (K2.out.ext (Ext.trans Ew2.out (Ext.trans Ew3.out (Ext.trans Ew4.out (Ext.trans Ew5.out (Ext.trans Ew6.out (Ext.trans Ew7.out (Ext.trans Ew8.out (Ext.trans Ew9.out (Ext.trans Ew10.out (Ext.trans Ew11.out (Ext.trans HEr.out (Ext.trans Ew12.out (Ext.trans Ew13.out Ew14.out)))))))))))))).1.1 (by simp)
      have f21 := fun z : ExtX w14 [] => z.cell (p := ⟨w.heap.size + 1, 1, none⟩) (K2.out.ext (Ext.trans Ew2.out (Ext.trans Ew3.out (Ext.trans Ew4.out (Ext.trans Ew5.out (Ext.trans Ew6.out (Ext.trans Ew7.out (Ext.trans Ew8.out (Ext.trans Ew9.out (Ext.trans Ew10.out (Ext.trans Ew11.out (Ext.trans HEr.out (Ext.trans Ew12.out (Ext.trans Ew13.out Ew14.out)))))))))))))).1.2.1 (by simp)
      have f22 := fun z : ExtX w14 [] => z.cell (p := ⟨w.heap.size + 1, 2, none⟩) (K2.out.ext (Ext.trans Ew2.out (Ext.trans Ew3.out (Ext.trans Ew4.out (Ext.trans Ew5.out (Ext.trans Ew6.out (Ext.trans Ew7.out (Ext.trans Ew8.out (Ext.trans Ew9.out (Ext.trans Ew10.out (Ext.trans Ew11.out (Ext.trans HEr.out (Ext.trans Ew12.out (Ext.trans Ew13.out Ew14.out)))))))))))))).1.2.2.1 (by simp)
      have f23 := fun z : ExtX w14 [] => z.cell (p := ⟨w.heap.size + 1, 3, none⟩) (K2.out.ext (Ext.trans Ew2.out (Ext.trans Ew3.out (Ext.trans Ew4.out (Ext.trans Ew5.out (Ext.trans Ew6.out (Ext.trans Ew7.out (Ext.trans Ew8.out (Ext.trans Ew9.out (Ext.trans Ew10.out (Ext.trans Ew11.out (Ext.trans HEr.out (Ext.trans Ew12.out (Ext.trans Ew13.out Ew14.out)))))))))))))).1.2.2.2 (by simp)
      intro w15 hE
      have Ew15 := Lib.hid hE
      clear hE
      repeat (refine havAt_still (by rfl) (by rfl) ?_; go_big_quiet_step (fail); refine wpQuiet_nil ?_)
      have HZl : Hid (Sz 1 ((l1 : Int) : Rat)) := sz_small (z := l1) (by omega) (by omega)
      have HZu : Hid (Sz 1 ((u1 : Int) : Rat)) := sz_small (z := u1) (by omega) (by omega)
      refine havAt_move (by rfl) (by rfl) (by kernel_rfl) ?_
      go_wp2_with fail
      refine (qfrom_any l1 w15 ⟨by omega, by omega⟩).mono ?_
      rintro e w16 ⟨si, Ai, ni, ci, ti, Bi, mi, di, rfl, hQ, hE⟩
      have Ew16 := Lib.hid hE
      clear hE
      have Qi := Lib.hid hQ
      clear hQ
      go_wp2_with fail
      refine And.intro Ew16.out (fun w17 hE => ?_)
      have Ew17 := Lib.hid hE
      clear hE
      repeat (refine havAt_still (by rfl) (by rfl) ?_; go_big_quiet_step (fail); refine wpQuiet_nil ?_)
      refine havAt_move (by rfl) (by rfl) (by kernel_rfl) ?_
      go_wp2_with fail
      refine (got_any A n c xs s1 A1 n1 c1 t1 B1 m1 d1 p si Ai ni ci ti Bi mi di ((l1 : Int) : Rat) false w17 (HS.out.below (Ext.trans Ewb1.out (Ext.trans Ew2.out (Ext.trans Ew3.out (Ext.trans Ew4.out (Ext.trans Ew5.out (Ext.trans Ew6.out (Ext.trans Ew7.out (Ext.trans Ew8.out (Ext.trans Ew9.out (Ext.trans Ew10.out (Ext.trans Ew11.out (Ext.trans HEr.out (Ext.trans Ew12.out (Ext.trans Ew13.out (Ext.trans Ew14.out (Ext.trans Ew15.out (Ext.trans Ew16.out Ew17.out)))))))))))))))))) hn (H1.out.ext (Ext.trans Ewb1.out (Ext.trans Ew2.out (Ext.trans Ew3.out (Ext.trans Ew4.out (Ext.trans Ew5.out (Ext.trans Ew6.out (Ext.trans Ew7.out (Ext.trans Ew8.out (Ext.trans Ew9.out (Ext.trans Ew10.out (Ext.trans Ew11.out (Ext.trans HEr.out (Ext.trans Ew12.out (Ext.trans Ew13.out (Ext.trans Ew14.out (Ext.trans Ew15.out (Ext.trans Ew16.out Ew17.out)))))))))))))))))) (Qi.out.ext Ew17.out).is (by omega) (by omega) (Nat.le_trans ((Qi.out.ext Ew17.out).len (sz_small (z := l1) (by omega) (by omega))).1 (by omega)) (Nat.le_trans ((Qi.out.ext Ew17.out).len (sz_small (z := l1) (by omega) (by omega))).2 (by omega))).mono ?_
      rintro e w18 ⟨sx, Ax, nx, cx, tx, Bx, mx, dx, rfl, hQ, hE⟩
      have Ew18 := Lib.hid hE
      clear hE
      have Qx := Lib.hid hQ
      clear hQ
      go_wp2_with fail
      refine And.intro Ew18.out (fun w19 hE => ?_)
      have Ew19 := Lib.hid hE
      clear hE
      repeat (refine havAt_still (by rfl) (by rfl) ?_; go_big_quiet_step (fail); refine wpQuiet_nil ?_)
      refine havAt_move (by rfl) (by rfl) (by kernel_rfl) ?_
      go_wp2_with fail
      refine (qfrom_any u1 w19 ⟨by omega, by omega⟩).mono ?_
      rintro e w20 ⟨sj, Aj, nj, cj, tj, Bj, mj, dj, rfl, hQ, hE⟩
      have Ew20 := Lib.hid hE
      clear hE
      have Qj := Lib.hid hQ
      clear hQ
      go_wp2_with fail
      refine And.intro Ew20.out (fun w21 hE => ?_)
      have Ew21 := Lib.hid hE
      clear hE
      repeat (refine havAt_still (by rfl) (by rfl) ?_; go_big_quiet_step (fail); refine wpQuiet_nil ?_)
      refine havAt_move (by rfl) (by rfl) (by kernel_rfl) ?_
      go_wp2_with fail
      refine (got_any A n c xs s1 A1 n1 c1 t1 B1 m1 d1 p sj Aj nj cj tj Bj mj dj ((u1 : Int) : Rat) false w21 (HS.out.below (Ext.trans Ewb1.out (Ext.trans Ew2.out (Ext.trans Ew3.out (Ext.trans Ew4.out (Ext.trans Ew5.out (Ext.trans Ew6.out (Ext.trans Ew7.out (Ext.trans Ew8.out (Ext.trans Ew9.out (Ext.trans Ew10.out (Ext.trans Ew11.out (Ext.trans HEr.out (Ext.trans Ew12.out (Ext.trans Ew13.out (Ext.trans Ew14.out (Ext.trans Ew15.out (Ext.trans Ew16.out (Ext.trans Ew17.out (Ext.trans Ew18.out (Ext.trans Ew19.out (Ext.trans Ew20.out Ew21.out)))))))))))))))))))))) hn (H1.out.ext (Ext.trans Ewb1.out (Ext.trans Ew2.out (Ext.trans Ew3.out (Ext.trans Ew4.out (Ext.trans Ew5.out (Ext.trans Ew6.out (Ext.trans Ew7.out (Ext.trans Ew8.out (Ext.trans Ew9.out (Ext.trans Ew10.out (Ext.trans Ew11.out (Ext.trans HEr.out (Ext.trans Ew12.out (Ext.trans Ew13.out (Ext.trans Ew14.out (Ext.trans Ew15.out (Ext.trans Ew16.out (Ext.trans Ew17.out (Ext.trans Ew18.out (Ext.trans Ew19.out (Ext.trans Ew20.out Ew21.out)))))))))))))))))))))) (Qj.out.ext Ew21.out).is (by omega) (by omega) (Nat.le_trans ((Qj.out.ext Ew21.out).len (sz_small (z := u1) (by omega) (by omega))).1 (by omega)) (Nat.le_trans ((Qj.out.ext Ew21.out).len (sz_small (z := u1) (by omega) (by omega))).2 (by omega))).mono ?_
      rintro e w22 ⟨sy, Ay, ny, cy, ty, By, my, dy, rfl, hQ, hE⟩
      have Ew22 := Lib.hid hE
      clear hE
      have Qy := Lib.hid hQ
      clear hQ
      go_wp2_with fail
      refine And.intro Ew22.out (fun w23 hE => ?_)
      have Ew23 := Lib.hid hE
      clear hE
      repeat (refine havAt_still (by rfl) (by rfl) ?_; go_big_quiet_step (fail); refine wpQuiet_nil ?_)
      refine havAt_move (by rfl) (by rfl) (by kernel_rfl) ?_
      go_wp2_with fail
      refine (got_any A n c xs s1 A1 n1 c1 t1 B1 m1 d1 p s2 A2 n2 c2 t2 B2 m2 d2 q false w23 (HS.out.below (Ext.trans Ewb1.out (Ext.trans Ew2.out (Ext.trans Ew3.out (Ext.trans Ew4.out (Ext.trans Ew5.out (Ext.trans Ew6.out (Ext.trans Ew7.out (Ext.trans Ew8.out (Ext.trans Ew9.out (Ext.trans Ew10.out (Ext.trans Ew11.out (Ext.trans HEr.out (Ext.trans Ew12.out (Ext.trans Ew13.out (Ext.trans Ew14.out (Ext.trans Ew15.out (Ext.trans Ew16.out (Ext.trans Ew17.out (Ext.trans Ew18.out (Ext.trans Ew19.out (Ext.trans Ew20.out (Ext.trans Ew21.out (Ext.trans Ew22.out Ew23.out)))))))))))))))))))))))) hn (H1.out.ext (Ext.trans Ewb1.out (Ext.trans Ew2.out (Ext.trans Ew3.out (Ext.trans Ew4.out (Ext.trans Ew5.out (Ext.trans Ew6.out (Ext.trans Ew7.out (Ext.trans Ew8.out (Ext.trans Ew9.out (Ext.trans Ew10.out (Ext.trans Ew11.out (Ext.trans HEr.out (Ext.trans Ew12.out (Ext.trans Ew13.out (Ext.trans Ew14.out (Ext.trans Ew15.out (Ext.trans Ew16.out (Ext.trans Ew17.out (Ext.trans Ew18.out (Ext.trans Ew19.out (Ext.trans Ew20.out (Ext.trans Ew21.out (Ext.trans Ew22.out Ew23.out)))))))))))))))))))))))) (H2.out.ext (Ext.trans Ewb1.out (Ext.trans Ew2.out (Ext.trans Ew3.out (Ext.trans Ew4.out (Ext.trans Ew5.out (Ext.trans Ew6.out (Ext.trans Ew7.out (Ext.trans Ew8.out (Ext.trans Ew9.out (Ext.trans Ew10.out (Ext.trans Ew11.out (Ext.trans HEr.out (Ext.trans Ew12.out (Ext.trans Ew13.out (Ext.trans Ew14.out (Ext.trans Ew15.out (Ext.trans Ew16.out (Ext.trans Ew17.out (Ext.trans Ew18.out (Ext.trans Ew19.out (Ext.trans Ew20.out (Ext.trans Ew21.out (Ext.trans Ew22.out Ew23.out)))))))))))))))))))))))) (by omega) (by omega) (by omega) (by omega)).mono ?_
      rintro e w24 ⟨sz, Az, nz, cz, tz, Bz, mz, dz, rfl, hQ, hE⟩
      have Ew24 := Lib.hid hE
      clear hE
      have Qz := Lib.hid hQ
      clear hQ
      go_wp2_with fail
      refine And.intro Ew24.out (fun w25 hE => ?_)
      have Ew25 := Lib.hid hE
      clear hE
      repeat (refine havAt_still (by rfl) (by rfl) ?_; go_big_quiet_step (fail); refine wpQuiet_nil ?_)
      refine havAt_end ?_
      intro gs hgs hne
      have hpcx := hgs 17 (by simp)
      have hpcy := hgs 18 (by simp)
      have hpcz := hgs 19 (by simp)
      have hncxcy := hne 17 (by simp) 18 (by simp) (by omega)
      have hncxcz := hne 17 (by simp) 19 (by simp) (by omega)
      have hncycz := hne 18 (by simp) 19 (by simp) (by omega)
      change IdxAt _ _ _ _ _ _ (Act.put (Act.put (Act.put _ (some 12) (.pointer (some ⟨gs 17, 0, none⟩))) (some 13) (.pointer (some ⟨gs 18, 0, none⟩))) (some 14) (.pointer (some ⟨gs 19, 0, none⟩))) _
      generalize gs 17 = gcx at *
      generalize gs 18 = gcy at *
      generalize gs 19 = gcz at *
      clear hgs hne
      simp only [Act.put, List.setIfInBounds_toArray, List.set_cons_succ, List.set_cons_zero]
      have Pcx := Lib.hid hpcx
      have Kcx := Lib.hid (Cell4.of_blk hpcx.2.1)
      clear hpcx
      have Pcy := Lib.hid hpcy
      have Kcy := Lib.hid (Cell4.of_blk hpcy.2.1)
      clear hpcy
      have Pcz := Lib.hid hpcz
      have Kcz := Lib.hid (Cell4.of_blk hpcz.2.1)
      clear hpcz
      have HNcxcy := Lib.hid hncxcy
      clear hncxcy
      have HNcxcz := Lib.hid hncxcz
      clear hncxcz
      have HNcycz := Lib.hid hncycz
      clear hncycz
      repeat (refine idxAt_still (by rfl) (by rfl) ?_; go_big_quiet_step (fail); refine wpQuiet_nil ?_)
      obtain ⟨⟨o0, o1, o2, o3⟩, ⟨q0, q1, q2, q3⟩, ol⟩ := Kcx.out
      refine idxAt_move (by rfl) (by rfl) (by kernel_rfl) ?_
      go_wp2_with fail
      refine And.intro (inX_put (p := ⟨gcx, 3, none⟩) (inX_put (p := ⟨gcx, 2, none⟩) (inX_put (p := ⟨gcx, 1, none⟩) (inX_put (p := ⟨gcx, 0, none⟩) (inX_of_ext _ (Ext.trans Ew15.out (Ext.trans Ew16.out (Ext.trans Ew17.out (Ext.trans Ew18.out (Ext.trans Ew19.out (Ext.trans Ew20.out (Ext.trans Ew21.out (Ext.trans Ew22.out (Ext.trans Ew23.out (Ext.trans Ew24.out Ew25.out))))))))))) (.inr Pcx.out.1) _) (.inr Pcx.out.1) _) (.inr Pcx.out.1) _) (.inr Pcx.out.1) _) ?_
      clear o0 o1 o2 o3 q0 q1 q2 q3 ol
      have Kcx_1 := Lib.hid (Kcx.out.put4 (.bool sx) (.slice Ax nx cx) (.bool tx) (.slice Bx mx dx))
      have NJ1 := Lib.hid (ext_put4 (Ext.trans Ew15.out (Ext.trans Ew16.out (Ext.trans Ew17.out (Ext.trans Ew18.out (Ext.trans Ew19.out (Ext.trans Ew20.out (Ext.trans Ew21.out (Ext.trans Ew22.out (Ext.trans Ew23.out (Ext.trans Ew24.out Ew25.out)))))))))) (g := gcx) Pcx.out.1 0 (.bool sx) (.slice Ax nx cx) (.bool tx) (.slice Bx mx dx))
      have NZ1 : Hid (w25.heap.size ≤ (put4 w25 (gcx) 0 (.bool sx) (.slice Ax nx cx) (.bool tx) (.slice Bx mx dx)).heap.size) := by unfold Hid; rw [put4_size]; exact Nat.le_refl _
      have Qx_1 := Lib.hid ((Qx.out.ext (Ext.trans Ew19.out (Ext.trans Ew20.out (Ext.trans Ew21.out (Ext.trans Ew22.out (Ext.trans Ew23.out (Ext.trans Ew24.out Ew25.out))))))).put4A (g := gcx) (Qx.out.span (Pcx.out.2.2 (w17.heap.size, w18.heap.size) (by simp))) 0 (.bool sx) (.slice Ax nx cx) (.bool tx) (.slice Bx mx dx))
      have Qy_1 := Lib.hid ((Qy.out.ext (Ext.trans Ew23.out (Ext.trans Ew24.out Ew25.out))).put4A (g := gcx) (Qy.out.span (Pcx.out.2.2 (w21.heap.size, w22.heap.size) (by simp))) 0 (.bool sx) (.slice Ax nx cx) (.bool tx) (.slice Bx mx dx))
      have Qz_1 := Lib.hid ((Qz.out.ext Ew25.out).put4A (g := gcx) (Qz.out.span (Pcx.out.2.2 (w23.heap.size, w24.heap.size) (by simp))) 0 (.bool sx) (.slice Ax nx cx) (.bool tx) (.slice Bx mx dx))
      have Kcy_1 := Lib.hid (Kcy.out.far4 (g := gcx) (off := 0) HNcxcy.out (.bool sx) (.slice Ax nx cx) (.bool tx) (.slice Bx mx dx))
      have Kcz_1 := Lib.hid (Kcz.out.far4 (g := gcx) (off := 0) HNcxcz.out (.bool sx) (.slice Ax nx cx) (.bool tx) (.slice Bx mx dx))
      unfold put4 at Kcx_1 NJ1 NZ1 Qx_1 Qy_1 Qz_1 Kcy_1 Kcz_1
      simp only [Nat.zero_add] at Kcx_1 NJ1 NZ1 Qx_1 Qy_1 Qz_1 Kcy_1 Kcz_1
      generalize ((((w25.setCell ⟨gcx, 0, none⟩ (.bool sx)).setCell ⟨gcx, 1, none⟩ (.slice Ax nx cx)).setCell ⟨gcx, 2, none⟩ (.bool tx)).setCell ⟨gcx, 3, none⟩ (.slice Bx mx dx)) = w26 at *
      repeat (refine idxAt_still (by rfl) (by rfl) ?_; go_big_quiet_step (fail); refine wpQuiet_nil ?_)
      obtain ⟨⟨o0, o1, o2, o3⟩, ⟨q0, q1, q2, q3⟩, ol⟩ := Kcy_1.out
      refine idxAt_move (by rfl) (by rfl) (by kernel_rfl) ?_
      go_wp2_with fail
      refine And.intro (inX_put (p := ⟨gcy, 3, none⟩) (inX_put (p := ⟨gcy, 2, none⟩) (inX_put (p := ⟨gcy, 1, none⟩) (inX_put (p := ⟨gcy, 0, none⟩) (inX_of_ext _ NJ1.out) (.inr Pcy.out.1) _) (.inr Pcy.out.1) _) (.inr Pcy.out.1) _) (.inr Pcy.out.1) _) ?_
      clear o0 o1 o2 o3 q0 q1 q2 q3 ol
      have Kcy_2 := Lib.hid (Kcy_1.out.put4 (.bool sy) (.slice Ay ny cy) (.bool ty) (.slice By my dy))
      have NJ2 := Lib.hid (ext_put4 NJ1.out (g := gcy) Pcy.out.1 0 (.bool sy) (.slice Ay ny cy) (.bool ty) (.slice By my dy))
      have NZ2 : Hid (w26.heap.size ≤ (put4 w26 (gcy) 0 (.bool sy) (.slice Ay ny cy) (.bool ty) (.slice By my dy)).heap.size) := by unfold Hid; rw [put4_size]; exact Nat.le_refl _
      have Qx_2 := Lib.hid (Qx_1.out.put4A (g := gcy) (Qx.out.span (Pcy.out.2.2 (w17.heap.size, w18.heap.size) (by simp))) 0 (.bool sy) (.slice Ay ny cy) (.bool ty) (.slice By my dy))
      have Qy_2 := Lib.hid (Qy_1.out.put4A (g := gcy) (Qy.out.span (Pcy.out.2.2 (w21.heap.size, w22.heap.size) (by simp))) 0 (.bool sy) (.slice Ay ny cy) (.bool ty) (.slice By my dy))
      have Qz_2 := Lib.hid (Qz_1.out.put4A (g := gcy) (Qz.out.span (Pcy.out.2.2 (w23.heap.size, w24.heap.size) (by simp))) 0 (.bool sy) (.slice Ay ny cy) (.bool ty) (.slice By my dy))
      have Kcx_2 := Lib.hid (Kcx_1.out.far4 (g := gcy) (off := 0) (Ne.symm HNcxcy.out) (.bool sy) (.slice Ay ny cy) (.bool ty) (.slice By my dy))
      have Kcz_2 := Lib.hid (Kcz_1.out.far4 (g := gcy) (off := 0) HNcycz.out (.bool sy) (.slice Ay ny cy) (.bool ty) (.slice By my dy))
      unfold put4 at Kcy_2 NJ2 NZ2 Qx_2 Qy_2 Qz_2 Kcx_2 Kcz_2
      simp only [Nat.zero_add] at Kcy_2 NJ2 NZ2 Qx_2 Qy_2 Qz_2 Kcx_2 Kcz_2
      generalize ((((w26.setCell ⟨gcy, 0, none⟩ (.bool sy)).setCell ⟨gcy, 1, none⟩ (.slice Ay ny cy)).setCell ⟨gcy, 2, none⟩ (.bool ty)).setCell ⟨gcy, 3, none⟩ (.slice By my dy)) = w27 at *
      repeat (refine idxAt_still (by rfl) (by rfl) ?_; go_big_quiet_step (fail); refine wpQuiet_nil ?_)
      obtain ⟨⟨o0, o1, o2, o3⟩, ⟨q0, q1, q2, q3⟩, ol⟩ := Kcz_2.out
      refine idxAt_move (by rfl) (by rfl) (by kernel_rfl) ?_
      go_wp2_with fail
      refine And.intro (inX_put (p := ⟨gcz, 3, none⟩) (inX_put (p := ⟨gcz, 2, none⟩) (inX_put (p := ⟨gcz, 1, none⟩) (inX_put (p := ⟨gcz, 0, none⟩) (inX_of_ext _ NJ2.out) (.inr Pcz.out.1) _) (.inr Pcz.out.1) _) (.inr Pcz.out.1) _) (.inr Pcz.out.1) _) ?_
      clear o0 o1 o2 o3 q0 q1 q2 q3 ol
      have Kcz_3 := Lib.hid (Kcz_2.out.put4 (.bool sz) (.slice Az nz cz) (.bool tz) (.slice Bz mz dz))
      have NJ3 := Lib.hid (ext_put4 NJ2.out (g := gcz) Pcz.out.1 0 (.bool sz) (.slice Az nz cz) (.bool tz) (.slice Bz mz dz))
      have NZ3 : Hid (w27.heap.size ≤ (put4 w27 (gcz) 0 (.bool sz) (.slice Az nz cz) (.bool tz) (.slice Bz mz dz)).heap.size) := by unfold Hid; rw [put4_size]; exact Nat.le_refl _
      have Qx_3 := Lib.hid (Qx_2.out.put4A (g := gcz) (Qx.out.span (Pcz.out.2.2 (w17.heap.size, w18.heap.size) (by simp))) 0 (.bool sz) (.slice Az nz cz) (.bool tz) (.slice Bz mz dz))
      have Qy_3 := Lib.hid (Qy_2.out.put4A (g := gcz) (Qy.out.span (Pcz.out.2.2 (w21.heap.size, w22.heap.size) (by simp))) 0 (.bool sz) (.slice Az nz cz) (.bool tz) (.slice Bz mz dz))
      have Qz_3 := Lib.hid (Qz_2.out.put4A (g := gcz) (Qz.out.span (Pcz.out.2.2 (w23.heap.size, w24.heap.size) (by simp))) 0 (.bool sz) (.slice Az nz cz) (.bool tz) (.slice Bz mz dz))
      have Kcx_3 := Lib.hid (Kcx_2.out.far4 (g := gcz) (off := 0) (Ne.symm HNcxcz.out) (.bool sz) (.slice Az nz cz) (.bool tz) (.slice Bz mz dz))
      have Kcy_3 := Lib.hid (Kcy_2.out.far4 (g := gcz) (off := 0) (Ne.symm HNcycz.out) (.bool sz) (.slice Az nz cz) (.bool tz) (.slice Bz mz dz))
      unfold put4 at Kcz_3 NJ3 NZ3 Qx_3 Qy_3 Qz_3 Kcx_3 Kcy_3
      simp only [Nat.zero_add] at Kcz_3 NJ3 NZ3 Qx_3 Qy_3 Qz_3 Kcx_3 Kcy_3
      generalize ((((w27.setCell ⟨gcz, 0, none⟩ (.bool sz)).setCell ⟨gcz, 1, none⟩ (.slice Az nz cz)).setCell ⟨gcz, 2, none⟩ (.bool tz)).setCell ⟨gcz, 3, none⟩ (.slice Bz mz dz)) = w28 at *
      repeat (refine idxAt_still (by rfl) (by rfl) ?_; go_big_quiet_step (fail); refine wpQuiet_nil ?_)
      refine idxAt_nil ?_
      clear f10 f11 f12 f13 f20 f21 f22 f23
      go_wp2_with fail
      refine wp_region_lexS (C := InX w28.drew []) (by kernel_rfl) (by kernel_rfl) (inX_self _ _) ?_
      have hE : Ext w28 w28.drew := Ext.rfl'.drew
      generalize w28.drew = w29 at *
      have Ew29 := Lib.hid hE
      clear hE
      have f20 := fun z : ExtX w29 [] => z.cell (p := ⟨w.heap.size + 1, 0, none⟩) (K2.out.ext (Ext.trans Ew2.out (Ext.trans Ew3.out (Ext.trans Ew4.out (Ext.trans Ew5.out (Ext.trans Ew6.out (Ext.trans Ew7.out (Ext.trans Ew8.out (Ext.trans Ew9.out (Ext.trans Ew10.out (Ext.trans Ew11.out (Ext.trans HEr.out (Ext.trans Ew12.out (Ext.trans Ew13.out (Ext.trans Ew14.out (Ext.trans NJ3.out Ew29.out)))))))))))))))).1.1 (by simp)
      have f21 := fun z : ExtX w29 [] => z.cell (p := ⟨w.heap.size + 1, 1, none⟩) (K2.out.ext (Ext.trans Ew2.out (Ext.trans Ew3.out (Ext.trans Ew4.out (Ext.trans Ew5.out (Ext.trans Ew6.out (Ext.trans Ew7.out (Ext.trans Ew8.out (Ext.trans Ew9.out (Ext.trans Ew10.out (Ext.trans Ew11.out (Ext.trans HEr.out (Ext.trans Ew12.out (Ext.trans Ew13.out (Ext.trans Ew14.out (Ext.trans NJ3.out Ew29.out)))))))))))))))).1.2.1 (by simp)
      have f22 := fun z : ExtX w29 [] => z.cell (p := ⟨w.heap.size + 1, 2, none⟩) (K2.out.ext (Ext.trans Ew2.out (Ext.trans Ew3.out (Ext.trans Ew4.out (Ext.trans Ew5.out (Ext.trans Ew6.out (Ext.trans Ew7.out (Ext.trans Ew8.out (Ext.trans Ew9.out (Ext.trans Ew10.out (Ext.trans Ew11.out (Ext.trans HEr.out (Ext.trans Ew12.out (Ext.trans Ew13.out (Ext.trans Ew14.out (Ext.trans NJ3.out Ew29.out)))))))))))))))).1.2.2.1 (by simp)
      have f23 := fun z : ExtX w29 [] => z.cell (p := ⟨w.heap.size + 1, 3, none⟩) (K2.out.ext (Ext.trans Ew2.out (Ext.trans Ew3.out (Ext.trans Ew4.out (Ext.trans Ew5.out (Ext.trans Ew6.out (Ext.trans Ew7.out (Ext.trans Ew8.out (Ext.trans Ew9.out (Ext.trans Ew10.out (Ext.trans Ew11.out (Ext.trans HEr.out (Ext.trans Ew12.out (Ext.trans Ew13.out (Ext.trans Ew14.out (Ext.trans NJ3.out Ew29.out)))))))))))))))).1.2.2.2 (by simp)
      repeat (refine lexAt_still (by rfl) ?_; go_big_quiet_step (fail); refine wpQuiet_nil ?_)
      refine lexAt_move (by rfl) (by kernel_rfl) ?_
      go_wp2_with fail
      refine (qfrom_any l1 w29 ⟨by omega, by omega⟩).mono ?_
      rintro e w30 ⟨sb1, Ab1, nb1, cb1, tb1, Bb1, mb1, db1, rfl, hQ, hE⟩
      have Ew30 := Lib.hid hE
      clear hE
      have Qb1 := Lib.hid hQ
      clear hQ
      go_wp2_with fail
      refine And.intro (inX_of_ext _ Ew30.out) ?_
      repeat (refine lexAt_still (by rfl) ?_; go_big_quiet_step (fail); refine wpQuiet_nil ?_)
      refine lexAt_move (by rfl) (by kernel_rfl) ?_
      go_wp2_with fail
      refine (qcmp_any s2 A2 n2 c2 t2 B2 m2 d2 _ sb1 Ab1 nb1 cb1 tb1 Bb1 mb1 db1 _ w30 ⟨(H2.out.ext (Ext.trans Ewb1.out (Ext.trans Ew2.out (Ext.trans Ew3.out (Ext.trans Ew4.out (Ext.trans Ew5.out (Ext.trans Ew6.out (Ext.trans Ew7.out (Ext.trans Ew8.out (Ext.trans Ew9.out (Ext.trans Ew10.out (Ext.trans Ew11.out (Ext.trans HEr.out (Ext.trans Ew12.out (Ext.trans Ew13.out (Ext.trans Ew14.out (Ext.trans NJ3.out (Ext.trans Ew29.out Ew30.out)))))))))))))))))), by omega, by omega⟩ (Qb1.out.arg (sz_small (z := l1) (by omega) (by omega)) (by omega))).mono ?_
      rintro e w31 ⟨rfl, hE⟩
      have Ew31 := Lib.hid hE
      clear hE
      obtain ⟨cma, hcma⟩ : ∃ x, cmpQ q ((l1 : Int) : Rat) = x := ⟨_, rfl⟩
      rw [hcma]
      have Hcma := Lib.hid hcma
      clear hcma
      by_cases hlo : q < ((l1 : Int) : Rat)
      · have hb11 : decide (0 ≤ cma) = false := by
          have : cma < 0 := by rw [← Hcma.out]; exact (cmpQ_neg _ _).2 hlo
          simp; omega
        have HIN : Hid (¬ (((l1 : Int) : Rat) ≤ q ∧ q ≤ ((u1 : Int) : Rat))) := fun h => Rat.not_lt.2 h.1 hlo
        clear hlo
        go_wp2_with fail
        refine And.intro (inX_of_ext _ (Ext.trans Ew30.out Ew31.out)) ?_
        repeat (refine lexAt_still (by rfl) ?_; go_big_quiet_step (fail); refine wpQuiet_nil ?_)
        refine lexAt_skip (by kernel_rfl) ?_
        simp only [Act.put, List.setIfInBounds_toArray, List.set_cons_succ, List.set_cons_zero]
        repeat (refine lexAt_still (by rfl) ?_; go_big_quiet_step (fail); refine wpQuiet_nil ?_)
        refine lexAt_skip (by kernel_rfl) ?_
        simp only [Act.put, List.setIfInBounds_toArray, List.set_cons_succ, List.set_cons_zero]
        repeat (refine lexAt_still (by rfl) ?_; go_big_quiet_step (fail); refine wpQuiet_nil ?_)
        refine lexAt_nil ?_
        clear f20 f21 f22 f23
        obtain ⟨⟨xcx0, xcx1, xcx2, xcx3⟩, -, zcx⟩ := (Kcx_3.out.ext (Ext.trans Ew29.out (Ext.trans Ew30.out Ew31.out)))
        obtain ⟨⟨xcy0, xcy1, xcy2, xcy3⟩, -, zcy⟩ := (Kcy_3.out.ext (Ext.trans Ew29.out (Ext.trans Ew30.out Ew31.out)))
        go_wp2_with fail
        clear xcx0 xcx1 xcx2 xcx3 zcx xcy0 xcy1 xcy2 xcy3 zcy
        refine (qequal_any sx Ax nx cx tx Bx mx dx _ sy Ay ny cy ty By my dy _ w31 ((Qx_3.out.ext (Ext.trans Ew29.out (Ext.trans Ew30.out Ew31.out))).arg (sz_profit false HZ1.out HZl.out (HZl.out.mono (by omega))) (by omega)) ((Qy_3.out.ext (Ext.trans Ew29.out (Ext.trans Ew30.out Ew31.out))).arg (sz_profit false HZ1.out HZu.out (HZu.out.mono (by omega))) (by omega))).mono ?_
        rintro e w32 ⟨rfl, hE⟩
        have Ew32 := Lib.hid hE
        clear hE
        rw [decide_eq_true HF.out.2.2.2.1]
        obtain ⟨⟨xcz0, xcz1, xcz2, xcz3⟩, -, zcz⟩ := (Kcz_3.out.ext (Ext.trans Ew29.out (Ext.trans Ew30.out (Ext.trans Ew31.out Ew32.out))))
        obtain ⟨⟨xcx0, xcx1, xcx2, xcx3⟩, -, zcx⟩ := (Kcx_3.out.ext (Ext.trans Ew29.out (Ext.trans Ew30.out (Ext.trans Ew31.out Ew32.out))))
        go_wp2_with fail
        clear xcz0 xcz1 xcz2 xcz3 zcz xcx0 xcx1 xcx2 xcx3 zcx
        refine (qcmp_any sz Az nz cz tz Bz mz dz _ sx Ax nx cx tx Bx mx dx _ w32 ((Qz_3.out.ext (Ext.trans Ew29.out (Ext.trans Ew30.out (Ext.trans Ew31.out Ew32.out)))).arg (sz_profit false HZ1.out HZ2.out (HZ2.out.mono (by omega))) (by omega)) ((Qx_3.out.ext (Ext.trans Ew29.out (Ext.trans Ew30.out (Ext.trans Ew31.out Ew32.out)))).arg (sz_profit false HZ1.out HZl.out (HZl.out.mono (by omega))) (by omega))).mono ?_
        rintro e w33 ⟨rfl, hE⟩
        have Ew33 := Lib.hid hE
        clear hE
        obtain ⟨cmz, hcmz⟩ : ∃ x, cmpQ (profit xs p q false) (profit xs p ((l1 : Int) : Rat) false) = x := ⟨_, rfl⟩
        rw [hcmz]
        have Hcmz := Lib.hid hcmz
        clear hcmz
        have hb13 : decide (0 ≤ cmz) = false := by
          have : cmz < 0 := by rw [← Hcmz.out]; exact (cmpQ_neg _ _).2 (HF.out.2.2.2.2.2 HIN.out)
          simp; omega
        go_wp2_with fail
        go_roundw
        case rel => exact ⟨1, by omega, rfl, (Ext.trans HEr.out (Ext.trans Ew12.out (Ext.trans Ew13.out (Ext.trans Ew14.out (Ext.trans NJ3.out (Ext.trans Ew29.out (Ext.trans Ew30.out (Ext.trans Ew31.out (Ext.trans Ew32.out Ew33.out)))))))))⟩
        case measure => simp [intOf]
      have hb11 : decide (0 ≤ cma) = true := by
        have : ¬ cma < 0 := by rw [← Hcma.out]; exact fun e => hlo ((cmpQ_neg _ _).1 e)
        simp; omega
      go_wp2_with fail
      refine And.intro (inX_of_ext _ (Ext.trans Ew30.out Ew31.out)) ?_
      repeat (refine lexAt_still (by rfl) ?_; go_big_quiet_step (fail); refine wpQuiet_nil ?_)
      refine lexAt_move (by rfl) (by kernel_rfl) ?_
      go_wp2_with fail
      refine (qfrom_any u1 w31 ⟨by omega, by omega⟩).mono ?_
      rintro e w34 ⟨sb2, Ab2, nb2, cb2, tb2, Bb2, mb2, db2, rfl, hQ, hE⟩
      have Ew34 := Lib.hid hE
      clear hE
      have Qb2 := Lib.hid hQ
      clear hQ
      go_wp2_with fail
      refine And.intro (inX_of_ext _ (Ext.trans Ew30.out (Ext.trans Ew31.out Ew34.out))) ?_
      repeat (refine lexAt_still (by rfl) ?_; go_big_quiet_step (fail); refine wpQuiet_nil ?_)
      refine lexAt_move (by rfl) (by kernel_rfl) ?_
      go_wp2_with fail
      refine (qcmp_any s2 A2 n2 c2 t2 B2 m2 d2 _ sb2 Ab2 nb2 cb2 tb2 Bb2 mb2 db2 _ w34 ⟨(H2.out.ext (Ext.trans Ewb1.out (Ext.trans Ew2.out (Ext.trans Ew3.out (Ext.trans Ew4.out (Ext.trans Ew5.out (Ext.trans Ew6.out (Ext.trans Ew7.out (Ext.trans Ew8.out (Ext.trans Ew9.out (Ext.trans Ew10.out (Ext.trans Ew11.out (Ext.trans HEr.out (Ext.trans Ew12.out (Ext.trans Ew13.out (Ext.trans Ew14.out (Ext.trans NJ3.out (Ext.trans Ew29.out (Ext.trans Ew30.out (Ext.trans Ew31.out Ew34.out)))))))))))))))))))), by omega, by omega⟩ (Qb2.out.arg (sz_small (z := u1) (by omega) (by omega)) (by omega))).mono ?_
      rintro e w35 ⟨rfl, hE⟩
      have Ew35 := Lib.hid hE
      clear hE
      obtain ⟨cmb, hcmb⟩ : ∃ x, cmpQ q ((u1 : Int) : Rat) = x := ⟨_, rfl⟩
      rw [hcmb]
      have Hcmb := Lib.hid hcmb
      clear hcmb
      by_cases hhi : ((u1 : Int) : Rat) < q
      · have hb12 : decide (cmb ≤ 0) = false := by
          have : 0 < cmb := by rw [← Hcmb.out]; exact (cmpQ_pos _ _).2 hhi
          simp; omega
        have HIN : Hid (¬ (((l1 : Int) : Rat) ≤ q ∧ q ≤ ((u1 : Int) : Rat))) := fun h => Rat.not_lt.2 h.2 hhi
        clear hlo hhi
        go_wp2_with fail
        refine And.intro (inX_of_ext _ (Ext.trans Ew30.out (Ext.trans Ew31.out (Ext.trans Ew34.out Ew35.out)))) ?_
        repeat (refine lexAt_still (by rfl) ?_; go_big_quiet_step (fail); refine wpQuiet_nil ?_)
        refine lexAt_nil ?_
        clear f20 f21 f22 f23
        obtain ⟨⟨xcx0, xcx1, xcx2, xcx3⟩, -, zcx⟩ := (Kcx_3.out.ext (Ext.trans Ew29.out (Ext.trans Ew30.out (Ext.trans Ew31.out (Ext.trans Ew34.out Ew35.out)))))
        obtain ⟨⟨xcy0, xcy1, xcy2, xcy3⟩, -, zcy⟩ := (Kcy_3.out.ext (Ext.trans Ew29.out (Ext.trans Ew30.out (Ext.trans Ew31.out (Ext.trans Ew34.out Ew35.out)))))
        go_wp2_with fail
        clear xcx0 xcx1 xcx2 xcx3 zcx xcy0 xcy1 xcy2 xcy3 zcy
        refine (qequal_any sx Ax nx cx tx Bx mx dx _ sy Ay ny cy ty By my dy _ w35 ((Qx_3.out.ext (Ext.trans Ew29.out (Ext.trans Ew30.out (Ext.trans Ew31.out (Ext.trans Ew34.out Ew35.out))))).arg (sz_profit false HZ1.out HZl.out (HZl.out.mono (by omega))) (by omega)) ((Qy_3.out.ext (Ext.trans Ew29.out (Ext.trans Ew30.out (Ext.trans Ew31.out (Ext.trans Ew34.out Ew35.out))))).arg (sz_profit false HZ1.out HZu.out (HZu.out.mono (by omega))) (by omega))).mono ?_
        rintro e w36 ⟨rfl, hE⟩
        have Ew36 := Lib.hid hE
        clear hE
        rw [decide_eq_true HF.out.2.2.2.1]
        obtain ⟨⟨xcz0, xcz1, xcz2, xcz3⟩, -, zcz⟩ := (Kcz_3.out.ext (Ext.trans Ew29.out (Ext.trans Ew30.out (Ext.trans Ew31.out (Ext.trans Ew34.out (Ext.trans Ew35.out Ew36.out))))))
        obtain ⟨⟨xcx0, xcx1, xcx2, xcx3⟩, -, zcx⟩ := (Kcx_3.out.ext (Ext.trans Ew29.out (Ext.trans Ew30.out (Ext.trans Ew31.out (Ext.trans Ew34.out (Ext.trans Ew35.out Ew36.out))))))
        go_wp2_with fail
        clear xcz0 xcz1 xcz2 xcz3 zcz xcx0 xcx1 xcx2 xcx3 zcx
        refine (qcmp_any sz Az nz cz tz Bz mz dz _ sx Ax nx cx tx Bx mx dx _ w36 ((Qz_3.out.ext (Ext.trans Ew29.out (Ext.trans Ew30.out (Ext.trans Ew31.out (Ext.trans Ew34.out (Ext.trans Ew35.out Ew36.out)))))).arg (sz_profit false HZ1.out HZ2.out (HZ2.out.mono (by omega))) (by omega)) ((Qx_3.out.ext (Ext.trans Ew29.out (Ext.trans Ew30.out (Ext.trans Ew31.out (Ext.trans Ew34.out (Ext.trans Ew35.out Ew36.out)))))).arg (sz_profit false HZ1.out HZl.out (HZl.out.mono (by omega))) (by omega))).mono ?_
        rintro e w37 ⟨rfl, hE⟩
        have Ew37 := Lib.hid hE
        clear hE
        obtain ⟨cmz, hcmz⟩ : ∃ x, cmpQ (profit xs p q false) (profit xs p ((l1 : Int) : Rat) false) = x := ⟨_, rfl⟩
        rw [hcmz]
        have Hcmz := Lib.hid hcmz
        clear hcmz
        have hb13 : decide (0 ≤ cmz) = false := by
          have : cmz < 0 := by rw [← Hcmz.out]; exact (cmpQ_neg _ _).2 (HF.out.2.2.2.2.2 HIN.out)
          simp; omega
        go_wp2_with fail
        go_roundw
        case rel => exact ⟨1, by omega, rfl, (Ext.trans HEr.out (Ext.trans Ew12.out (Ext.trans Ew13.out (Ext.trans Ew14.out (Ext.trans NJ3.out (Ext.trans Ew29.out (Ext.trans Ew30.out (Ext.trans Ew31.out (Ext.trans Ew34.out (Ext.trans Ew35.out (Ext.trans Ew36.out Ew37.out)))))))))))⟩
        case measure => simp [intOf]
      have hb12 : decide (cmb ≤ 0) = true := by
        have : ¬ 0 < cmb := by rw [← Hcmb.out]; exact fun e => hhi ((cmpQ_pos _ _).1 e)
        simp; omega
      have HIN : Hid (((l1 : Int) : Rat) ≤ q ∧ q ≤ ((u1 : Int) : Rat)) := ⟨Rat.not_lt.1 hlo, Rat.not_lt.1 hhi⟩
      clear hlo hhi
      go_wp2_with fail
      refine And.intro (inX_of_ext _ (Ext.trans Ew30.out (Ext.trans Ew31.out (Ext.trans Ew34.out Ew35.out)))) ?_
      repeat (refine lexAt_still (by rfl) ?_; go_big_quiet_step (fail); refine wpQuiet_nil ?_)
      refine lexAt_nil ?_
      clear f20 f21 f22 f23
      obtain ⟨⟨xcx0, xcx1, xcx2, xcx3⟩, -, zcx⟩ := (Kcx_3.out.ext (Ext.trans Ew29.out (Ext.trans Ew30.out (Ext.trans Ew31.out (Ext.trans Ew34.out Ew35.out)))))
      obtain ⟨⟨xcy0, xcy1, xcy2, xcy3⟩, -, zcy⟩ := (Kcy_3.out.ext (Ext.trans Ew29.out (Ext.trans Ew30.out (Ext.trans Ew31.out (Ext.trans Ew34.out Ew35.out)))))
      go_wp2_with fail
      clear xcx0 xcx1 xcx2 xcx3 zcx xcy0 xcy1 xcy2 xcy3 zcy
      refine (qequal_any sx Ax nx cx tx Bx mx dx _ sy Ay ny cy ty By my dy _ w35 ((Qx_3.out.ext (Ext.trans Ew29.out (Ext.trans Ew30.out (Ext.trans Ew31.out (Ext.trans Ew34.out Ew35.out))))).arg (sz_profit false HZ1.out HZl.out (HZl.out.mono (by omega))) (by omega)) ((Qy_3.out.ext (Ext.trans Ew29.out (Ext.trans Ew30.out (Ext.trans Ew31.out (Ext.trans Ew34.out Ew35.out))))).arg (sz_profit false HZ1.out HZu.out (HZu.out.mono (by omega))) (by omega))).mono ?_
      rintro e w38 ⟨rfl, hE⟩
      have Ew38 := Lib.hid hE
      clear hE
      rw [decide_eq_true HF.out.2.2.2.1]
      obtain ⟨⟨xcz0, xcz1, xcz2, xcz3⟩, -, zcz⟩ := (Kcz_3.out.ext (Ext.trans Ew29.out (Ext.trans Ew30.out (Ext.trans Ew31.out (Ext.trans Ew34.out (Ext.trans Ew35.out Ew38.out))))))
      obtain ⟨⟨xcx0, xcx1, xcx2, xcx3⟩, -, zcx⟩ := (Kcx_3.out.ext (Ext.trans Ew29.out (Ext.trans Ew30.out (Ext.trans Ew31.out (Ext.trans Ew34.out (Ext.trans Ew35.out Ew38.out))))))
      go_wp2_with fail
      clear xcz0 xcz1 xcz2 xcz3 zcz xcx0 xcx1 xcx2 xcx3 zcx
      refine (qequal_any sz Az nz cz tz Bz mz dz _ sx Ax nx cx tx Bx mx dx _ w38 ((Qz_3.out.ext (Ext.trans Ew29.out (Ext.trans Ew30.out (Ext.trans Ew31.out (Ext.trans Ew34.out (Ext.trans Ew35.out Ew38.out)))))).arg (sz_profit false HZ1.out HZ2.out (HZ2.out.mono (by omega))) (by omega)) ((Qx_3.out.ext (Ext.trans Ew29.out (Ext.trans Ew30.out (Ext.trans Ew31.out (Ext.trans Ew34.out (Ext.trans Ew35.out Ew38.out)))))).arg (sz_profit false HZ1.out HZl.out (HZl.out.mono (by omega))) (by omega))).mono ?_
      rintro e w39 ⟨rfl, hE⟩
      have Ew39 := Lib.hid hE
      clear hE
      rw [decide_eq_true (HF.out.2.2.2.2.1 HIN.out)]
      go_wp2_with fail
      go_roundw
      case rel => exact ⟨1, by omega, rfl, (Ext.trans HEr.out (Ext.trans Ew12.out (Ext.trans Ew13.out (Ext.trans Ew14.out (Ext.trans NJ3.out (Ext.trans Ew29.out (Ext.trans Ew30.out (Ext.trans Ew31.out (Ext.trans Ew34.out (Ext.trans Ew35.out (Ext.trans Ew38.out Ew39.out)))))))))))⟩
      case measure => simp [intOf]
    · have hcell := Ext.cellOf HEr.out HB1.out
      obtain ⟨⟨x10, x11, x12, x13⟩, -, z1⟩ := (K1.out.ext (Ext.trans Ew2.out (Ext.trans Ew3.out (Ext.trans Ew4.out (Ext.trans Ew5.out (Ext.trans Ew6.out (Ext.trans Ew7.out (Ext.trans Ew8.out (Ext.trans Ew9.out (Ext.trans Ew10.out (Ext.trans Ew11.out HEr.out)))))))))))
      go_wp2_with fail
      clear hcell
      clear x10 x11 x12 x13 z1
      refine (supply_any A n c xs s1 A1 n1 c1 t1 B1 m1 d1 p wr (HS.out.below (Ext.trans Ewb1.out (Ext.trans Ew2.out (Ext.trans Ew3.out (Ext.trans Ew4.out (Ext.trans Ew5.out (Ext.trans Ew6.out (Ext.trans Ew7.out (Ext.trans Ew8.out (Ext.trans Ew9.out (Ext.trans Ew10.out (Ext.trans Ew11.out HEr.out)))))))))))) hn ⟨(H1.out.ext (Ext.trans Ewb1.out (Ext.trans Ew2.out (Ext.trans Ew3.out (Ext.trans Ew4.out (Ext.trans Ew5.out (Ext.trans Ew6.out (Ext.trans Ew7.out (Ext.trans Ew8.out (Ext.trans Ew9.out (Ext.trans Ew10.out (Ext.trans Ew11.out HEr.out)))))))))))), by omega, by omega⟩).mono ?_
      rintro e w40 ⟨rfl, hE⟩
      have Ew40 := Lib.hid hE
      clear hE
      obtain ⟨⟨x10, x11, x12, x13⟩, -, z1⟩ := (K1.out.ext (Ext.trans Ew2.out (Ext.trans Ew3.out (Ext.trans Ew4.out (Ext.trans Ew5.out (Ext.trans Ew6.out (Ext.trans Ew7.out (Ext.trans Ew8.out (Ext.trans Ew9.out (Ext.trans Ew10.out (Ext.trans Ew11.out (Ext.trans HEr.out Ew40.out))))))))))))
      go_wp2_with fail
      clear x10 x11 x12 x13 z1
      refine (demand_any A n c xs s1 A1 n1 c1 t1 B1 m1 d1 p w40 (HS.out.below (Ext.trans Ewb1.out (Ext.trans Ew2.out (Ext.trans Ew3.out (Ext.trans Ew4.out (Ext.trans Ew5.out (Ext.trans Ew6.out (Ext.trans Ew7.out (Ext.trans Ew8.out (Ext.trans Ew9.out (Ext.trans Ew10.out (Ext.trans Ew11.out (Ext.trans HEr.out Ew40.out))))))))))))) hn ⟨(H1.out.ext (Ext.trans Ewb1.out (Ext.trans Ew2.out (Ext.trans Ew3.out (Ext.trans Ew4.out (Ext.trans Ew5.out (Ext.trans Ew6.out (Ext.trans Ew7.out (Ext.trans Ew8.out (Ext.trans Ew9.out (Ext.trans Ew10.out (Ext.trans Ew11.out (Ext.trans HEr.out Ew40.out))))))))))))), by omega, by omega⟩).mono ?_
      rintro e w41 ⟨rfl, hE⟩
      have Ew41 := Lib.hid hE
      clear hE
      obtain ⟨l1, hl1⟩ : ∃ v, wantL false xs p = v := ⟨_, rfl⟩
      obtain ⟨u1, hu1⟩ : ∃ v, wantM false xs p = v := ⟨_, rfl⟩
      obtain ⟨ch, hch⟩ : ∃ v, chk false xs = v := ⟨_, rfl⟩
      rw [hl1, hu1, hch]
      by_cases hc0 : ch = 0
      rotate_left
      · have hb6 : (ch != 0) = true := by simp [hc0]
        clear hl1 hu1 hch hc0
        go_wp2_with fail
        go_roundw
        case rel => exact ⟨2, by omega, rfl, (Ext.trans HEr.out (Ext.trans Ew40.out Ew41.out))⟩
        case measure => simp [intOf]
      subst hc0
      have HF : Hid (0 ≤ l1 ∧ l1 ≤ u1 ∧ u1 ≤ total xs ∧ profit xs p (l1 : Int) true = profit xs p (u1 : Int) true ∧ (((l1 : Int) : Rat) ≤ q ∧ q ≤ ((u1 : Int) : Rat) → profit xs p q true = profit xs p (l1 : Int) true) ∧ (¬ (((l1 : Int) : Rat) ≤ q ∧ q ≤ ((u1 : Int) : Rat)) → profit xs p q true < profit xs p (l1 : Int) true)) := by
        have := opt_facts true (p := p) hch HQ0.out HQ1.out
        rw [show (!true) = false from rfl, hl1, hu1] at this
        exact this
      have hf1 := HF.out.1
      have hf2 := HF.out.2.1
      have hf3 : u1 ≤ tt := by rw [← Htt.out]; exact HF.out.2.2.1
      have hb7 : decide (l1 < 0) = false := by simp; omega
      have hb8 : decide (u1 < l1) = false := by simp; omega
      have hb9 : decide (tt < u1) = false := by simp; omega
      clear hl1 hu1 hch
      go_wp2_with fail
      refine (sum_any A n c xs w41 (HS.out.below (Ext.trans Ewb1.out (Ext.trans Ew2.out (Ext.trans Ew3.out (Ext.trans Ew4.out (Ext.trans Ew5.out (Ext.trans Ew6.out (Ext.trans Ew7.out (Ext.trans Ew8.out (Ext.trans Ew9.out (Ext.trans Ew10.out (Ext.trans Ew11.out (Ext.trans HEr.out (Ext.trans Ew40.out Ew41.out)))))))))))))) hn).mono ?_
      rintro e w42 ⟨rfl, hE⟩
      have Ew42 := Lib.hid hE
      clear hE
      rw [Htt.out]
      go_wp2_with fail
      refine wp_region_havS [17, 18, 19] [0, 1, 2, 3, 4, 5, 6, 7, 8, 9, 10, 11, 12, 13, 14, 15, 16] [20, 21, 22] (fun _ => .cells #[.bool false, .slice none 0 0, .bool false, .slice none 0 0] 33) (by kernel_rfl) (by kernel_rfl) ?_ ?_
      · intro f hf
        simp only [List.mem_cons, List.not_mem_nil, or_false] at hf
        rcases hf with rfl | rfl | rfl
        all_goals exact makes_q (by rfl) rfl
      have hE : Ext w42 w42.drew := Ext.rfl'.drew
      generalize w42.drew = w43 at *
      have Ew43 := Lib.hid hE
      clear hE
      have f10 := fun z : ExtX w43 [] => z.cell (p := ⟨w.heap.size, 0, none⟩) (K1.out.ext (Ext.trans Ew2.out (Ext.trans Ew3.out (Ext.trans Ew4.out (Ext.trans Ew5.out (Ext.trans Ew6.out (Ext.trans Ew7.out (Ext.trans Ew8.out (Ext.trans Ew9.out (Ext.trans Ew10.out (Ext.trans Ew11.out (Ext.trans HEr.out (Ext.trans Ew40.out (Ext.trans Ew41.out (Ext.trans Ew42.out Ew43.out))))))))))))))).1.1 (by simp)
      have f11 := fun z : ExtX w43 [] => z.cell (p := ⟨w.heap.size, 1, none⟩) (K1.out.ext (Ext.trans Ew2.out (Ext.trans Ew3.out (Ext.trans Ew4.out (Ext.trans Ew5.out (Ext.trans Ew6.out (Ext.trans Ew7.out (Ext.trans Ew8.out (Ext.trans Ew9.out (Ext.trans Ew10.out (Ext.trans Ew11.out (Ext.trans HEr.out (Ext.trans Ew40.out (Ext.trans Ew41.out (Ext.trans Ew42.out Ew43.out))))))))))))))).1.2.1 (by simp)
      have f12 := fun z : ExtX w43 [] => z.cell (p := ⟨w.heap.size, 2, none⟩) (K1.out.ext (Ext.trans Ew2.out (Ext.trans Ew3.out (Ext.trans Ew4.out (Ext.trans Ew5.out (Ext.trans Ew6.out (Ext.trans Ew7.out (Ext.trans Ew8.out (Ext.trans Ew9.out (Ext.trans Ew10.out (Ext.trans Ew11.out (Ext.trans HEr.out (Ext.trans Ew40.out (Ext.trans Ew41.out (Ext.trans Ew42.out Ew43.out))))))))))))))).1.2.2.1 (by simp)
      have f13 := fun z : ExtX w43 [] => z.cell (p := ⟨w.heap.size, 3, none⟩) (K1.out.ext (Ext.trans Ew2.out (Ext.trans Ew3.out (Ext.trans Ew4.out (Ext.trans Ew5.out (Ext.trans Ew6.out (Ext.trans Ew7.out (Ext.trans Ew8.out (Ext.trans Ew9.out (Ext.trans Ew10.out (Ext.trans Ew11.out (Ext.trans HEr.out (Ext.trans Ew40.out (Ext.trans Ew41.out (Ext.trans Ew42.out Ew43.out))))))))))))))).1.2.2.2 (by simp)
      have f20 := fun z : ExtX w43 [] => z.cell (p := ⟨w.heap.size + 1, 0, none⟩) (K2.out.ext (Ext.trans Ew2.out (Ext.trans Ew3.out (Ext.trans Ew4.out (Ext.trans Ew5.out (Ext.trans Ew6.out (Ext.trans Ew7.out (Ext.trans Ew8.out (Ext.trans Ew9.out (Ext.trans Ew10.out (Ext.trans Ew11.out (Ext.trans HEr.out (Ext.trans Ew40.out (Ext.trans Ew41.out (Ext.trans Ew42.out Ew43.out))))))))))))))).1.1 (by simp)
      have f21 := fun z : ExtX w43 [] => z.cell (p := ⟨w.heap.size + 1, 1, none⟩) (K2.out.ext (Ext.trans Ew2.out (Ext.trans Ew3.out (Ext.trans Ew4.out (Ext.trans Ew5.out (Ext.trans Ew6.out (Ext.trans Ew7.out (Ext.trans Ew8.out (Ext.trans Ew9.out (Ext.trans Ew10.out (Ext.trans Ew11.out (Ext.trans HEr.out (Ext.trans Ew40.out (Ext.trans Ew41.out (Ext.trans Ew42.out Ew43.out))))))))))))))).1.2.1 (by simp)
      have f22 := fun z : ExtX w43 [] => z.cell (p := ⟨w.heap.size + 1, 2, none⟩) (K2.out.ext (Ext.trans Ew2.out (Ext.trans Ew3.out (Ext.trans Ew4.out (Ext.trans Ew5.out (Ext.trans Ew6.out (Ext.trans Ew7.out (Ext.trans Ew8.out (Ext.trans Ew9.out (Ext.trans Ew10.out (Ext.trans Ew11.out (Ext.trans HEr.out (Ext.trans Ew40.out (Ext.trans Ew41.out (Ext.trans Ew42.out Ew43.out))))))))))))))).1.2.2.1 (by simp)
      have f23 := fun z : ExtX w43 [] => z.cell (p := ⟨w.heap.size + 1, 3, none⟩) (K2.out.ext (Ext.trans Ew2.out (Ext.trans Ew3.out (Ext.trans Ew4.out (Ext.trans Ew5.out (Ext.trans Ew6.out (Ext.trans Ew7.out (Ext.trans Ew8.out (Ext.trans Ew9.out (Ext.trans Ew10.out (Ext.trans Ew11.out (Ext.trans HEr.out (Ext.trans Ew40.out (Ext.trans Ew41.out (Ext.trans Ew42.out Ew43.out))))))))))))))).1.2.2.2 (by simp)
      intro w44 hE
      have Ew44 := Lib.hid hE
      clear hE
      repeat (refine havAt_still (by rfl) (by rfl) ?_; go_big_quiet_step (fail); refine wpQuiet_nil ?_)
      have HZl : Hid (Sz 1 ((l1 : Int) : Rat)) := sz_small (z := l1) (by omega) (by omega)
      have HZu : Hid (Sz 1 ((u1 : Int) : Rat)) := sz_small (z := u1) (by omega) (by omega)
      refine havAt_move (by rfl) (by rfl) (by kernel_rfl) ?_
      go_wp2_with fail
      refine (qfrom_any l1 w44 ⟨by omega, by omega⟩).mono ?_
      rintro e w45 ⟨si, Ai, ni, ci, ti, Bi, mi, di, rfl, hQ, hE⟩
      have Ew45 := Lib.hid hE
      clear hE
      have Qi := Lib.hid hQ
      clear hQ
      go_wp2_with fail
      refine And.intro Ew45.out (fun w46 hE => ?_)
      have Ew46 := Lib.hid hE
      clear hE
      repeat (refine havAt_still (by rfl) (by rfl) ?_; go_big_quiet_step (fail); refine wpQuiet_nil ?_)
      refine havAt_move (by rfl) (by rfl) (by kernel_rfl) ?_
      go_wp2_with fail
      refine (got_any A n c xs s1 A1 n1 c1 t1 B1 m1 d1 p si Ai ni ci ti Bi mi di ((l1 : Int) : Rat) true w46 (HS.out.below (Ext.trans Ewb1.out (Ext.trans Ew2.out (Ext.trans Ew3.out (Ext.trans Ew4.out (Ext.trans Ew5.out (Ext.trans Ew6.out (Ext.trans Ew7.out (Ext.trans Ew8.out (Ext.trans Ew9.out (Ext.trans Ew10.out (Ext.trans Ew11.out (Ext.trans HEr.out (Ext.trans Ew40.out (Ext.trans Ew41.out (Ext.trans Ew42.out (Ext.trans Ew43.out (Ext.trans Ew44.out (Ext.trans Ew45.out Ew46.out))))))))))))))))))) hn (H1.out.ext (Ext.trans Ewb1.out (Ext.trans Ew2.out (Ext.trans Ew3.out (Ext.trans Ew4.out (Ext.trans Ew5.out (Ext.trans Ew6.out (Ext.trans Ew7.out (Ext.trans Ew8.out (Ext.trans Ew9.out (Ext.trans Ew10.out (Ext.trans Ew11.out (Ext.trans HEr.out (Ext.trans Ew40.out (Ext.trans Ew41.out (Ext.trans Ew42.out (Ext.trans Ew43.out (Ext.trans Ew44.out (Ext.trans Ew45.out Ew46.out))))))))))))))))))) (Qi.out.ext Ew46.out).is (by omega) (by omega) (Nat.le_trans ((Qi.out.ext Ew46.out).len (sz_small (z := l1) (by omega) (by omega))).1 (by omega)) (Nat.le_trans ((Qi.out.ext Ew46.out).len (sz_small (z := l1) (by omega) (by omega))).2 (by omega))).mono ?_
      rintro e w47 ⟨sx, Ax, nx, cx, tx, Bx, mx, dx, rfl, hQ, hE⟩
      have Ew47 := Lib.hid hE
      clear hE
      have Qx := Lib.hid hQ
      clear hQ
      go_wp2_with fail
      refine And.intro Ew47.out (fun w48 hE => ?_)
      have Ew48 := Lib.hid hE
      clear hE
      repeat (refine havAt_still (by rfl) (by rfl) ?_; go_big_quiet_step (fail); refine wpQuiet_nil ?_)
      refine havAt_move (by rfl) (by rfl) (by kernel_rfl) ?_
      go_wp2_with fail
      refine (qfrom_any u1 w48 ⟨by omega, by omega⟩).mono ?_
      rintro e w49 ⟨sj, Aj, nj, cj, tj, Bj, mj, dj, rfl, hQ, hE⟩
      have Ew49 := Lib.hid hE
      clear hE
      have Qj := Lib.hid hQ
      clear hQ
      go_wp2_with fail
      refine And.intro Ew49.out (fun w50 hE => ?_)
      have Ew50 := Lib.hid hE
      clear hE
      repeat (refine havAt_still (by rfl) (by rfl) ?_; go_big_quiet_step (fail); refine wpQuiet_nil ?_)
      refine havAt_move (by rfl) (by rfl) (by kernel_rfl) ?_
      go_wp2_with fail
      refine (got_any A n c xs s1 A1 n1 c1 t1 B1 m1 d1 p sj Aj nj cj tj Bj mj dj ((u1 : Int) : Rat) true w50 (HS.out.below (Ext.trans Ewb1.out (Ext.trans Ew2.out (Ext.trans Ew3.out (Ext.trans Ew4.out (Ext.trans Ew5.out (Ext.trans Ew6.out (Ext.trans Ew7.out (Ext.trans Ew8.out (Ext.trans Ew9.out (Ext.trans Ew10.out (Ext.trans Ew11.out (Ext.trans HEr.out (Ext.trans Ew40.out (Ext.trans Ew41.out (Ext.trans Ew42.out (Ext.trans Ew43.out (Ext.trans Ew44.out (Ext.trans Ew45.out (Ext.trans Ew46.out (Ext.trans Ew47.out (Ext.trans Ew48.out (Ext.trans Ew49.out Ew50.out))))))))))))))))))))))) hn (H1.out.ext (Ext.trans Ewb1.out (Ext.trans Ew2.out (Ext.trans Ew3.out (Ext.trans Ew4.out (Ext.trans Ew5.out (Ext.trans Ew6.out (Ext.trans Ew7.out (Ext.trans Ew8.out (Ext.trans Ew9.out (Ext.trans Ew10.out (Ext.trans Ew11.out (Ext.trans HEr.out (Ext.trans Ew40.out (Ext.trans Ew41.out (Ext.trans Ew42.out (Ext.trans Ew43.out (Ext.trans Ew44.out (Ext.trans Ew45.out (Ext.trans Ew46.out (Ext.trans Ew47.out (Ext.trans Ew48.out (Ext.trans Ew49.out Ew50.out))))))))))))))))))))))) (Qj.out.ext Ew50.out).is (by omega) (by omega) (Nat.le_trans ((Qj.out.ext Ew50.out).len (sz_small (z := u1) (by omega) (by omega))).1 (by omega)) (Nat.le_trans ((Qj.out.ext Ew50.out).len (sz_small (z := u1) (by omega) (by omega))).2 (by omega))).mono ?_
      rintro e w51 ⟨sy, Ay, ny, cy, ty, By, my, dy, rfl, hQ, hE⟩
      have Ew51 := Lib.hid hE
      clear hE
      have Qy := Lib.hid hQ
      clear hQ
      go_wp2_with fail
      refine And.intro Ew51.out (fun w52 hE => ?_)
      have Ew52 := Lib.hid hE
      clear hE
      repeat (refine havAt_still (by rfl) (by rfl) ?_; go_big_quiet_step (fail); refine wpQuiet_nil ?_)
      refine havAt_move (by rfl) (by rfl) (by kernel_rfl) ?_
      go_wp2_with fail
      refine (got_any A n c xs s1 A1 n1 c1 t1 B1 m1 d1 p s2 A2 n2 c2 t2 B2 m2 d2 q true w52 (HS.out.below (Ext.trans Ewb1.out (Ext.trans Ew2.out (Ext.trans Ew3.out (Ext.trans Ew4.out (Ext.trans Ew5.out (Ext.trans Ew6.out (Ext.trans Ew7.out (Ext.trans Ew8.out (Ext.trans Ew9.out (Ext.trans Ew10.out (Ext.trans Ew11.out (Ext.trans HEr.out (Ext.trans Ew40.out (Ext.trans Ew41.out (Ext.trans Ew42.out (Ext.trans Ew43.out (Ext.trans Ew44.out (Ext.trans Ew45.out (Ext.trans Ew46.out (Ext.trans Ew47.out (Ext.trans Ew48.out (Ext.trans Ew49.out (Ext.trans Ew50.out (Ext.trans Ew51.out Ew52.out))))))))))))))))))))))))) hn (H1.out.ext (Ext.trans Ewb1.out (Ext.trans Ew2.out (Ext.trans Ew3.out (Ext.trans Ew4.out (Ext.trans Ew5.out (Ext.trans Ew6.out (Ext.trans Ew7.out (Ext.trans Ew8.out (Ext.trans Ew9.out (Ext.trans Ew10.out (Ext.trans Ew11.out (Ext.trans HEr.out (Ext.trans Ew40.out (Ext.trans Ew41.out (Ext.trans Ew42.out (Ext.trans Ew43.out (Ext.trans Ew44.out (Ext.trans Ew45.out (Ext.trans Ew46.out (Ext.trans Ew47.out (Ext.trans Ew48.out (Ext.trans Ew49.out (Ext.trans Ew50.out (Ext.trans Ew51.out Ew52.out))))))))))))))))))))))))) (H2.out.ext (Ext.trans Ewb1.out (Ext.trans Ew2.out (Ext.trans Ew3.out (Ext.trans Ew4.out (Ext.trans Ew5.out (Ext.trans Ew6.out (Ext.trans Ew7.out (Ext.trans Ew8.out (Ext.trans Ew9.out (Ext.trans Ew10.out (Ext.trans Ew11.out (Ext.trans HEr.out (Ext.trans Ew40.out (Ext.trans Ew41.out (Ext.trans Ew42.out (Ext.trans Ew43.out (Ext.trans Ew44.out (Ext.trans Ew45.out (Ext.trans Ew46.out (Ext.trans Ew47.out (Ext.trans Ew48.out (Ext.trans Ew49.out (Ext.trans Ew50.out (Ext.trans Ew51.out Ew52.out))))))))))))))))))))))))) (by omega) (by omega) (by omega) (by omega)).mono ?_
      rintro e w53 ⟨sz, Az, nz, cz, tz, Bz, mz, dz, rfl, hQ, hE⟩
      have Ew53 := Lib.hid hE
      clear hE
      have Qz := Lib.hid hQ
      clear hQ
      go_wp2_with fail
      refine And.intro Ew53.out (fun w54 hE => ?_)
      have Ew54 := Lib.hid hE
      clear hE
      repeat (refine havAt_still (by rfl) (by rfl) ?_; go_big_quiet_step (fail); refine wpQuiet_nil ?_)
      refine havAt_end ?_
      intro gs hgs hne
      have hpcx := hgs 17 (by simp)
      have hpcy := hgs 18 (by simp)
      have hpcz := hgs 19 (by simp)
      have hncxcy := hne 17 (by simp) 18 (by simp) (by omega)
      have hncxcz := hne 17 (by simp) 19 (by simp) (by omega)
      have hncycz := hne 18 (by simp) 19 (by simp) (by omega)
      change IdxAt _ _ _ _ _ _ (Act.put (Act.put (Act.put _ (some 12) (.pointer (some ⟨gs 17, 0, none⟩))) (some 13) (.pointer (some ⟨gs 18, 0, none⟩))) (some 14) (.pointer (some ⟨gs 19, 0, none⟩))) _
      generalize gs 17 = gcx at *
      generalize gs 18 = gcy at *
      generalize gs 19 = gcz at *
      clear hgs hne
      simp only [Act.put, List.setIfInBounds_toArray, List.set_cons_succ, List.set_cons_zero]
      have Pcx := Lib.hid hpcx
      have Kcx := Lib.hid (Cell4.of_blk hpcx.2.1)
      clear hpcx
      have Pcy := Lib.hid hpcy
      have Kcy := Lib.hid (Cell4.of_blk hpcy.2.1)
      clear hpcy
      have Pcz := Lib.hid hpcz
      have Kcz := Lib.hid (Cell4.of_blk hpcz.2.1)
      clear hpcz
      have HNcxcy := Lib.hid hncxcy
      clear hncxcy
      have HNcxcz := Lib.hid hncxcz
      clear hncxcz
      have HNcycz := Lib.hid hncycz
      clear hncycz
      repeat (refine idxAt_still (by rfl) (by rfl) ?_; go_big_quiet_step (fail); refine wpQuiet_nil ?_)
      obtain ⟨⟨o0, o1, o2, o3⟩, ⟨q0, q1, q2, q3⟩, ol⟩ := Kcx.out
      refine idxAt_move (by rfl) (by rfl) (by kernel_rfl) ?_
      go_wp2_with fail
      refine And.intro (inX_put (p := ⟨gcx, 3, none⟩) (inX_put (p := ⟨gcx, 2, none⟩) (inX_put (p := ⟨gcx, 1, none⟩) (inX_put (p := ⟨gcx, 0, none⟩) (inX_of_ext _ (Ext.trans Ew44.out (Ext.trans Ew45.out (Ext.trans Ew46.out (Ext.trans Ew47.out (Ext.trans Ew48.out (Ext.trans Ew49.out (Ext.trans Ew50.out (Ext.trans Ew51.out (Ext.trans Ew52.out (Ext.trans Ew53.out Ew54.out))))))))))) (.inr Pcx.out.1) _) (.inr Pcx.out.1) _) (.inr Pcx.out.1) _) (.inr Pcx.out.1) _) ?_
      clear o0 o1 o2 o3 q0 q1 q2 q3 ol
      have Kcx_4 := Lib.hid (Kcx.out.put4 (.bool sx) (.slice Ax nx cx) (.bool tx) (.slice Bx mx dx))
      have NJ4 := Lib.hid (ext_put4 (Ext.trans Ew44.out (Ext.trans Ew45.out (Ext.trans Ew46.out (Ext.trans Ew47.out (Ext.trans Ew48.out (Ext.trans Ew49.out (Ext.trans Ew50.out (Ext.trans Ew51.out (Ext.trans Ew52.out (Ext.trans Ew53.out Ew54.out)))))))))) (g := gcx) Pcx.out.1 0 (.bool sx) (.slice Ax nx cx) (.bool tx) (.slice Bx mx dx))
      have NZ4 : Hid (w54.heap.size ≤ (put4 w54 (gcx) 0 (.bool sx) (.slice Ax nx cx) (.bool tx) (.slice Bx mx dx)).heap.size) := by unfold Hid; rw [put4_size]; exact Nat.le_refl _
      have Qx_4 := Lib.hid ((Qx.out.ext (Ext.trans Ew48.out (Ext.trans Ew49.out (Ext.trans Ew50.out (Ext.trans Ew51.out (Ext.trans Ew52.out (Ext.trans Ew53.out Ew54.out))))))).put4A (g := gcx) (Qx.out.span (Pcx.out.2.2 (w46.heap.size, w47.heap.size) (by simp))) 0 (.bool sx) (.slice Ax nx cx) (.bool tx) (.slice Bx mx dx))
      have Qy_4 := Lib.hid ((Qy.out.ext (Ext.trans Ew52.out (Ext.trans Ew53.out Ew54.out))).put4A (g := gcx) (Qy.out.span (Pcx.out.2.2 (w50.heap.size, w51.heap.size) (by simp))) 0 (.bool sx) (.slice Ax nx cx) (.bool tx) (.slice Bx mx dx))
      have Qz_4 := Lib.hid ((Qz.out.ext Ew54.out).put4A (g := gcx) (Qz.out.span (Pcx.out.2.2 (w52.heap.size, w53.heap.size) (by simp))) 0 (.bool sx) (.slice Ax nx cx) (.bool tx) (.slice Bx mx dx))
      have Kcy_4 := Lib.hid (Kcy.out.far4 (g := gcx) (off := 0) HNcxcy.out (.bool sx) (.slice Ax nx cx) (.bool tx) (.slice Bx mx dx))
      have Kcz_4 := Lib.hid (Kcz.out.far4 (g := gcx) (off := 0) HNcxcz.out (.bool sx) (.slice Ax nx cx) (.bool tx) (.slice Bx mx dx))
      unfold put4 at Kcx_4 NJ4 NZ4 Qx_4 Qy_4 Qz_4 Kcy_4 Kcz_4
      simp only [Nat.zero_add] at Kcx_4 NJ4 NZ4 Qx_4 Qy_4 Qz_4 Kcy_4 Kcz_4
      generalize ((((w54.setCell ⟨gcx, 0, none⟩ (.bool sx)).setCell ⟨gcx, 1, none⟩ (.slice Ax nx cx)).setCell ⟨gcx, 2, none⟩ (.bool tx)).setCell ⟨gcx, 3, none⟩ (.slice Bx mx dx)) = w55 at *
      repeat (refine idxAt_still (by rfl) (by rfl) ?_; go_big_quiet_step (fail); refine wpQuiet_nil ?_)
      obtain ⟨⟨o0, o1, o2, o3⟩, ⟨q0, q1, q2, q3⟩, ol⟩ := Kcy_4.out
      refine idxAt_move (by rfl) (by rfl) (by kernel_rfl) ?_
      go_wp2_with fail
      refine And.intro (inX_put (p := ⟨gcy, 3, none⟩) (inX_put (p := ⟨gcy, 2, none⟩) (inX_put (p := ⟨gcy, 1, none⟩) (inX_put (p := ⟨gcy, 0, none⟩) (inX_of_ext _ NJ4.out) (.inr Pcy.out.1) _) (.inr Pcy.out.1) _) (.inr Pcy.out.1) _) (.inr Pcy.out.1) _) ?_
      clear o0 o1 o2 o3 q0 q1 q2 q3 ol
      have Kcy_5 := Lib.hid (Kcy_4.out.put4 (.bool sy) (.slice Ay ny cy) (.bool ty) (.slice By my dy))
      have NJ5 := Lib.hid (ext_put4 NJ4.out (g := gcy) Pcy.out.1 0 (.bool sy) (.slice Ay ny cy) (.bool ty) (.slice By my dy))
      have NZ5 : Hid (w55.heap.size ≤ (put4 w55 (gcy) 0 (.bool sy) (.slice Ay ny cy) (.bool ty) (.slice By my dy)).heap.size) := by unfold Hid; rw [put4_size]; exact Nat.le_refl _
      have Qx_5 := Lib.hid (Qx_4.out.put4A (g := gcy) (Qx.out.span (Pcy.out.2.2 (w46.heap.size, w47.heap.size) (by simp))) 0 (.bool sy) (.slice Ay ny cy) (.bool ty) (.slice By my dy))
      have Qy_5 := Lib.hid (Qy_4.out.put4A (g := gcy) (Qy.out.span (Pcy.out.2.2 (w50.heap.size, w51.heap.size) (by simp))) 0 (.bool sy) (.slice Ay ny cy) (.bool ty) (.slice By my dy))
      have Qz_5 := Lib.hid (Qz_4.out.put4A (g := gcy) (Qz.out.span (Pcy.out.2.2 (w52.heap.size, w53.heap.size) (by simp))) 0 (.bool sy) (.slice Ay ny cy) (.bool ty) (.slice By my dy))
      have Kcx_5 := Lib.hid (Kcx_4.out.far4 (g := gcy) (off := 0) (Ne.symm HNcxcy.out) (.bool sy) (.slice Ay ny cy) (.bool ty) (.slice By my dy))
      have Kcz_5 := Lib.hid (Kcz_4.out.far4 (g := gcy) (off := 0) HNcycz.out (.bool sy) (.slice Ay ny cy) (.bool ty) (.slice By my dy))
      unfold put4 at Kcy_5 NJ5 NZ5 Qx_5 Qy_5 Qz_5 Kcx_5 Kcz_5
      simp only [Nat.zero_add] at Kcy_5 NJ5 NZ5 Qx_5 Qy_5 Qz_5 Kcx_5 Kcz_5
      generalize ((((w55.setCell ⟨gcy, 0, none⟩ (.bool sy)).setCell ⟨gcy, 1, none⟩ (.slice Ay ny cy)).setCell ⟨gcy, 2, none⟩ (.bool ty)).setCell ⟨gcy, 3, none⟩ (.slice By my dy)) = w56 at *
      repeat (refine idxAt_still (by rfl) (by rfl) ?_; go_big_quiet_step (fail); refine wpQuiet_nil ?_)
      obtain ⟨⟨o0, o1, o2, o3⟩, ⟨q0, q1, q2, q3⟩, ol⟩ := Kcz_5.out
      refine idxAt_move (by rfl) (by rfl) (by kernel_rfl) ?_
      go_wp2_with fail
      refine And.intro (inX_put (p := ⟨gcz, 3, none⟩) (inX_put (p := ⟨gcz, 2, none⟩) (inX_put (p := ⟨gcz, 1, none⟩) (inX_put (p := ⟨gcz, 0, none⟩) (inX_of_ext _ NJ5.out) (.inr Pcz.out.1) _) (.inr Pcz.out.1) _) (.inr Pcz.out.1) _) (.inr Pcz.out.1) _) ?_
      clear o0 o1 o2 o3 q0 q1 q2 q3 ol
      have Kcz_6 := Lib.hid (Kcz_5.out.put4 (.bool sz) (.slice Az nz cz) (.bool tz) (.slice Bz mz dz))
      have NJ6 := Lib.hid (ext_put4 NJ5.out (g := gcz) Pcz.out.1 0 (.bool sz) (.slice Az nz cz) (.bool tz) (.slice Bz mz dz))
      have NZ6 : Hid (w56.heap.size ≤ (put4 w56 (gcz) 0 (.bool sz) (.slice Az nz cz) (.bool tz) (.slice Bz mz dz)).heap.size) := by unfold Hid; rw [put4_size]; exact Nat.le_refl _
      have Qx_6 := Lib.hid (Qx_5.out.put4A (g := gcz) (Qx.out.span (Pcz.out.2.2 (w46.heap.size, w47.heap.size) (by simp))) 0 (.bool sz) (.slice Az nz cz) (.bool tz) (.slice Bz mz dz))
      have Qy_6 := Lib.hid (Qy_5.out.put4A (g := gcz) (Qy.out.span (Pcz.out.2.2 (w50.heap.size, w51.heap.size) (by simp))) 0 (.bool sz) (.slice Az nz cz) (.bool tz) (.slice Bz mz dz))
      have Qz_6 := Lib.hid (Qz_5.out.put4A (g := gcz) (Qz.out.span (Pcz.out.2.2 (w52.heap.size, w53.heap.size) (by simp))) 0 (.bool sz) (.slice Az nz cz) (.bool tz) (.slice Bz mz dz))
      have Kcx_6 := Lib.hid (Kcx_5.out.far4 (g := gcz) (off := 0) (Ne.symm HNcxcz.out) (.bool sz) (.slice Az nz cz) (.bool tz) (.slice Bz mz dz))
      have Kcy_6 := Lib.hid (Kcy_5.out.far4 (g := gcz) (off := 0) (Ne.symm HNcycz.out) (.bool sz) (.slice Az nz cz) (.bool tz) (.slice Bz mz dz))
      unfold put4 at Kcz_6 NJ6 NZ6 Qx_6 Qy_6 Qz_6 Kcx_6 Kcy_6
      simp only [Nat.zero_add] at Kcz_6 NJ6 NZ6 Qx_6 Qy_6 Qz_6 Kcx_6 Kcy_6
      generalize ((((w56.setCell ⟨gcz, 0, none⟩ (.bool sz)).setCell ⟨gcz, 1, none⟩ (.slice Az nz cz)).setCell ⟨gcz, 2, none⟩ (.bool tz)).setCell ⟨gcz, 3, none⟩ (.slice Bz mz dz)) = w57 at *
      repeat (refine idxAt_still (by rfl) (by rfl) ?_; go_big_quiet_step (fail); refine wpQuiet_nil ?_)
      refine idxAt_nil ?_
      clear f10 f11 f12 f13 f20 f21 f22 f23
      go_wp2_with fail
      refine wp_region_lexS (C := InX w57.drew []) (by kernel_rfl) (by kernel_rfl) (inX_self _ _) ?_
      have hE : Ext w57 w57.drew := Ext.rfl'.drew
      generalize w57.drew = w58 at *
      have Ew58 := Lib.hid hE
      clear hE
      have f20 := fun z : ExtX w58 [] => z.cell (p := ⟨w.heap.size + 1, 0, none⟩) (K2.out.ext (Ext.trans Ew2.out (Ext.trans Ew3.out (Ext.trans Ew4.out (Ext.trans Ew5.out (Ext.trans Ew6.out (Ext.trans Ew7.out (Ext.trans Ew8.out (Ext.trans Ew9.out (Ext.trans Ew10.out (Ext.trans Ew11.out (Ext.trans HEr.out (Ext.trans Ew40.out (Ext.trans Ew41.out (Ext.trans Ew42.out (Ext.trans Ew43.out (Ext.trans NJ6.out Ew58.out))))))))))))))))).1.1 (by simp)
      have f21 := fun z : ExtX w58 [] => z.cell (p := ⟨w.heap.size + 1, 1, none⟩) (K2.out.ext (Ext.trans Ew2.out (Ext.trans Ew3.out (Ext.trans Ew4.out (Ext.trans Ew5.out (Ext.trans Ew6.out (Ext.trans Ew7.out (Ext.trans Ew8.out (Ext.trans Ew9.out (Ext.trans Ew10.out (Ext.trans Ew11.out (Ext.trans HEr.out (Ext.trans Ew40.out (Ext.trans Ew41.out (Ext.trans Ew42.out (Ext.trans Ew43.out (Ext.trans NJ6.out Ew58.out))))))))))))))))).1.2.1 (by simp)
      have f22 := fun z : ExtX w58 [] => z.cell (p := ⟨w.heap.size + 1, 2, none⟩) (K2.out.ext (Ext.trans Ew2.out (Ext.trans Ew3.out (Ext.trans Ew4.out (Ext.trans Ew5.out (Ext.trans Ew6.out (Ext.trans Ew7.out (Ext.trans Ew8.out (Ext.trans Ew9.out (Ext.trans Ew10.out (Ext.trans Ew11.out (Ext.trans HEr.out (Ext.trans Ew40.out (Ext.trans Ew41.out (Ext.trans Ew42.out (Ext.trans Ew43.out (Ext.trans NJ6.out Ew58.out))))))))))))))))).1.2.2.1 (by simp)
      have f23 := fun z : ExtX w58 [] => z.cell (p := ⟨w.heap.size + 1, 3, none⟩) (K2.out.ext (Ext.trans Ew2.out (Ext.trans Ew3.out (Ext.trans Ew4.out (Ext.trans Ew5.out (Ext.trans Ew6.out (Ext.trans Ew7.out (Ext.trans Ew8.out (Ext.trans Ew9.out (Ext.trans Ew10.out (Ext.trans Ew11.out (Ext.trans HEr.out (Ext.trans Ew40.out (Ext.trans Ew41.out (Ext.trans Ew42.out (Ext.trans Ew43.out (Ext.trans NJ6.out Ew58.out))))))))))))))))).1.2.2.2 (by simp)
      repeat (refine lexAt_still (by rfl) ?_; go_big_quiet_step (fail); refine wpQuiet_nil ?_)
      refine lexAt_move (by rfl) (by kernel_rfl) ?_
      go_wp2_with fail
      refine (qfrom_any l1 w58 ⟨by omega, by omega⟩).mono ?_
      rintro e w59 ⟨sb1, Ab1, nb1, cb1, tb1, Bb1, mb1, db1, rfl, hQ, hE⟩
      have Ew59 := Lib.hid hE
      clear hE
      have Qb1 := Lib.hid hQ
      clear hQ
      go_wp2_with fail
      refine And.intro (inX_of_ext _ Ew59.out) ?_
      repeat (refine lexAt_still (by rfl) ?_; go_big_quiet_step (fail); refine wpQuiet_nil ?_)
      refine lexAt_move (by rfl) (by kernel_rfl) ?_
      go_wp2_with fail
      refine (qcmp_any s2 A2 n2 c2 t2 B2 m2 d2 _ sb1 Ab1 nb1 cb1 tb1 Bb1 mb1 db1 _ w59 ⟨(H2.out.ext (Ext.trans Ewb1.out (Ext.trans Ew2.out (Ext.trans Ew3.out (Ext.trans Ew4.out (Ext.trans Ew5.out (Ext.trans Ew6.out (Ext.trans Ew7.out (Ext.trans Ew8.out (Ext.trans Ew9.out (Ext.trans Ew10.out (Ext.trans Ew11.out (Ext.trans HEr.out (Ext.trans Ew40.out (Ext.trans Ew41.out (Ext.trans Ew42.out (Ext.trans Ew43.out (Ext.trans NJ6.out (Ext.trans Ew58.out Ew59.out))))))))))))))))))), by omega, by omega⟩ (Qb1.out.arg (sz_small (z := l1) (by omega) (by omega)) (by omega))).mono ?_
      rintro e w60 ⟨rfl, hE⟩
      have Ew60 := Lib.hid hE
      clear hE
      obtain ⟨cma, hcma⟩ : ∃ x, cmpQ q ((l1 : Int) : Rat) = x := ⟨_, rfl⟩
      rw [hcma]
      have Hcma := Lib.hid hcma
      clear hcma
      by_cases hlo : q < ((l1 : Int) : Rat)
      · have hb11 : decide (0 ≤ cma) = false := by
          have : cma < 0 := by rw [← Hcma.out]; exact (cmpQ_neg _ _).2 hlo
          simp; omega
        have HIN : Hid (¬ (((l1 : Int) : Rat) ≤ q ∧ q ≤ ((u1 : Int) : Rat))) := fun h => Rat.not_lt.2 h.1 hlo
        clear hlo
        go_wp2_with fail
        refine And.intro (inX_of_ext _ (Ext.trans Ew59.out Ew60.out)) ?_
        repeat (refine lexAt_still (by rfl) ?_; go_big_quiet_step (fail); refine wpQuiet_nil ?_)
        refine lexAt_skip (by kernel_rfl) ?_
        simp only [Act.put, List.setIfInBounds_toArray, List.set_cons_succ, List.set_cons_zero]
        repeat (refine lexAt_still (by rfl) ?_; go_big_quiet_step (fail); refine wpQuiet_nil ?_)
        refine lexAt_skip (by kernel_rfl) ?_
        simp only [Act.put, List.setIfInBounds_toArray, List.set_cons_succ, List.set_cons_zero]
        repeat (refine lexAt_still (by rfl) ?_; go_big_quiet_step (fail); refine wpQuiet_nil ?_)
        refine lexAt_nil ?_
        clear f20 f21 f22 f23
        obtain ⟨⟨xcx0, xcx1, xcx2, xcx3⟩, -, zcx⟩ := (Kcx_6.out.ext (Ext.trans Ew58.out (Ext.trans Ew59.out Ew60.out)))
        obtain ⟨⟨xcy0, xcy1, xcy2, xcy3⟩, -, zcy⟩ := (Kcy_6.out.ext (Ext.trans Ew58.out (Ext.trans Ew59.out Ew60.out)))
        go_wp2_with fail
        clear xcx0 xcx1 xcx2 xcx3 zcx xcy0 xcy1 xcy2 xcy3 zcy
        refine (qequal_any sx Ax nx cx tx Bx mx dx _ sy Ay ny cy ty By my dy _ w60 ((Qx_6.out.ext (Ext.trans Ew58.out (Ext.trans Ew59.out Ew60.out))).arg (sz_profit true HZ1.out HZl.out (HZl.out.mono (by omega))) (by omega)) ((Qy_6.out.ext (Ext.trans Ew58.out (Ext.trans Ew59.out Ew60.out))).arg (sz_profit true HZ1.out HZu.out (HZu.out.mono (by omega))) (by omega))).mono ?_
        rintro e w61 ⟨rfl, hE⟩
        have Ew61 := Lib.hid hE
        clear hE
        rw [decide_eq_true HF.out.2.2.2.1]
        obtain ⟨⟨xcz0, xcz1, xcz2, xcz3⟩, -, zcz⟩ := (Kcz_6.out.ext (Ext.trans Ew58.out (Ext.trans Ew59.out (Ext.trans Ew60.out Ew61.out))))
        obtain ⟨⟨xcx0, xcx1, xcx2, xcx3⟩, -, zcx⟩ := (Kcx_6.out.ext (Ext.trans Ew58.out (Ext.trans Ew59.out (Ext.trans Ew60.out Ew61.out))))
        go_wp2_with fail
        clear xcz0 xcz1 xcz2 xcz3 zcz xcx0 xcx1 xcx2 xcx3 zcx
        refine (qcmp_any sz Az nz cz tz Bz mz dz _ sx Ax nx cx tx Bx mx dx _ w61 ((Qz_6.out.ext (Ext.trans Ew58.out (Ext.trans Ew59.out (Ext.trans Ew60.out Ew61.out)))).arg (sz_profit true HZ1.out HZ2.out (HZ2.out.mono (by omega))) (by omega)) ((Qx_6.out.ext (Ext.trans Ew58.out (Ext.trans Ew59.out (Ext.trans Ew60.out Ew61.out)))).arg (sz_profit true HZ1.out HZl.out (HZl.out.mono (by omega))) (by omega))).mono ?_
        rintro e w62 ⟨rfl, hE⟩
        have Ew62 := Lib.hid hE
        clear hE
        obtain ⟨cmz, hcmz⟩ : ∃ x, cmpQ (profit xs p q true) (profit xs p ((l1 : Int) : Rat) true) = x := ⟨_, rfl⟩
        rw [hcmz]
        have Hcmz := Lib.hid hcmz
        clear hcmz
        have hb13 : decide (0 ≤ cmz) = false := by
          have : cmz < 0 := by rw [← Hcmz.out]; exact (cmpQ_neg _ _).2 (HF.out.2.2.2.2.2 HIN.out)
          simp; omega
        go_wp2_with fail
        go_roundw
        case rel => exact ⟨2, by omega, rfl, (Ext.trans HEr.out (Ext.trans Ew40.out (Ext.trans Ew41.out (Ext.trans Ew42.out (Ext.trans Ew43.out (Ext.trans NJ6.out (Ext.trans Ew58.out (Ext.trans Ew59.out (Ext.trans Ew60.out (Ext.trans Ew61.out Ew62.out))))))))))⟩
        case measure => simp [intOf]
      have hb11 : decide (0 ≤ cma) = true := by
        have : ¬ cma < 0 := by rw [← Hcma.out]; exact fun e => hlo ((cmpQ_neg _ _).1 e)
        simp; omega
      go_wp2_with fail
      refine And.intro (inX_of_ext _ (Ext.trans Ew59.out Ew60.out)) ?_
      repeat (refine lexAt_still (by rfl) ?_; go_big_quiet_step (fail); refine wpQuiet_nil ?_)
      refine lexAt_move (by rfl) (by kernel_rfl) ?_
      go_wp2_with fail
      refine (qfrom_any u1 w60 ⟨by omega, by omega⟩).mono ?_
      rintro e w63 ⟨sb2, Ab2, nb2, cb2, tb2, Bb2, mb2, db2, rfl, hQ, hE⟩
      have Ew63 := Lib.hid hE
      clear hE
      have Qb2 := Lib.hid hQ
      clear hQ
      go_wp2_with fail
      refine And.intro (inX_of_ext _ (Ext.trans Ew59.out (Ext.trans Ew60.out Ew63.out))) ?_
      repeat (refine lexAt_still (by rfl) ?_; go_big_quiet_step (fail); refine wpQuiet_nil ?_)
      refine lexAt_move (by rfl) (by kernel_rfl) ?_
      go_wp2_with fail
      refine (qcmp_any s2 A2 n2 c2 t2 B2 m2 d2 _ sb2 Ab2 nb2 cb2 tb2 Bb2 mb2 db2 _ w63 ⟨(H2.out.ext (Ext.trans Ewb1.out (Ext.trans Ew2.out (Ext.trans Ew3.out (Ext.trans Ew4.out (Ext.trans Ew5.out (Ext.trans Ew6.out (Ext.trans Ew7.out (Ext.trans Ew8.out (Ext.trans Ew9.out (Ext.trans Ew10.out (Ext.trans Ew11.out (Ext.trans HEr.out (Ext.trans Ew40.out (Ext.trans Ew41.out (Ext.trans Ew42.out (Ext.trans Ew43.out (Ext.trans NJ6.out (Ext.trans Ew58.out (Ext.trans Ew59.out (Ext.trans Ew60.out Ew63.out))))))))))))))))))))), by omega, by omega⟩ (Qb2.out.arg (sz_small (z := u1) (by omega) (by omega)) (by omega))).mono ?_
      rintro e w64 ⟨rfl, hE⟩
      have Ew64 := Lib.hid hE
      clear hE
      obtain ⟨cmb, hcmb⟩ : ∃ x, cmpQ q ((u1 : Int) : Rat) = x := ⟨_, rfl⟩
      rw [hcmb]
      have Hcmb := Lib.hid hcmb
      clear hcmb
      by_cases hhi : ((u1 : Int) : Rat) < q
      · have hb12 : decide (cmb ≤ 0) = false := by
          have : 0 < cmb := by rw [← Hcmb.out]; exact (cmpQ_pos _ _).2 hhi
          simp; omega
        have HIN : Hid (¬ (((l1 : Int) : Rat) ≤ q ∧ q ≤ ((u1 : Int) : Rat))) := fun h => Rat.not_lt.2 h.2 hhi
        clear hlo hhi
        go_wp2_with fail
        refine And.intro (inX_of_ext _ (Ext.trans Ew59.out (Ext.trans Ew60.out (Ext.trans Ew63.out Ew64.out)))) ?_
        repeat (refine lexAt_still (by rfl) ?_; go_big_quiet_step (fail); refine wpQuiet_nil ?_)
        refine lexAt_nil ?_
        clear f20 f21 f22 f23
        obtain ⟨⟨xcx0, xcx1, xcx2, xcx3⟩, -, zcx⟩ := (Kcx_6.out.ext (Ext.trans Ew58.out (Ext.trans Ew59.out (Ext.trans Ew60.out (Ext.trans Ew63.out Ew64.out)))))
        obtain ⟨⟨xcy0, xcy1, xcy2, xcy3⟩, -, zcy⟩ := (Kcy_6.out.ext (Ext.trans Ew58.out (Ext.trans Ew59.out (Ext.trans Ew60.out (Ext.trans Ew63.out Ew64.out)))))
        go_wp2_with fail
        clear xcx0 xcx1 xcx2 xcx3 zcx xcy0 xcy1 xcy2 xcy3 zcy
        refine (qequal_any sx Ax nx cx tx Bx mx dx _ sy Ay ny cy ty By my dy _ w64 ((Qx_6.out.ext (Ext.trans Ew58.out (Ext.trans Ew59.out (Ext.trans Ew60.out (Ext.trans Ew63.out Ew64.out))))).arg (sz_profit true HZ1.out HZl.out (HZl.out.mono (by omega))) (by omega)) ((Qy_6.out.ext (Ext.trans Ew58.out (Ext.trans Ew59.out (Ext.trans Ew60.out (Ext.trans Ew63.out Ew64.out))))).arg (sz_profit true HZ1.out HZu.out (HZu.out.mono (by omega))) (by omega))).mono ?_
        rintro e w65 ⟨rfl, hE⟩
        have Ew65 := Lib.hid hE
        clear hE
        rw [decide_eq_true HF.out.2.2.2.1]
        obtain ⟨⟨xcz0, xcz1, xcz2, xcz3⟩, -, zcz⟩ := (Kcz_6.out.ext (Ext.trans Ew58.out (Ext.trans Ew59.out (Ext.trans Ew60.out (Ext.trans Ew63.out (Ext.trans Ew64.out Ew65.out))))))
        obtain ⟨⟨xcx0, xcx1, xcx2, xcx3⟩, -, zcx⟩ := (Kcx_6.out.ext (Ext.trans Ew58.out (Ext.trans Ew59.out (Ext.trans Ew60.out (Ext.trans Ew63.out (Ext.trans Ew64.out Ew65.out))))))
        go_wp2_with fail
        clear xcz0 xcz1 xcz2 xcz3 zcz xcx0 xcx1 xcx2 xcx3 zcx
        refine (qcmp_any sz Az nz cz tz Bz mz dz _ sx Ax nx cx tx Bx mx dx _ w65 ((Qz_6.out.ext (Ext.trans Ew58.out (Ext.trans Ew59.out (Ext.trans Ew60.out (Ext.trans Ew63.out (Ext.trans Ew64.out Ew65.out)))))).arg (sz_profit true HZ1.out HZ2.out (HZ2.out.mono (by omega))) (by omega)) ((Qx_6.out.ext (Ext.trans Ew58.out (Ext.trans Ew59.out (Ext.trans Ew60.out (Ext.trans Ew63.out (Ext.trans Ew64.out Ew65.out)))))).arg (sz_profit true HZ1.out HZl.out (HZl.out.mono (by omega))) (by omega))).mono ?_
        rintro e w66 ⟨rfl, hE⟩
        have Ew66 := Lib.hid hE
        clear hE
        obtain ⟨cmz, hcmz⟩ : ∃ x, cmpQ (profit xs p q true) (profit xs p ((l1 : Int) : Rat) true) = x := ⟨_, rfl⟩
        rw [hcmz]
        have Hcmz := Lib.hid hcmz
        clear hcmz
        have hb13 : decide (0 ≤ cmz) = false := by
          have : cmz < 0 := by rw [← Hcmz.out]; exact (cmpQ_neg _ _).2 (HF.out.2.2.2.2.2 HIN.out)
          simp; omega
        go_wp2_with fail
        go_roundw
        case rel => exact ⟨2, by omega, rfl, (Ext.trans HEr.out (Ext.trans Ew40.out (Ext.trans Ew41.out (Ext.trans Ew42.out (Ext.trans Ew43.out (Ext.trans NJ6.out (Ext.trans Ew58.out (Ext.trans Ew59.out (Ext.trans Ew60.out (Ext.trans Ew63.out (Ext.trans Ew64.out (Ext.trans Ew65.out Ew66.out))))))))))))⟩
        case measure => simp [intOf]
      have hb12 : decide (cmb ≤ 0) = true := by
        have : ¬ 0 < cmb := by rw [← Hcmb.out]; exact fun e => hhi ((cmpQ_pos _ _).1 e)
        simp; omega
      have HIN : Hid (((l1 : Int) : Rat) ≤ q ∧ q ≤ ((u1 : Int) : Rat)) := ⟨Rat.not_lt.1 hlo, Rat.not_lt.1 hhi⟩
      clear hlo hhi
      go_wp2_with fail
      refine And.intro (inX_of_ext _ (Ext.trans Ew59.out (Ext.trans Ew60.out (Ext.trans Ew63.out Ew64.out)))) ?_
      repeat (refine lexAt_still (by rfl) ?_; go_big_quiet_step (fail); refine wpQuiet_nil ?_)
      refine lexAt_nil ?_
      clear f20 f21 f22 f23
      obtain ⟨⟨xcx0, xcx1, xcx2, xcx3⟩, -, zcx⟩ := (Kcx_6.out.ext (Ext.trans Ew58.out (Ext.trans Ew59.out (Ext.trans Ew60.out (Ext.trans Ew63.out Ew64.out)))))
      obtain ⟨⟨xcy0, xcy1, xcy2, xcy3⟩, -, zcy⟩ := (Kcy_6.out.ext (Ext.trans Ew58.out (Ext.trans Ew59.out (Ext.trans Ew60.out (Ext.trans Ew63.out Ew64.out)))))
      go_wp2_with fail
      clear xcx0 xcx1 xcx2 xcx3 zcx xcy0 xcy1 xcy2 xcy3 zcy
      refine (qequal_any sx Ax nx cx tx Bx mx dx _ sy Ay ny cy ty By my dy _ w64 ((Qx_6.out.ext (Ext.trans Ew58.out (Ext.trans Ew59.out (Ext.trans Ew60.out (Ext.trans Ew63.out Ew64.out))))).arg (sz_profit true HZ1.out HZl.out (HZl.out.mono (by omega))) (by omega)) ((Qy_6.out.ext (Ext.trans Ew58.out (Ext.trans Ew59.out (Ext.trans Ew60.out (Ext.trans Ew63.out Ew64.out))))).arg (sz_profit true HZ1.out HZu.out (HZu.out.mono (by omega))) (by omega))).mono ?_
      rintro e w67 ⟨rfl, hE⟩
      have Ew67 := Lib.hid hE
      clear hE
      rw [decide_eq_true HF.out.2.2.2.1]
      obtain ⟨⟨xcz0, xcz1, xcz2, xcz3⟩, -, zcz⟩ := (Kcz_6.out.ext (Ext.trans Ew58.out (Ext.trans Ew59.out (Ext.trans Ew60.out (Ext.trans Ew63.out (Ext.trans Ew64.out Ew67.out))))))
      obtain ⟨⟨xcx0, xcx1, xcx2, xcx3⟩, -, zcx⟩ := (Kcx_6.out.ext (Ext.trans Ew58.out (Ext.trans Ew59.out (Ext.trans Ew60.out (Ext.trans Ew63.out (Ext.trans Ew64.out Ew67.out))))))
      go_wp2_with fail
      clear xcz0 xcz1 xcz2 xcz3 zcz xcx0 xcx1 xcx2 xcx3 zcx
      refine (qequal_any sz Az nz cz tz Bz mz dz _ sx Ax nx cx tx Bx mx dx _ w67 ((Qz_6.out.ext (Ext.trans Ew58.out (Ext.trans Ew59.out (Ext.trans Ew60.out (Ext.trans Ew63.out (Ext.trans Ew64.out Ew67.out)))))).arg (sz_profit true HZ1.out HZ2.out (HZ2.out.mono (by omega))) (by omega)) ((Qx_6.out.ext (Ext.trans Ew58.out (Ext.trans Ew59.out (Ext.trans Ew60.out (Ext.trans Ew63.out (Ext.trans Ew64.out Ew67.out)))))).arg (sz_profit true HZ1.out HZl.out (HZl.out.mono (by omega))) (by omega))).mono ?_
      rintro e w68 ⟨rfl, hE⟩
      have Ew68 := Lib.hid hE
      clear hE
      rw [decide_eq_true (HF.out.2.2.2.2.1 HIN.out)]
      go_wp2_with fail
      go_roundw
      case rel => exact ⟨2, by omega, rfl, (Ext.trans HEr.out (Ext.trans Ew40.out (Ext.trans Ew41.out (Ext.trans Ew42.out (Ext.trans Ew43.out (Ext.trans NJ6.out (Ext.trans Ew58.out (Ext.trans Ew59.out (Ext.trans Ew60.out (Ext.trans Ew63.out (Ext.trans Ew64.out (Ext.trans Ew67.out Ew68.out))))))))))))⟩
      case measure => simp [intOf]
    · go_wp2_with fail
      go_ret
      exact ⟨rfl, (Ext.trans Ewb1.out (Ext.trans Ew2.out (Ext.trans Ew3.out (Ext.trans Ew4.out (Ext.trans Ew5.out (Ext.trans Ew6.out (Ext.trans Ew7.out (Ext.trans Ew8.out (Ext.trans Ew9.out (Ext.trans Ew10.out (Ext.trans Ew11.out HEr.out)))))))))))⟩
end Go.Proofs.Ytppcpklnnbgcjaa
