/- A part of the proof. -/
import Derived.Test.YtjinpfnefeiooaaGreatRefStep
import Derived.Test.YtjinpfnefeiooaaGreatUnits
namespace Go.Proofs.YtjinpfnefeiooaaGreat
open Go.RowKit

set_option maxHeartbeats 400000 in
theorem rMax_any (u : U) (A : Option Addr) (n c : Nat) (w : World) (hs : StepsAt w A n u.steps) (hn : n ≤ maxLen) :
  Calls Tryz.prog 56 #[u.val A n c] w fun e w' => e = .returned (.int .i64 u.top) ∧ Ext w w' := by
 go_enter Tryz.func56, Tryz.ntmps56
 go_wp2_with fail
 refine (rOffer_any A n c u.steps _ (hs.below ((Below.refl _ _).alloc (Nat.le_refl _) _)) hn).mono ?_
 rintro e w1 ⟨rfl, hb1⟩
 have hE : Ext w w1 := Ext.new hb1
 by_cases hc : chk true u.steps = 0
 ·have hcb : (chk true u.steps != 0) = false := by simp [hc]
  have HC : Hid (u.top = total u.steps) := by unfold Hid U.top; rw [if_pos hc]
  clear hc
  have d2 : w1.cell? ⟨w.heap.size, 2, none⟩ = some (.slice A n c) := Ext.cellOf hb1 (by simp [go_sem])
  go_wp2_with fail
  refine (rSum_any A n c u.steps _ (hs.below hE) hn).mono ?_
  rintro e w2 ⟨rfl, hb2⟩
  go_wp2_with fail
  go_ret
  exact ⟨ret_int HC.out.symm, ET hE hb2⟩
 ·have hcb : (chk true u.steps != 0) = true := by simp [hc]
  have HC : Hid (u.top = 0) := by unfold Hid U.top; rw [if_neg hc]
  clear hc
  go_wp2_with fail
  go_ret
  exact ⟨ret_int HC.out.symm, hE⟩
theorem firstBad (u : U) : (¬ u.mn < 0 ∧ ¬ u.top < u.mn ∧ ¬ u.up < 1 ∧ ¬ 6 < u.up ∧ ¬ u.down < 1 ∧ ¬ 6 < u.down ∧ ¬ u.start < 0 ∧ ¬ 1000000000 < u.start ∧ ¬ u.idle < 0 ∧ ¬ 1000000000 < u.idle ∧ ¬ u.spin < 0 ∧ ¬ 1000000 < u.spin ∧ ¬ u.on = 0 ∧ ¬ u.on < -6 ∧ ¬ 6 < u.on) ∨ (u.mn < 0) ∨ (¬ u.mn < 0 ∧ u.top < u.mn) ∨ (¬ u.mn < 0 ∧ ¬ u.top < u.mn ∧ u.up < 1) ∨ (¬ u.mn < 0 ∧ ¬ u.top < u.mn ∧ ¬ u.up < 1 ∧ 6 < u.up) ∨ (¬ u.mn < 0 ∧ ¬ u.top < u.mn ∧ ¬ u.up < 1 ∧ ¬ 6 < u.up ∧ u.down < 1) ∨ (¬ u.mn < 0 ∧ ¬ u.top < u.mn ∧ ¬ u.up < 1 ∧ ¬ 6 < u.up ∧ ¬ u.down < 1 ∧ 6 < u.down) ∨ (¬ u.mn < 0 ∧ ¬ u.top < u.mn ∧ ¬ u.up < 1 ∧ ¬ 6 < u.up ∧ ¬ u.down < 1 ∧ ¬ 6 < u.down ∧ u.start < 0) ∨ (¬ u.mn < 0 ∧ ¬ u.top < u.mn ∧ ¬ u.up < 1 ∧ ¬ 6 < u.up ∧ ¬ u.down < 1 ∧ ¬ 6 < u.down ∧ ¬ u.start < 0 ∧ 1000000000 < u.start) ∨ (¬ u.mn < 0 ∧ ¬ u.top < u.mn ∧ ¬ u.up < 1 ∧ ¬ 6 < u.up ∧ ¬ u.down < 1 ∧ ¬ 6 < u.down ∧ ¬ u.start < 0 ∧ ¬ 1000000000 < u.start ∧ u.idle < 0) ∨ (¬ u.mn < 0 ∧ ¬ u.top < u.mn ∧ ¬ u.up < 1 ∧ ¬ 6 < u.up ∧ ¬ u.down < 1 ∧ ¬ 6 < u.down ∧ ¬ u.start < 0 ∧ ¬ 1000000000 < u.start ∧ ¬ u.idle < 0 ∧ 1000000000 < u.idle) ∨ (¬ u.mn < 0 ∧ ¬ u.top < u.mn ∧ ¬ u.up < 1 ∧ ¬ 6 < u.up ∧ ¬ u.down < 1 ∧ ¬ 6 < u.down ∧ ¬ u.start < 0 ∧ ¬ 1000000000 < u.start ∧ ¬ u.idle < 0 ∧ ¬ 1000000000 < u.idle ∧ u.spin < 0) ∨ (¬ u.mn < 0 ∧ ¬ u.top < u.mn ∧ ¬ u.up < 1 ∧ ¬ 6 < u.up ∧ ¬ u.down < 1 ∧ ¬ 6 < u.down ∧ ¬ u.start < 0 ∧ ¬ 1000000000 < u.start ∧ ¬ u.idle < 0 ∧ ¬ 1000000000 < u.idle ∧ ¬ u.spin < 0 ∧ 1000000 < u.spin) ∨ (¬ u.mn < 0 ∧ ¬ u.top < u.mn ∧ ¬ u.up < 1 ∧ ¬ 6 < u.up ∧ ¬ u.down < 1 ∧ ¬ 6 < u.down ∧ ¬ u.start < 0 ∧ ¬ 1000000000 < u.start ∧ ¬ u.idle < 0 ∧ ¬ 1000000000 < u.idle ∧ ¬ u.spin < 0 ∧ ¬ 1000000 < u.spin ∧ u.on = 0) ∨ (¬ u.mn < 0 ∧ ¬ u.top < u.mn ∧ ¬ u.up < 1 ∧ ¬ 6 < u.up ∧ ¬ u.down < 1 ∧ ¬ 6 < u.down ∧ ¬ u.start < 0 ∧ ¬ 1000000000 < u.start ∧ ¬ u.idle < 0 ∧ ¬ 1000000000 < u.idle ∧ ¬ u.spin < 0 ∧ ¬ 1000000 < u.spin ∧ ¬ u.on = 0 ∧ u.on < -6) ∨ (¬ u.mn < 0 ∧ ¬ u.top < u.mn ∧ ¬ u.up < 1 ∧ ¬ 6 < u.up ∧ ¬ u.down < 1 ∧ ¬ 6 < u.down ∧ ¬ u.start < 0 ∧ ¬ 1000000000 < u.start ∧ ¬ u.idle < 0 ∧ ¬ 1000000000 < u.idle ∧ ¬ u.spin < 0 ∧ ¬ 1000000 < u.spin ∧ ¬ u.on = 0 ∧ ¬ u.on < -6 ∧ 6 < u.on) := by
 by_cases h0 : u.mn < 0
 ·exact .inr (.inl h0)
 by_cases h1 : u.top < u.mn
 ·exact .inr (.inr (.inl ⟨h0, h1⟩))
 by_cases h2 : u.up < 1
 ·exact .inr (.inr (.inr (.inl ⟨h0, h1, h2⟩)))
 by_cases h3 : 6 < u.up
 ·exact .inr (.inr (.inr (.inr (.inl ⟨h0, h1, h2, h3⟩))))
 by_cases h4 : u.down < 1
 ·exact .inr (.inr (.inr (.inr (.inr (.inl ⟨h0, h1, h2, h3, h4⟩)))))
 by_cases h5 : 6 < u.down
 ·exact .inr (.inr (.inr (.inr (.inr (.inr (.inl ⟨h0, h1, h2, h3, h4, h5⟩))))))
 by_cases h6 : u.start < 0
 ·exact .inr (.inr (.inr (.inr (.inr (.inr (.inr (.inl ⟨h0, h1, h2, h3, h4, h5, h6⟩)))))))
 by_cases h7 : 1000000000 < u.start
 ·exact .inr (.inr (.inr (.inr (.inr (.inr (.inr (.inr (.inl ⟨h0, h1, h2, h3, h4, h5, h6, h7⟩))))))))
 by_cases h8 : u.idle < 0
 ·exact .inr (.inr (.inr (.inr (.inr (.inr (.inr (.inr (.inr (.inl ⟨h0, h1, h2, h3, h4, h5, h6, h7, h8⟩)))))))))
 by_cases h9 : 1000000000 < u.idle
 ·exact .inr (.inr (.inr (.inr (.inr (.inr (.inr (.inr (.inr (.inr (.inl ⟨h0, h1, h2, h3, h4, h5, h6, h7, h8, h9⟩))))))))))
 by_cases h10 : u.spin < 0
 ·exact .inr (.inr (.inr (.inr (.inr (.inr (.inr (.inr (.inr (.inr (.inr (.inl ⟨h0, h1, h2, h3, h4, h5, h6, h7, h8, h9, h10⟩)))))))))))
 by_cases h11 : 1000000 < u.spin
 ·exact .inr (.inr (.inr (.inr (.inr (.inr (.inr (.inr (.inr (.inr (.inr (.inr (.inl ⟨h0, h1, h2, h3, h4, h5, h6, h7, h8, h9, h10, h11⟩))))))))))))
 by_cases h12 : u.on = 0
 ·exact .inr (.inr (.inr (.inr (.inr (.inr (.inr (.inr (.inr (.inr (.inr (.inr (.inr (.inl ⟨h0, h1, h2, h3, h4, h5, h6, h7, h8, h9, h10, h11, h12⟩)))))))))))))
 by_cases h13 : u.on < -6
 ·exact .inr (.inr (.inr (.inr (.inr (.inr (.inr (.inr (.inr (.inr (.inr (.inr (.inr (.inr (.inl ⟨h0, h1, h2, h3, h4, h5, h6, h7, h8, h9, h10, h11, h12, h13⟩))))))))))))))
 by_cases h14 : 6 < u.on
 ·exact .inr (.inr (.inr (.inr (.inr (.inr (.inr (.inr (.inr (.inr (.inr (.inr (.inr (.inr (.inr (⟨h0, h1, h2, h3, h4, h5, h6, h7, h8, h9, h10, h11, h12, h13, h14⟩)))))))))))))))
 exact .inl ⟨h0, h1, h2, h3, h4, h5, h6, h7, h8, h9, h10, h11, h12, h13, h14⟩
theorem restOk {u : U} (hc : chk true u.steps = 0) (h : ¬ u.mn < 0 ∧ ¬ u.top < u.mn ∧ ¬ u.up < 1 ∧ ¬ 6 < u.up ∧ ¬ u.down < 1 ∧ ¬ 6 < u.down ∧ ¬ u.start < 0 ∧ ¬ 1000000000 < u.start ∧ ¬ u.idle < 0 ∧ ¬ 1000000000 < u.idle ∧ ¬ u.spin < 0 ∧ ¬ 1000000 < u.spin ∧ ¬ u.on = 0 ∧ ¬ u.on < -6 ∧ ¬ 6 < u.on) : (u.okMin && u.okHold && u.okMoney && u.okSpin && u.okOn) = true := by
 have ht : u.top = total u.steps := by unfold U.top; rw [if_pos hc]
 rw [ht] at h
 simp only [U.okMin, U.okHold, U.okMoney, U.okSpin, U.okOn, Bool.and_eq_true, decide_eq_true_eq]
 omega
theorem restBad {u : U} (hc : chk true u.steps = 0) (h : ¬ (¬ u.mn < 0 ∧ ¬ u.top < u.mn ∧ ¬ u.up < 1 ∧ ¬ 6 < u.up ∧ ¬ u.down < 1 ∧ ¬ 6 < u.down ∧ ¬ u.start < 0 ∧ ¬ 1000000000 < u.start ∧ ¬ u.idle < 0 ∧ ¬ 1000000000 < u.idle ∧ ¬ u.spin < 0 ∧ ¬ 1000000 < u.spin ∧ ¬ u.on = 0 ∧ ¬ u.on < -6 ∧ ¬ 6 < u.on)) : ¬ (u.okMin && u.okHold && u.okMoney && u.okSpin && u.okOn) = true := by
 have ht : u.top = total u.steps := by unfold U.top; rw [if_pos hc]
 rw [ht] at h
 simp only [U.okMin, U.okHold, U.okMoney, U.okSpin, U.okOn, Bool.and_eq_true, decide_eq_true_eq]
 omega
set_option maxRecDepth 100000 in
set_option maxHeartbeats 16000000 in
theorem rCheck_any (u : U) (buses : Int) (A : Option Addr) (n c : Nat) (w : World) (hs : StepsAt w A n u.steps) (hn : n ≤ maxLen) :
  Calls Tryz.prog 31 #[u.val A n c, .int .i64 buses] w fun e w' => e = .returned (.int .i64 (u.check buses)) ∧ Ext w w' := by
 by_cases hbus : u.okBus buses = true
 ·have hbus' := hbus
  simp only [U.okBus, Bool.and_eq_true, decide_eq_true_eq] at hbus'
  obtain ⟨b1, b2⟩ := hbus'
  have HB := LH hbus; clear hbus
  go_enter Tryz.func31, Tryz.ntmps31
  go_wp2_with fail
  refine (rOffer_any A n c u.steps _ (hs.below ((Below.refl _ _).alloc (Nat.le_refl _) _)) hn).mono ?_
  rintro e w1 ⟨rfl, hb1⟩
  have hE : Ext w w1 := Ext.new hb1
  by_cases hc : chk true u.steps = 0
  ·have hcb : (chk true u.steps != 0) = false := by simp [hc]
   have HC := LH hc; clear hc
   obtain ⟨d0, d1, d2, d3, d4, d5, d6, d7, d8⟩ := (ubox w u A n c).ext hb1
   have x0 := fun x : ExtOf w1 => x.cell d0
   have x1 := fun x : ExtOf w1 => x.cell d1
   have x2 := fun x : ExtOf w1 => x.cell d2
   have x3 := fun x : ExtOf w1 => x.cell d3
   have x4 := fun x : ExtOf w1 => x.cell d4
   have x5 := fun x : ExtOf w1 => x.cell d5
   have x6 := fun x : ExtOf w1 => x.cell d6
   have x7 := fun x : ExtOf w1 => x.cell d7
   have x8 := fun x : ExtOf w1 => x.cell d8
   have K1 := LH (fun wx (h : Ext w1 wx) => rMax_any u A n c wx ((hs.below hE).below h) hn)
   go_wp2_with fail
   refine wp_region_ext (by kernel_rfl) (by kernel_rfl) ?_
   simp only [List.append]
   clear d0 d1 d2 d3 d4 d5 d6 d7 d8 hcb b1 b2
   rcases firstBad u with hg | hd
   ·have HX : Hid (u.check buses = 0) := ucheck_ok HB.out HC.out (restOk HC.out hg)
    obtain ⟨k0, k1, k2, k3, k4, k5, k6, k7, k8, k9, k10, k11, k12, k13, k14⟩ := hg
    have hb0 : decide (u.mn < 0) = false := by simp; omega
    have hb1 : decide (u.top < u.mn) = false := by simp; omega
    have hb2 : decide (u.up < 1) = false := by simp; omega
    have hb3 : decide (6 < u.up) = false := by simp; omega
    have hb4 : decide (u.down < 1) = false := by simp; omega
    have hb5 : decide (6 < u.down) = false := by simp; omega
    have hb6 : decide (u.start < 0) = false := by simp; omega
    have hb7 : decide (1000000000 < u.start) = false := by simp; omega
    have hb8 : decide (u.idle < 0) = false := by simp; omega
    have hb9 : decide (1000000000 < u.idle) = false := by simp; omega
    have hb10 : decide (u.spin < 0) = false := by simp; omega
    have hb11 : decide (1000000 < u.spin) = false := by simp; omega
    have hb12 : (u.on == 0) = false := by simp; omega
    have hb13 : decide (u.on < -6) = false := by simp; omega
    have hb14 : decide (6 < u.on) = false := by simp; omega
    clear k0 k1 k2 k3 k4 k5 k6 k7 k8 k9 k10 k11 k12 k13 k14
    repeat (go_big_quiet_step (exact ext_call (K1.out _ (ExtOf.h _))))
    refine wpQuiet_nil ?_
    rintro _ ⟨x, rfl⟩
    clear x0 x1 x2 x3 x4 x5 x6 x7 x8
    go_wp2_with fail
    go_ret
    exact ⟨ret_int HX.out.symm, ET hE x.h⟩
   ·rcases hd with h | h | h | h | h | h | h | h | h | h | h | h | h | h | h
    ·have HX : Hid (u.check buses = 1) := by
      exact ucheck_bad HB.out HC.out (restBad HC.out fun hg => hg.1 h)
     have hb0 : decide (u.mn < 0) = true := by simp; omega
     clear h
     repeat (go_big_quiet_step (exact ext_call (K1.out _ (ExtOf.h _))))
     refine wpQuiet_nil ?_
     rintro _ ⟨x, rfl⟩
     clear x0 x1 x2 x3 x4 x5 x6 x7 x8
     go_wp2_with fail
     go_ret
     exact ⟨ret_int HX.out.symm, ET hE x.h⟩
    ·have HX : Hid (u.check buses = 1) := by
      obtain ⟨k0, k1⟩ := h
      exact ucheck_bad HB.out HC.out (restBad HC.out fun hg => hg.2.1 k1)
     have hb0 : decide (u.mn < 0) = false := by simp; omega
     have hb1 : decide (u.top < u.mn) = true := by simp; omega
     clear h
     repeat (go_big_quiet_step (exact ext_call (K1.out _ (ExtOf.h _))))
     refine wpQuiet_nil ?_
     rintro _ ⟨x, rfl⟩
     clear x0 x1 x2 x3 x4 x5 x6 x7 x8
     go_wp2_with fail
     go_ret
     exact ⟨ret_int HX.out.symm, ET hE x.h⟩
    ·have HX : Hid (u.check buses = 1) := by
      obtain ⟨k0, k1, k2⟩ := h
      exact ucheck_bad HB.out HC.out (restBad HC.out fun hg => hg.2.2.1 k2)
     have hb0 : decide (u.mn < 0) = false := by simp; omega
     have hb1 : decide (u.top < u.mn) = false := by simp; omega
     have hb2 : decide (u.up < 1) = true := by simp; omega
     clear h
     repeat (go_big_quiet_step (exact ext_call (K1.out _ (ExtOf.h _))))
     refine wpQuiet_nil ?_
     rintro _ ⟨x, rfl⟩
     clear x0 x1 x2 x3 x4 x5 x6 x7 x8
     go_wp2_with fail
     go_ret
     exact ⟨ret_int HX.out.symm, ET hE x.h⟩
    ·have HX : Hid (u.check buses = 1) := by
      obtain ⟨k0, k1, k2, k3⟩ := h
      exact ucheck_bad HB.out HC.out (restBad HC.out fun hg => hg.2.2.2.1 k3)
     have hb0 : decide (u.mn < 0) = false := by simp; omega
     have hb1 : decide (u.top < u.mn) = false := by simp; omega
     have hb2 : decide (u.up < 1) = false := by simp; omega
     have hb3 : decide (6 < u.up) = true := by simp; omega
     clear h
     repeat (go_big_quiet_step (exact ext_call (K1.out _ (ExtOf.h _))))
     refine wpQuiet_nil ?_
     rintro _ ⟨x, rfl⟩
     clear x0 x1 x2 x3 x4 x5 x6 x7 x8
     go_wp2_with fail
     go_ret
     exact ⟨ret_int HX.out.symm, ET hE x.h⟩
    ·have HX : Hid (u.check buses = 1) := by
      obtain ⟨k0, k1, k2, k3, k4⟩ := h
      exact ucheck_bad HB.out HC.out (restBad HC.out fun hg => hg.2.2.2.2.1 k4)
     have hb0 : decide (u.mn < 0) = false := by simp; omega
     have hb1 : decide (u.top < u.mn) = false := by simp; omega
     have hb2 : decide (u.up < 1) = false := by simp; omega
     have hb3 : decide (6 < u.up) = false := by simp; omega
     have hb4 : decide (u.down < 1) = true := by simp; omega
     clear h
     repeat (go_big_quiet_step (exact ext_call (K1.out _ (ExtOf.h _))))
     refine wpQuiet_nil ?_
     rintro _ ⟨x, rfl⟩
     clear x0 x1 x2 x3 x4 x5 x6 x7 x8
     go_wp2_with fail
     go_ret
     exact ⟨ret_int HX.out.symm, ET hE x.h⟩
    ·have HX : Hid (u.check buses = 1) := by
      obtain ⟨k0, k1, k2, k3, k4, k5⟩ := h
      exact ucheck_bad HB.out HC.out (restBad HC.out fun hg => hg.2.2.2.2.2.1 k5)
     have hb0 : decide (u.mn < 0) = false := by simp; omega
     have hb1 : decide (u.top < u.mn) = false := by simp; omega
     have hb2 : decide (u.up < 1) = false := by simp; omega
     have hb3 : decide (6 < u.up) = false := by simp; omega
     have hb4 : decide (u.down < 1) = false := by simp; omega
     have hb5 : decide (6 < u.down) = true := by simp; omega
     clear h
     repeat (go_big_quiet_step (exact ext_call (K1.out _ (ExtOf.h _))))
     refine wpQuiet_nil ?_
     rintro _ ⟨x, rfl⟩
     clear x0 x1 x2 x3 x4 x5 x6 x7 x8
     go_wp2_with fail
     go_ret
     exact ⟨ret_int HX.out.symm, ET hE x.h⟩
    ·have HX : Hid (u.check buses = 1) := by
      obtain ⟨k0, k1, k2, k3, k4, k5, k6⟩ := h
      exact ucheck_bad HB.out HC.out (restBad HC.out fun hg => hg.2.2.2.2.2.2.1 k6)
     have hb0 : decide (u.mn < 0) = false := by simp; omega
     have hb1 : decide (u.top < u.mn) = false := by simp; omega
     have hb2 : decide (u.up < 1) = false := by simp; omega
     have hb3 : decide (6 < u.up) = false := by simp; omega
     have hb4 : decide (u.down < 1) = false := by simp; omega
     have hb5 : decide (6 < u.down) = false := by simp; omega
     have hb6 : decide (u.start < 0) = true := by simp; omega
     clear h
     repeat (go_big_quiet_step (exact ext_call (K1.out _ (ExtOf.h _))))
     refine wpQuiet_nil ?_
     rintro _ ⟨x, rfl⟩
     clear x0 x1 x2 x3 x4 x5 x6 x7 x8
     go_wp2_with fail
     go_ret
     exact ⟨ret_int HX.out.symm, ET hE x.h⟩
    ·have HX : Hid (u.check buses = 1) := by
      obtain ⟨k0, k1, k2, k3, k4, k5, k6, k7⟩ := h
      exact ucheck_bad HB.out HC.out (restBad HC.out fun hg => hg.2.2.2.2.2.2.2.1 k7)
     have hb0 : decide (u.mn < 0) = false := by simp; omega
     have hb1 : decide (u.top < u.mn) = false := by simp; omega
     have hb2 : decide (u.up < 1) = false := by simp; omega
     have hb3 : decide (6 < u.up) = false := by simp; omega
     have hb4 : decide (u.down < 1) = false := by simp; omega
     have hb5 : decide (6 < u.down) = false := by simp; omega
     have hb6 : decide (u.start < 0) = false := by simp; omega
     have hb7 : decide (1000000000 < u.start) = true := by simp; omega
     clear h
     repeat (go_big_quiet_step (exact ext_call (K1.out _ (ExtOf.h _))))
     refine wpQuiet_nil ?_
     rintro _ ⟨x, rfl⟩
     clear x0 x1 x2 x3 x4 x5 x6 x7 x8
     go_wp2_with fail
     go_ret
     exact ⟨ret_int HX.out.symm, ET hE x.h⟩
    ·have HX : Hid (u.check buses = 1) := by
      obtain ⟨k0, k1, k2, k3, k4, k5, k6, k7, k8⟩ := h
      exact ucheck_bad HB.out HC.out (restBad HC.out fun hg => hg.2.2.2.2.2.2.2.2.1 k8)
     have hb0 : decide (u.mn < 0) = false := by simp; omega
     have hb1 : decide (u.top < u.mn) = false := by simp; omega
     have hb2 : decide (u.up < 1) = false := by simp; omega
     have hb3 : decide (6 < u.up) = false := by simp; omega
     have hb4 : decide (u.down < 1) = false := by simp; omega
     have hb5 : decide (6 < u.down) = false := by simp; omega
     have hb6 : decide (u.start < 0) = false := by simp; omega
     have hb7 : decide (1000000000 < u.start) = false := by simp; omega
     have hb8 : decide (u.idle < 0) = true := by simp; omega
     clear h
     repeat (go_big_quiet_step (exact ext_call (K1.out _ (ExtOf.h _))))
     refine wpQuiet_nil ?_
     rintro _ ⟨x, rfl⟩
     clear x0 x1 x2 x3 x4 x5 x6 x7 x8
     go_wp2_with fail
     go_ret
     exact ⟨ret_int HX.out.symm, ET hE x.h⟩
    ·have HX : Hid (u.check buses = 1) := by
      obtain ⟨k0, k1, k2, k3, k4, k5, k6, k7, k8, k9⟩ := h
      exact ucheck_bad HB.out HC.out (restBad HC.out fun hg => hg.2.2.2.2.2.2.2.2.2.1 k9)
     have hb0 : decide (u.mn < 0) = false := by simp; omega
     have hb1 : decide (u.top < u.mn) = false := by simp; omega
     have hb2 : decide (u.up < 1) = false := by simp; omega
     have hb3 : decide (6 < u.up) = false := by simp; omega
     have hb4 : decide (u.down < 1) = false := by simp; omega
     have hb5 : decide (6 < u.down) = false := by simp; omega
     have hb6 : decide (u.start < 0) = false := by simp; omega
     have hb7 : decide (1000000000 < u.start) = false := by simp; omega
     have hb8 : decide (u.idle < 0) = false := by simp; omega
     have hb9 : decide (1000000000 < u.idle) = true := by simp; omega
     clear h
     repeat (go_big_quiet_step (exact ext_call (K1.out _ (ExtOf.h _))))
     refine wpQuiet_nil ?_
     rintro _ ⟨x, rfl⟩
     clear x0 x1 x2 x3 x4 x5 x6 x7 x8
     go_wp2_with fail
     go_ret
     exact ⟨ret_int HX.out.symm, ET hE x.h⟩
    ·have HX : Hid (u.check buses = 1) := by
      obtain ⟨k0, k1, k2, k3, k4, k5, k6, k7, k8, k9, k10⟩ := h
      exact ucheck_bad HB.out HC.out (restBad HC.out fun hg => hg.2.2.2.2.2.2.2.2.2.2.1 k10)
     have hb0 : decide (u.mn < 0) = false := by simp; omega
     have hb1 : decide (u.top < u.mn) = false := by simp; omega
     have hb2 : decide (u.up < 1) = false := by simp; omega
     have hb3 : decide (6 < u.up) = false := by simp; omega
     have hb4 : decide (u.down < 1) = false := by simp; omega
     have hb5 : decide (6 < u.down) = false := by simp; omega
     have hb6 : decide (u.start < 0) = false := by simp; omega
     have hb7 : decide (1000000000 < u.start) = false := by simp; omega
     have hb8 : decide (u.idle < 0) = false := by simp; omega
     have hb9 : decide (1000000000 < u.idle) = false := by simp; omega
     have hb10 : decide (u.spin < 0) = true := by simp; omega
     clear h
     repeat (go_big_quiet_step (exact ext_call (K1.out _ (ExtOf.h _))))
     refine wpQuiet_nil ?_
     rintro _ ⟨x, rfl⟩
     clear x0 x1 x2 x3 x4 x5 x6 x7 x8
     go_wp2_with fail
     go_ret
     exact ⟨ret_int HX.out.symm, ET hE x.h⟩
    ·have HX : Hid (u.check buses = 1) := by
      obtain ⟨k0, k1, k2, k3, k4, k5, k6, k7, k8, k9, k10, k11⟩ := h
      exact ucheck_bad HB.out HC.out (restBad HC.out fun hg => hg.2.2.2.2.2.2.2.2.2.2.2.1 k11)
     have hb0 : decide (u.mn < 0) = false := by simp; omega
     have hb1 : decide (u.top < u.mn) = false := by simp; omega
     have hb2 : decide (u.up < 1) = false := by simp; omega
     have hb3 : decide (6 < u.up) = false := by simp; omega
     have hb4 : decide (u.down < 1) = false := by simp; omega
     have hb5 : decide (6 < u.down) = false := by simp; omega
     have hb6 : decide (u.start < 0) = false := by simp; omega
     have hb7 : decide (1000000000 < u.start) = false := by simp; omega
     have hb8 : decide (u.idle < 0) = false := by simp; omega
     have hb9 : decide (1000000000 < u.idle) = false := by simp; omega
     have hb10 : decide (u.spin < 0) = false := by simp; omega
     have hb11 : decide (1000000 < u.spin) = true := by simp; omega
     clear h
     repeat (go_big_quiet_step (exact ext_call (K1.out _ (ExtOf.h _))))
     refine wpQuiet_nil ?_
     rintro _ ⟨x, rfl⟩
     clear x0 x1 x2 x3 x4 x5 x6 x7 x8
     go_wp2_with fail
     go_ret
     exact ⟨ret_int HX.out.symm, ET hE x.h⟩
    ·have HX : Hid (u.check buses = 1) := by
      obtain ⟨k0, k1, k2, k3, k4, k5, k6, k7, k8, k9, k10, k11, k12⟩ := h
      exact ucheck_bad HB.out HC.out (restBad HC.out fun hg => hg.2.2.2.2.2.2.2.2.2.2.2.2.1 k12)
     have hb0 : decide (u.mn < 0) = false := by simp; omega
     have hb1 : decide (u.top < u.mn) = false := by simp; omega
     have hb2 : decide (u.up < 1) = false := by simp; omega
     have hb3 : decide (6 < u.up) = false := by simp; omega
     have hb4 : decide (u.down < 1) = false := by simp; omega
     have hb5 : decide (6 < u.down) = false := by simp; omega
     have hb6 : decide (u.start < 0) = false := by simp; omega
     have hb7 : decide (1000000000 < u.start) = false := by simp; omega
     have hb8 : decide (u.idle < 0) = false := by simp; omega
     have hb9 : decide (1000000000 < u.idle) = false := by simp; omega
     have hb10 : decide (u.spin < 0) = false := by simp; omega
     have hb11 : decide (1000000 < u.spin) = false := by simp; omega
     have hb12 : (u.on == 0) = true := by simp; omega
     clear h
     repeat (go_big_quiet_step (exact ext_call (K1.out _ (ExtOf.h _))))
     refine wpQuiet_nil ?_
     rintro _ ⟨x, rfl⟩
     clear x0 x1 x2 x3 x4 x5 x6 x7 x8
     go_wp2_with fail
     go_ret
     exact ⟨ret_int HX.out.symm, ET hE x.h⟩
    ·have HX : Hid (u.check buses = 1) := by
      obtain ⟨k0, k1, k2, k3, k4, k5, k6, k7, k8, k9, k10, k11, k12, k13⟩ := h
      exact ucheck_bad HB.out HC.out (restBad HC.out fun hg => hg.2.2.2.2.2.2.2.2.2.2.2.2.2.1 k13)
     have hb0 : decide (u.mn < 0) = false := by simp; omega
     have hb1 : decide (u.top < u.mn) = false := by simp; omega
     have hb2 : decide (u.up < 1) = false := by simp; omega
     have hb3 : decide (6 < u.up) = false := by simp; omega
     have hb4 : decide (u.down < 1) = false := by simp; omega
     have hb5 : decide (6 < u.down) = false := by simp; omega
     have hb6 : decide (u.start < 0) = false := by simp; omega
     have hb7 : decide (1000000000 < u.start) = false := by simp; omega
     have hb8 : decide (u.idle < 0) = false := by simp; omega
     have hb9 : decide (1000000000 < u.idle) = false := by simp; omega
     have hb10 : decide (u.spin < 0) = false := by simp; omega
     have hb11 : decide (1000000 < u.spin) = false := by simp; omega
     have hb12 : (u.on == 0) = false := by simp; omega
     have hb13 : decide (u.on < -6) = true := by simp; omega
     clear h
     repeat (go_big_quiet_step (exact ext_call (K1.out _ (ExtOf.h _))))
     refine wpQuiet_nil ?_
     rintro _ ⟨x, rfl⟩
     clear x0 x1 x2 x3 x4 x5 x6 x7 x8
     go_wp2_with fail
     go_ret
     exact ⟨ret_int HX.out.symm, ET hE x.h⟩
    ·have HX : Hid (u.check buses = 1) := by
      obtain ⟨k0, k1, k2, k3, k4, k5, k6, k7, k8, k9, k10, k11, k12, k13, k14⟩ := h
      exact ucheck_bad HB.out HC.out (restBad HC.out fun hg => hg.2.2.2.2.2.2.2.2.2.2.2.2.2.2 k14)
     have hb0 : decide (u.mn < 0) = false := by simp; omega
     have hb1 : decide (u.top < u.mn) = false := by simp; omega
     have hb2 : decide (u.up < 1) = false := by simp; omega
     have hb3 : decide (6 < u.up) = false := by simp; omega
     have hb4 : decide (u.down < 1) = false := by simp; omega
     have hb5 : decide (6 < u.down) = false := by simp; omega
     have hb6 : decide (u.start < 0) = false := by simp; omega
     have hb7 : decide (1000000000 < u.start) = false := by simp; omega
     have hb8 : decide (u.idle < 0) = false := by simp; omega
     have hb9 : decide (1000000000 < u.idle) = false := by simp; omega
     have hb10 : decide (u.spin < 0) = false := by simp; omega
     have hb11 : decide (1000000 < u.spin) = false := by simp; omega
     have hb12 : (u.on == 0) = false := by simp; omega
     have hb13 : decide (u.on < -6) = false := by simp; omega
     have hb14 : decide (6 < u.on) = true := by simp; omega
     clear h
     repeat (go_big_quiet_step (exact ext_call (K1.out _ (ExtOf.h _))))
     refine wpQuiet_nil ?_
     rintro _ ⟨x, rfl⟩
     clear x0 x1 x2 x3 x4 x5 x6 x7 x8
     go_wp2_with fail
     go_ret
     exact ⟨ret_int HX.out.symm, ET hE x.h⟩
  ·have hcb : (chk true u.steps != 0) = true := by simp [hc]
   have HC := LH hc; clear hc
   go_wp2_with fail
   go_ret
   exact ⟨ret_int (ucheck_chk HB.out HC.out).symm, hE⟩
 ·have HX : Hid (u.check buses = 1) := ucheck_bus hbus
  have hbad : u.bus < 0 ∨ buses ≤ u.bus := by
   simp only [U.okBus, Bool.and_eq_true, decide_eq_true_eq] at hbus
   omega
  clear hbus
  go_enter Tryz.func31, Tryz.ntmps31
  go_wp2_with fail
  all_goals
   go_ret
   exact ⟨ret_int HX.out.symm, Ext.al Ext.rfl' _⟩
set_option maxHeartbeats 400000 in
theorem rMay_any (u : U) (A : Option Addr) (n c : Nat) (w : World) (hs : StepsAt w A n u.steps) (hn : n ≤ maxLen) :
  Calls Tryz.prog 64 #[u.val A n c] w fun e w' => e = .returned (.bool u.ok) ∧ Ext w w' := by
 go_enter Tryz.func64, Tryz.ntmps64
 go_wp2_with fail
 refine (rCheck_any u 6 A n c _ (hs.below ((Below.refl _ _).alloc (Nat.le_refl _) _)) hn).mono ?_
 rintro e w1 ⟨rfl, hb1⟩
 go_wp2_with fail
 go_ret
 exact ⟨rfl, Ext.new hb1⟩
end Go.Proofs.YtjinpfnefeiooaaGreat
