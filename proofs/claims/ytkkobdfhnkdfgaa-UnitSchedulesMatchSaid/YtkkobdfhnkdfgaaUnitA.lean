/- Contracts of package unit: Check, valid, Max, initial, next, Initial, Next. -/
import Derived.Test.YtkkobdfhnkdfgaaStepA
import Derived.Test.YtkkobdfhnkdfgaaUnitP
namespace Go.Proofs.Ytkkobdfhnkdfgaa
open Go.RowKit

theorem ucheck_bus {u : U} {buses : Int} (h : ¬ u.okBus buses = true) : u.check buses = 1 := by unfold U.check; rw [if_neg h]
theorem ucheck_chk {u : U} {buses : Int} (h : u.okBus buses = true) (hc : ¬ chk true u.steps = 0) : u.check buses = chk true u.steps := by unfold U.check; rw [if_pos h, if_neg hc]
theorem ucheck_bad {u : U} {buses : Int} (h : u.okBus buses = true) (hc : chk true u.steps = 0) (hr : ¬ (u.okMin && u.okHold && u.okMoney && u.okSpin && u.okOn) = true) : u.check buses = 1 := by unfold U.check; rw [if_pos h, if_pos hc, if_neg hr]
theorem ucheck_ok {u : U} {buses : Int} (h : u.okBus buses = true) (hc : chk true u.steps = 0) (hr : (u.okMin && u.okHold && u.okMoney && u.okSpin && u.okOn) = true) : u.check buses = 0 := by unfold U.check; rw [if_pos h, if_pos hc, if_pos hr]

set_option maxHeartbeats 2000000 in
theorem ucheck_any (u : U) (buses : Int) (A : Option Addr) (n c : Nat) (w : World) (hs : StepsAt w A n u.steps) (hn : n ≤ maxLen) :
    Calls Try.prog 24 #[u.val A n c, .int .i64 buses] w fun e w' => e = .returned (.int .i64 (u.check buses)) ∧ Ext w w' := by
  by_cases hbus : u.okBus buses = true
  · have hbus' := hbus
    simp only [U.okBus, Bool.and_eq_true, decide_eq_true_eq] at hbus'
    obtain ⟨b1, b2⟩ := hbus'
    have HB := Lib.hid hbus; clear hbus
    go_enter Try.func24, Try.ntmps24
    go_wp2_with fail
    refine (checkOffer_any A n c u.steps _ (hs.below ((Below.refl _ _).alloc (Nat.le_refl _) _)) hn).mono ?_
    rintro e w1 ⟨rfl, hb1⟩
    have hE : Ext w w1 := Ext.new hb1
    by_cases hc : chk true u.steps = 0
    · have hcb : (chk true u.steps != 0) = false := by simp [hc]
      have HC := Lib.hid hc; clear hc
      have d1 : w1.cell? ⟨w.heap.size, 1, none⟩ = some (.int .i64 u.mn) := Ext.cellOf hb1 (by simp [go_sem])
      have d2 : w1.cell? ⟨w.heap.size, 2, none⟩ = some (.slice A n c) := Ext.cellOf hb1 (by simp [go_sem])
      have x1 := fun x : ExtOf w1 => x.cell d1
      have x2 := fun x : ExtOf w1 => x.cell d2
      by_cases hm : u.mn < 0
      · have hmb : decide (u.mn < 0) = true := by simp; omega
        go_wp2_with fail
        refine wp_region_ext (by kernel_rfl) (by kernel_rfl) ?_
        repeat (go_big_quiet_step (fail))
        refine wpQuiet_nil ?_
        rintro _ ⟨x, rfl⟩
        clear x1 x2
        go_wp2_with fail
        go_ret
        exact ⟨ret_int (ucheck_bad HB.out HC.out (by simp [U.okMin]; omega)).symm, Ext.trans hE x.h⟩
      · have hmb : decide (u.mn < 0) = false := by simp; omega
        have tb := total_bd u.steps
        by_cases hm2 : u.mn ≤ total u.steps
        · have hmb2 : decide (total u.steps < u.mn) = false := by simp; omega
          have HM : Hid (u.okMin = true) := by simp [Hid, U.okMin]; omega
          go_wp2_with fail
          refine wp_region_ext (by kernel_rfl) (by kernel_rfl) ?_
          repeat (go_big_quiet_step (exact ext_call (sum_any A n c u.steps _ ((hs.below hE).below (ExtOf.h _)) hn)))
          refine wpQuiet_nil ?_
          rintro _ ⟨x, rfl⟩
          have hx := x.h
          generalize x.w = w2 at *
          have d3 : w2.cell? ⟨w.heap.size, 3, none⟩ = some (.int .i64 u.up) := Ext.cellOf hx (Ext.cellOf hb1 (by simp [go_sem]))
          have d4 : w2.cell? ⟨w.heap.size, 4, none⟩ = some (.int .i64 u.down) := Ext.cellOf hx (Ext.cellOf hb1 (by simp [go_sem]))
          have d5 : w2.cell? ⟨w.heap.size, 5, none⟩ = some (.int .i64 u.start) := Ext.cellOf hx (Ext.cellOf hb1 (by simp [go_sem]))
          have d6 : w2.cell? ⟨w.heap.size, 6, none⟩ = some (.int .i64 u.idle) := Ext.cellOf hx (Ext.cellOf hb1 (by simp [go_sem]))
          have d7 : w2.cell? ⟨w.heap.size, 7, none⟩ = some (.int .i64 u.spin) := Ext.cellOf hx (Ext.cellOf hb1 (by simp [go_sem]))
          have d8 : w2.cell? ⟨w.heap.size, 8, none⟩ = some (.int .i64 u.on) := Ext.cellOf hx (Ext.cellOf hb1 (by simp [go_sem]))
          clear x1 x2 d1 d2
          have hE2 : Ext w w2 := Ext.trans hE hx
          by_cases h1 : u.okHold = true
          · have h1' := h1
            simp only [U.okHold, Bool.and_eq_true, decide_eq_true_eq] at h1'
            obtain ⟨⟨⟨a1, a2⟩, a3⟩, a4⟩ := h1'
            have H1 := Lib.hid h1; clear h1
            by_cases h2 : u.okMoney = true
            · have h2' := h2
              simp only [U.okMoney, Bool.and_eq_true, decide_eq_true_eq] at h2'
              obtain ⟨⟨⟨a5, a6⟩, a7⟩, a8⟩ := h2'
              have H2 := Lib.hid h2; clear h2
              by_cases h3 : u.okSpin = true
              · have h3' := h3
                simp only [U.okSpin, Bool.and_eq_true, decide_eq_true_eq] at h3'
                obtain ⟨a9, a10⟩ := h3'
                have H3 := Lib.hid h3; clear h3
                by_cases h4 : u.okOn = true
                · have h4' := h4
                  simp only [U.okOn, Bool.and_eq_true, decide_eq_true_eq] at h4'
                  obtain ⟨⟨a11, a12⟩, a13⟩ := h4'
                  have a14 : (u.on == 0) = false := by simp; omega
                  have H4 := Lib.hid h4; clear h4
                  go_wp2_with fail
                  go_ret
                  exact ⟨ret_int (ucheck_ok HB.out HC.out (by simp [HM.out, H1.out, H2.out, H3.out, H4.out])).symm, hE2⟩
                · have hbad : u.on = 0 ∨ u.on < -6 ∨ 6 < u.on := by
                    simp only [U.okOn, Bool.and_eq_true, decide_eq_true_eq] at h4
                    omega
                  have HX : Hid (u.check buses = 1) := ucheck_bad HB.out HC.out (by simp [h4])
                  have HBD := Lib.hid hbad; clear hbad h4
                  rcases HBD.out with g | g | g
                  · have a14 : (u.on == 0) = true := by simp; omega
                    have G := Lib.hid g; clear g
                    go_wp2_with fail
                    go_ret
                    exact ⟨ret_int HX.out.symm, hE2⟩
                  · have a14 : (u.on == 0) = false := by simp; omega
                    go_wp2_with fail
                    go_ret
                    exact ⟨ret_int HX.out.symm, hE2⟩
                  · have a14 : (u.on == 0) = false := by simp; omega
                    go_wp2_with fail
                    go_ret
                    exact ⟨ret_int HX.out.symm, hE2⟩
              · have HX : Hid (u.check buses = 1) := ucheck_bad HB.out HC.out (by simp [h3])
                have hbad : u.spin < 0 ∨ 1000000 < u.spin := by
                  simp only [U.okSpin, Bool.and_eq_true, decide_eq_true_eq] at h3
                  omega
                clear h3
                go_wp2_with fail
                all_goals
                  go_ret
                  exact ⟨ret_int HX.out.symm, hE2⟩
            · have HX : Hid (u.check buses = 1) := ucheck_bad HB.out HC.out (by simp [h2])
              have hbad : u.start < 0 ∨ 1000000000 < u.start ∨ u.idle < 0 ∨ 1000000000 < u.idle := by
                simp only [U.okMoney, Bool.and_eq_true, decide_eq_true_eq] at h2
                omega
              clear h2
              go_wp2_with fail
              all_goals
                go_ret
                exact ⟨ret_int HX.out.symm, hE2⟩
          · have HX : Hid (u.check buses = 1) := ucheck_bad HB.out HC.out (by simp [h1])
            have hbad : u.up < 1 ∨ 6 < u.up ∨ u.down < 1 ∨ 6 < u.down := by
              simp only [U.okHold, Bool.and_eq_true, decide_eq_true_eq] at h1
              omega
            clear h1
            go_wp2_with fail
            all_goals
              go_ret
              exact ⟨ret_int HX.out.symm, hE2⟩
        · have hmb2 : decide (total u.steps < u.mn) = true := by simp; omega
          go_wp2_with fail
          refine wp_region_ext (by kernel_rfl) (by kernel_rfl) ?_
          repeat (go_big_quiet_step (exact ext_call (sum_any A n c u.steps _ ((hs.below hE).below (ExtOf.h _)) hn)))
          refine wpQuiet_nil ?_
          rintro _ ⟨x, rfl⟩
          clear x1 x2
          go_wp2_with fail
          go_ret
          exact ⟨ret_int (ucheck_bad HB.out HC.out (by simp [U.okMin]; omega)).symm, Ext.trans hE x.h⟩
    · have hcb : (chk true u.steps != 0) = true := by simp [hc]
      have HC := Lib.hid hc; clear hc
      go_wp2_with fail
      go_ret
      exact ⟨ret_int (ucheck_chk HB.out HC.out).symm, hE⟩
  · have HX : Hid (u.check buses = 1) := ucheck_bus hbus
    have hbad : u.bus < 0 ∨ buses ≤ u.bus := by
      simp only [U.okBus, Bool.and_eq_true, decide_eq_true_eq] at hbus
      omega
    clear hbus
    go_enter Try.func24, Try.ntmps24
    go_wp2_with fail
    all_goals
      go_ret
      exact ⟨ret_int HX.out.symm, Ext.al Ext.rfl' _⟩
end Go.Proofs.Ytkkobdfhnkdfgaa
