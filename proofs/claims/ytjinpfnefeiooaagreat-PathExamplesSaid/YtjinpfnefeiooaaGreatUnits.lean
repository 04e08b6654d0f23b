/- A part of the proof. -/
import Derived.Test.YtjinpfnefeiooaaGreatStepX
namespace Go.Proofs.YtjinpfnefeiooaaGreat
open Go.RowKit

structure U where
 bus : Int
 mn : Int
 up : Int
 down : Int
 start : Int
 idle : Int
 spin : Int
 on : Int
 steps : List (Int × Int)
abbrev U.val (u : U) (A : Option Addr) (n c : Nat) : Value :=
 .agg #[.int .i64 u.bus, .int .i64 u.mn, .slice A n c, .int .i64 u.up, .int .i64 u.down, .int .i64 u.start, .int .i64 u.idle, .int .i64 u.spin, .int .i64 u.on]
def U.okMin (u : U) : Bool := decide (0 ≤ u.mn) && decide (u.mn ≤ total u.steps)
def U.okHold (u : U) : Bool := decide (1 ≤ u.up) && decide (u.up ≤ 6) && decide (1 ≤ u.down) && decide (u.down ≤ 6)
def U.okMoney (u : U) : Bool := decide (0 ≤ u.start) && decide (u.start ≤ 1000000000) && decide (0 ≤ u.idle) && decide (u.idle ≤ 1000000000)
def U.okSpin (u : U) : Bool := decide (0 ≤ u.spin) && decide (u.spin ≤ 1000000)
def U.okOn (u : U) : Bool := decide (u.on ≠ 0) && decide (-6 ≤ u.on) && decide (u.on ≤ 6)
def U.okBus (u : U) (buses : Int) : Bool := decide (0 ≤ u.bus) && decide (u.bus < buses)
def U.check (u : U) (buses : Int) : Int :=
 if u.okBus buses then (if chk true u.steps = 0 then (if u.okMin && u.okHold && u.okMoney && u.okSpin && u.okOn then 0 else 1) else chk true u.steps) else 1
def U.ok (u : U) : Bool := decide (u.check 6 = 0)
structure U.Good (u : U) : Prop where
 up1 : 1 ≤ u.up
 up6 : u.up ≤ 6
 dn1 : 1 ≤ u.down
 dn6 : u.down ≤ 6
 st0 : 0 ≤ u.start
 st9 : u.start ≤ 1000000000
 id0 : 0 ≤ u.idle
 id9 : u.idle ≤ 1000000000
 on0 : u.on ≠ 0
 onl : -6 ≤ u.on
 onh : u.on ≤ 6
theorem U.good {u : U} (h : u.ok = true) : u.Good := by
 replace h : u.check 6 = 0 := of_decide_eq_true h
 unfold U.check at h
 by_cases hb : u.okBus 6 = true
 ·rw [if_pos hb] at h
  by_cases hc : chk true u.steps = 0
  ·rw [if_pos hc] at h
   by_cases hr : (u.okMin && u.okHold && u.okMoney && u.okSpin && u.okOn) = true
   ·simp only [U.okMin, U.okHold, U.okMoney, U.okSpin, U.okOn, Bool.and_eq_true, decide_eq_true_eq] at hr
    constructor <;> omega
   ·rw [if_neg hr] at h; omega
  ·rw [if_neg hc] at h; omega
 ·rw [if_neg hb] at h; omega
theorem U.chk0 {u : U} (h : u.ok = true) : chk true u.steps = 0 := by
 replace h : u.check 6 = 0 := of_decide_eq_true h
 unfold U.check at h
 by_cases hb : u.okBus 6 = true
 ·rw [if_pos hb] at h
  by_cases hc : chk true u.steps = 0
  ·exact hc
  ·rw [if_neg hc] at h; omega
 ·rw [if_neg hb] at h; omega
def U.init (u : U) : Int := max (min u.on u.up) (-u.down)
def U.next (u : U) (s : Int) (on : Bool) : Int :=
 if on then (if 0 < s then min (s + 1) u.up else if s = -u.down then 1 else 0)
 else (if s < 0 then max (s - 1) (-u.down) else if s = u.up then -1 else 0)
def U.nextB (u : U) (s : Int) (on : Bool) : Bool := decide (u.next s on ≠ 0)
def U.isState (u : U) (s : Int) : Bool := decide (s ≠ 0) && decide (s ≤ u.up) && decide (-u.down ≤ s)
theorem U.init_state {u : U} (g : u.Good) : u.isState u.init = true := by
 obtain ⟨⟩ := g
 simp only [U.isState, Bool.and_eq_true, decide_eq_true_eq]
 unfold U.init
 omega
theorem U.next_state {u : U} (g : u.Good) {s : Int} (hs : u.isState s = true) {on : Bool} (hn : u.next s on ≠ 0) : u.isState (u.next s on) = true := by
 obtain ⟨⟩ := g
 simp only [U.isState, Bool.and_eq_true, decide_eq_true_eq] at *
 unfold U.next at *
 cases on
 ·simp only [Bool.false_eq_true, if_false] at *
  by_cases h1 : s < 0
  ·simp only [if_pos h1] at *; omega
  ·simp only [if_neg h1] at *
   by_cases h2 : s = u.up
   ·simp only [if_pos h2] at *; omega
   ·simp only [if_neg h2] at *; omega
 ·simp only [if_true] at *
  by_cases h1 : 0 < s
  ·simp only [if_pos h1] at *; omega
  ·simp only [if_neg h1] at *
   by_cases h2 : s = -u.down
   ·simp only [if_pos h2] at *; omega
   ·simp only [if_neg h2] at *; omega
def U.feasFrom (u : U) : Int → List Bool → Bool
 | _, [] => true
 | s, b :: r => if u.next s b = 0 then false else u.feasFrom (u.next s b) r
def U.feas (u : U) (row : List Bool) : Bool := u.ok && u.feasFrom u.init row
def startsFrom : Bool → List Bool → Int
 | _, [] => 0
 | p, b :: r => (if b && !p then 1 else 0) + startsFrom b r
def U.starts (u : U) (row : List Bool) : Int := if u.ok then startsFrom (decide (0 < u.on)) row else 0
def BoolsAt (w : World) (A : Option Addr) (n : Nat) (xs : List Bool) : Prop :=
 xs.length = n ∧ (0 < n → ∃ b off, A = some ⟨b, off, none⟩ ∧ b < w.heap.size ∧ ∀ i, i < n → w.cell? ⟨b, off + i, none⟩ = some (.bool (xs.getD i false)))
theorem BoolsAt.below {w w' : World} {A : Option Addr} {n : Nat} {xs : List Bool} (h : BoolsAt w A n xs) (hb : Below w.heap.size w w') : BoolsAt w' A n xs := by
 refine ⟨h.1, fun hn => ?_⟩
 obtain ⟨b, off, ha, hlt, hc⟩ := h.2 hn
 exact ⟨b, off, ha, Nat.lt_of_lt_of_le hlt hb.size, fun i hi => (hb.cell (p := ⟨b, off + i, none⟩) hlt).trans (hc i hi)⟩
end Go.Proofs.YtjinpfnefeiooaaGreat
namespace Go.Proofs.YtjinpfnefeiooaaGreat
open Go.RowKit

theorem ucheck_bus {u : U} {buses : Int} (h : ¬ u.okBus buses = true) : u.check buses = 1 := by unfold U.check; rw [if_neg h]
theorem ucheck_chk {u : U} {buses : Int} (h : u.okBus buses = true) (hc : ¬ chk true u.steps = 0) : u.check buses = chk true u.steps := by unfold U.check; rw [if_pos h, if_neg hc]
theorem ucheck_bad {u : U} {buses : Int} (h : u.okBus buses = true) (hc : chk true u.steps = 0) (hr : ¬ (u.okMin && u.okHold && u.okMoney && u.okSpin && u.okOn) = true) : u.check buses = 1 := by unfold U.check; rw [if_pos h, if_pos hc, if_neg hr]
theorem ucheck_ok {u : U} {buses : Int} (h : u.okBus buses = true) (hc : chk true u.steps = 0) (hr : (u.okMin && u.okHold && u.okMoney && u.okSpin && u.okOn) = true) : u.check buses = 0 := by unfold U.check; rw [if_pos h, if_pos hc, if_pos hr]
set_option maxHeartbeats 2000000 in
theorem ucheck_any (u : U) (buses : Int) (A : Option Addr) (n c : Nat) (w : World) (hs : StepsAt w A n u.steps) (hn : n ≤ maxLen) :
  Calls Tryz.prog 25 #[u.val A n c, .int .i64 buses] w fun e w' => e = .returned (.int .i64 (u.check buses)) ∧ Ext w w' := by
 by_cases hbus : u.okBus buses = true
 ·have hbus' := hbus
  simp only [U.okBus, Bool.and_eq_true, decide_eq_true_eq] at hbus'
  obtain ⟨b1, b2⟩ := hbus'
  have HB := LH hbus; clear hbus
  go_enter Tryz.func25, Tryz.ntmps25
  go_wp2_with fail
  refine (checkOffer_any A n c u.steps _ (hs.below ((Below.refl _ _).alloc (Nat.le_refl _) _)) hn).mono ?_
  rintro e w1 ⟨rfl, hb1⟩
  have hE : Ext w w1 := Ext.new hb1
  by_cases hc : chk true u.steps = 0
  ·have hcb : (chk true u.steps != 0) = false := by simp [hc]
   have HC := LH hc; clear hc
   have d1 : w1.cell? ⟨w.heap.size, 1, none⟩ = some (.int .i64 u.mn) := Ext.cellOf hb1 (by simp [go_sem])
   have d2 : w1.cell? ⟨w.heap.size, 2, none⟩ = some (.slice A n c) := Ext.cellOf hb1 (by simp [go_sem])
   have x1 := fun x : ExtOf w1 => x.cell d1
   have x2 := fun x : ExtOf w1 => x.cell d2
   by_cases hm : u.mn < 0
   ·have hmb : decide (u.mn < 0) = true := by simp; omega
    go_wp2_with fail
    refine wp_region_ext (by kernel_rfl) (by kernel_rfl) ?_
    repeat (go_big_quiet_step (fail))
    refine wpQuiet_nil ?_
    rintro _ ⟨x, rfl⟩
    clear x1 x2
    go_wp2_with fail
    go_ret
    exact ⟨ret_int (ucheck_bad HB.out HC.out (by simp [U.okMin]; omega)).symm, ET hE x.h⟩
   ·have hmb : decide (u.mn < 0) = false := by simp; omega
    have tb := total_bd u.steps
    by_cases hm2 : u.mn ≤ total u.steps
    ·have hmb2 : decide (total u.steps < u.mn) = false := by simp; omega
     have HM : Hid (u.okMin = true) := by simp [Hid, U.okMin]; omega
     go_wp2_with fail
     refine wp_region_ext (by kernel_rfl) (by kernel_rfl) ?_
     repeat (go_big_quiet_step (exact ext_call (sum_any A n c u.steps _ ((hs.below hE).below (ExtOf.h _)) hn)))
     refine wpQuiet_nil ?_
     rintro _ ⟨x, rfl⟩
     have hx := x.h
     generalize x.w = w2 at *
     have d3 : w2.cell? ⟨w.heap.size, 3, none⟩ = some (.int .i64 u.up) := Ext.cellOf hx (Ext.cellOf hb1 (by simp [go_sem]))
     have d4 : w2.cell? ⟨w.heap.size, 4, none⟩ = some (.int .i64 u.down) := Ext.cellOf hx (Ext.cellOf hb1 (by simp [go_sem]))
     have d5 : w2.cell? ⟨w.heap.size, 5, none⟩ = some (.int .i64 u.start) := Ext.cellOf hx (Ext.cellOf hb1 (by simp [go_sem]))
     have d6 : w2.cell? ⟨w.heap.size, 6, none⟩ = some (.int .i64 u.idle) := Ext.cellOf hx (Ext.cellOf hb1 (by simp [go_sem]))
     have d7 : w2.cell? ⟨w.heap.size, 7, none⟩ = some (.int .i64 u.spin) := Ext.cellOf hx (Ext.cellOf hb1 (by simp [go_sem]))
     have d8 : w2.cell? ⟨w.heap.size, 8, none⟩ = some (.int .i64 u.on) := Ext.cellOf hx (Ext.cellOf hb1 (by simp [go_sem]))
     clear x1 x2 d1 d2
     have hE2 : Ext w w2 := ET hE hx
     by_cases h1 : u.okHold = true
     ·have h1' := h1
      simp only [U.okHold, Bool.and_eq_true, decide_eq_true_eq] at h1'
      obtain ⟨⟨⟨a1, a2⟩, a3⟩, a4⟩ := h1'
      have H1 := LH h1; clear h1
      by_cases h2 : u.okMoney = true
      ·have h2' := h2
       simp only [U.okMoney, Bool.and_eq_true, decide_eq_true_eq] at h2'
       obtain ⟨⟨⟨a5, a6⟩, a7⟩, a8⟩ := h2'
       have H2 := LH h2; clear h2
       by_cases h3 : u.okSpin = true
       ·have h3' := h3
        simp only [U.okSpin, Bool.and_eq_true, decide_eq_true_eq] at h3'
        obtain ⟨a9, a10⟩ := h3'
        have H3 := LH h3; clear h3
        by_cases h4 : u.okOn = true
        ·have h4' := h4
         simp only [U.okOn, Bool.and_eq_true, decide_eq_true_eq] at h4'
         obtain ⟨⟨a11, a12⟩, a13⟩ := h4'
         have a14 : (u.on == 0) = false := by simp; omega
         have H4 := LH h4; clear h4
         go_wp2_with fail
         go_ret
         exact ⟨ret_int (ucheck_ok HB.out HC.out (by simp [HM.out, H1.out, H2.out, H3.out, H4.out])).symm, hE2⟩
        ·have hbad : u.on = 0 ∨ u.on < -6 ∨ 6 < u.on := by
          simp only [U.okOn, Bool.and_eq_true, decide_eq_true_eq] at h4
          omega
         have HX : Hid (u.check buses = 1) := ucheck_bad HB.out HC.out (by simp [h4])
         have HBD := LH hbad; clear hbad h4
         rcases HBD.out with g | g | g
         ·have a14 : (u.on == 0) = true := by simp; omega
          have G := LH g; clear g
          go_wp2_with fail
          go_ret
          exact ⟨ret_int HX.out.symm, hE2⟩
         ·have a14 : (u.on == 0) = false := by simp; omega
          go_wp2_with fail
          go_ret
          exact ⟨ret_int HX.out.symm, hE2⟩
         ·have a14 : (u.on == 0) = false := by simp; omega
          go_wp2_with fail
          go_ret
          exact ⟨ret_int HX.out.symm, hE2⟩
       ·have HX : Hid (u.check buses = 1) := ucheck_bad HB.out HC.out (by simp [h3])
        have hbad : u.spin < 0 ∨ 1000000 < u.spin := by
         simp only [U.okSpin, Bool.and_eq_true, decide_eq_true_eq] at h3
         omega
        clear h3
        go_wp2_with fail
        all_goals
         go_ret
         exact ⟨ret_int HX.out.symm, hE2⟩
      ·have HX : Hid (u.check buses = 1) := ucheck_bad HB.out HC.out (by simp [h2])
       have hbad : u.start < 0 ∨ 1000000000 < u.start ∨ u.idle < 0 ∨ 1000000000 < u.idle := by
        simp only [U.okMoney, Bool.and_eq_true, decide_eq_true_eq] at h2
        omega
       clear h2
       go_wp2_with fail
       all_goals
        go_ret
        exact ⟨ret_int HX.out.symm, hE2⟩
     ·have HX : Hid (u.check buses = 1) := ucheck_bad HB.out HC.out (by simp [h1])
      have hbad : u.up < 1 ∨ 6 < u.up ∨ u.down < 1 ∨ 6 < u.down := by
       simp only [U.okHold, Bool.and_eq_true, decide_eq_true_eq] at h1
       omega
      clear h1
      go_wp2_with fail
      all_goals
       go_ret
       exact ⟨ret_int HX.out.symm, hE2⟩
    ·have hmb2 : decide (total u.steps < u.mn) = true := by simp; omega
     go_wp2_with fail
     refine wp_region_ext (by kernel_rfl) (by kernel_rfl) ?_
     repeat (go_big_quiet_step (exact ext_call (sum_any A n c u.steps _ ((hs.below hE).below (ExtOf.h _)) hn)))
     refine wpQuiet_nil ?_
     rintro _ ⟨x, rfl⟩
     clear x1 x2
     go_wp2_with fail
     go_ret
     exact ⟨ret_int (ucheck_bad HB.out HC.out (by simp [U.okMin]; omega)).symm, ET hE x.h⟩
  ·have hcb : (chk true u.steps != 0) = true := by simp [hc]
   have HC := LH hc; clear hc
   go_wp2_with fail
   go_ret
   exact ⟨ret_int (ucheck_chk HB.out HC.out).symm, hE⟩
 ·have HX : Hid (u.check buses = 1) := ucheck_bus hbus
  have hbad : u.bus < 0 ∨ buses ≤ u.bus := by
   simp only [U.okBus, Bool.and_eq_true, decide_eq_true_eq] at hbus
   omega
  clear hbus
  go_enter Tryz.func25, Tryz.ntmps25
  go_wp2_with fail
  all_goals
   go_ret
   exact ⟨ret_int HX.out.symm, Ext.al Ext.rfl' _⟩
end Go.Proofs.YtjinpfnefeiooaaGreat
namespace Go.Proofs.YtjinpfnefeiooaaGreat
open Go.RowKit

abbrev U.cells (u : U) (A : Option Addr) (n c : Nat) : Obj :=
 .cells #[.int .i64 u.bus, .int .i64 u.mn, .slice A n c, .int .i64 u.up, .int .i64 u.down, .int .i64 u.start, .int .i64 u.idle, .int .i64 u.spin, .int .i64 u.on] 24
def UAt (w : World) (b : Nat) (u : U) (A : Option Addr) (n c : Nat) : Prop :=
 w.cell? ⟨b, 0, none⟩ = some (.int .i64 u.bus) ∧ w.cell? ⟨b, 1, none⟩ = some (.int .i64 u.mn) ∧ w.cell? ⟨b, 2, none⟩ = some (.slice A n c) ∧
 w.cell? ⟨b, 3, none⟩ = some (.int .i64 u.up) ∧ w.cell? ⟨b, 4, none⟩ = some (.int .i64 u.down) ∧ w.cell? ⟨b, 5, none⟩ = some (.int .i64 u.start) ∧
 w.cell? ⟨b, 6, none⟩ = some (.int .i64 u.idle) ∧ w.cell? ⟨b, 7, none⟩ = some (.int .i64 u.spin) ∧ w.cell? ⟨b, 8, none⟩ = some (.int .i64 u.on)
theorem ubox (w : World) (u : U) (A : Option Addr) (n c : Nat) : UAt (w.alloc (u.cells A n c)) w.heap.size u A n c := by
 unfold UAt; simp [go_sem]
theorem UAt.ext {w w' : World} {b : Nat} {u : U} {A : Option Addr} {n c : Nat} (h : UAt w b u A n c) (hb : Ext w w') : UAt w' b u A n c := by
 obtain ⟨h0, h1, h2, h3, h4, h5, h6, h7, h8⟩ := h
 exact ⟨hb.cellOf h0, hb.cellOf h1, hb.cellOf h2, hb.cellOf h3, hb.cellOf h4, hb.cellOf h5, hb.cellOf h6, hb.cellOf h7, hb.cellOf h8⟩
set_option maxHeartbeats 400000 in
theorem valid_any (u : U) (A : Option Addr) (n c : Nat) (w : World) (hs : StepsAt w A n u.steps) (hn : n ≤ maxLen) :
  Calls Tryz.prog 61 #[u.val A n c] w fun e w' => e = .returned (.bool u.ok) ∧ Ext w w' := by
 go_enter Tryz.func61, Tryz.ntmps61
 go_wp2_with fail
 refine (ucheck_any u 6 A n c _ (hs.below ((Below.refl _ _).alloc (Nat.le_refl _) _)) hn).mono ?_
 rintro e w1 ⟨rfl, hb1⟩
 go_wp2_with fail
 go_ret
 exact ⟨rfl, Ext.new hb1⟩
set_option maxHeartbeats 400000 in
theorem init_any (u : U) (g : u.Good) (A : Option Addr) (n c : Nat) (w : World) :
  Calls Tryz.prog 62 #[u.val A n c] w fun e w' => e = .returned (.int .i64 u.init) ∧ Ext w w' := by
 obtain ⟨g1, g2, g3, g4, _, _, _, _, g5, g6, g7⟩ := g
 go_enter Tryz.func62, Tryz.ntmps62
 go_wp2_with fail
 all_goals
  go_ret
  exact ⟨ret_int (by unfold U.init; omega), Ext.al Ext.rfl' _⟩
theorem ret_ib {a b : Int} {x y : Bool} (h : a = b) (k : x = y) : Ending.returned (.tuple #[.int .i64 a, .bool x]) = .returned (.tuple #[.int .i64 b, .bool y]) := by rw [h, k]
set_option maxHeartbeats 1000000 in
theorem unext_any (u : U) (g : u.Good) (s : Int) (hst : u.isState s = true) (on : Bool) (A : Option Addr) (n c : Nat) (w : World) :
  Calls Tryz.prog 63 #[u.val A n c, .int .i64 s, .bool on] w fun e w' => e = .returned (.tuple #[.int .i64 (u.next s on), .bool (u.nextB s on)]) ∧ Ext w w' := by
 obtain ⟨g1, g2, g3, g4, _, _, _, _, g5, g6, g7⟩ := g
 simp only [U.isState, Bool.and_eq_true, decide_eq_true_eq] at hst
 obtain ⟨⟨s1, s2⟩, s3⟩ := hst
 cases on
 ·by_cases h1 : s < 0
  ·have HN : Hid (u.next s false = max (s - 1) (-u.down)) := by unfold Hid U.next; simp [h1]
   have HM : Hid (u.nextB s false = true) := by unfold Hid U.nextB; rw [HN.out]; simp; omega
   go_enter Tryz.func63, Tryz.ntmps63
   go_wp2_with fail
   all_goals
    go_ret2
    exact ⟨ret_ib (by rw [HN.out]; omega) HM.out.symm, Ext.al Ext.rfl' _⟩
  ·by_cases h2 : s = u.up
   ·have HN : Hid (u.next s false = -1) := by unfold Hid U.next; simp [h2]; omega
    have HM : Hid (u.nextB s false = true) := by unfold Hid U.nextB; rw [HN.out]; simp
    have hb : (s == u.up) = true := by simp [h2]
    have H2 := LH h2; clear h2
    go_enter Tryz.func63, Tryz.ntmps63
    go_wp2_with fail
    go_ret2
    exact ⟨ret_ib HN.out.symm HM.out.symm, Ext.al Ext.rfl' _⟩
   ·have HN : Hid (u.next s false = 0) := by unfold Hid U.next; simp [h1, h2]
    have HM : Hid (u.nextB s false = false) := by unfold Hid U.nextB; rw [HN.out]; simp
    have hb : (s == u.up) = false := by simp [h2]
    have H2 := LH h2; clear h2
    go_enter Tryz.func63, Tryz.ntmps63
    go_wp2_with fail
    go_ret2
    exact ⟨ret_ib HN.out.symm HM.out.symm, Ext.al Ext.rfl' _⟩
 ·by_cases h1 : 0 < s
  ·have HN : Hid (u.next s true = min (s + 1) u.up) := by unfold Hid U.next; simp [h1]
   have HM : Hid (u.nextB s true = true) := by unfold Hid U.nextB; rw [HN.out]; simp; omega
   go_enter Tryz.func63, Tryz.ntmps63
   go_wp2_with fail
   all_goals
    go_ret2
    exact ⟨ret_ib (by rw [HN.out]; omega) HM.out.symm, Ext.al Ext.rfl' _⟩
  ·by_cases h2 : s = -u.down
   ·have HN : Hid (u.next s true = 1) := by unfold Hid U.next; simp [h2]; omega
    have HM : Hid (u.nextB s true = true) := by unfold Hid U.nextB; rw [HN.out]; simp
    have hb : (s == -u.down) = true := by simp [h2]
    have H2 := LH h2; clear h2
    go_enter Tryz.func63, Tryz.ntmps63
    go_wp2_with fail
    go_ret2
    exact ⟨ret_ib HN.out.symm HM.out.symm, Ext.al Ext.rfl' _⟩
   ·have HN : Hid (u.next s true = 0) := by unfold Hid U.next; simp [h1, h2]
    have HM : Hid (u.nextB s true = false) := by unfold Hid U.nextB; rw [HN.out]; simp
    have hb : (s == -u.down) = false := by simp [h2]
    have H2 := LH h2; clear h2
    go_enter Tryz.func63, Tryz.ntmps63
    go_wp2_with fail
    go_ret2
    exact ⟨ret_ib HN.out.symm HM.out.symm, Ext.al Ext.rfl' _⟩
def U.initial (u : U) : Int := if u.ok then u.init else 0
set_option maxHeartbeats 1000000 in
theorem initial_any (u : U) (A : Option Addr) (n c : Nat) (w : World) (hs : StepsAt w A n u.steps) (hn : n ≤ maxLen) :
  Calls Tryz.prog 43 #[u.val A n c] w fun e w' => e = .returned (.int .i64 u.initial) ∧ Ext w w' := by
 go_enter Tryz.func43, Tryz.ntmps43
 go_wp2_with fail
 refine (valid_any u A n c _ (hs.below ((Below.refl _ _).alloc (Nat.le_refl _) _)) hn).mono ?_
 rintro e w1 ⟨rfl, hb1⟩
 have hE : Ext w w1 := Ext.new hb1
 cases hok : u.ok
 ·have HI : Hid (u.initial = 0) := by unfold Hid U.initial; rw [hok]; rfl
  clear hok
  go_wp2_with fail
  go_ret
  exact ⟨ret_int HI.out.symm, hE⟩
 ·have HI : Hid (u.initial = u.init) := by unfold Hid U.initial; rw [hok]; rfl
  have G := U.good hok
  clear hok
  obtain ⟨d0, d1, d2, d3, d4, d5, d6, d7, d8⟩ := (ubox w u A n c).ext hb1
  go_wp2_with fail
  refine (init_any u G A n c _).mono ?_
  rintro e w2 ⟨rfl, hb2⟩
  go_wp2_with fail
  go_ret
  exact ⟨ret_int HI.out.symm, ET hE hb2⟩
def U.nextG (u : U) (s : Int) (on : Bool) : Int := if u.ok && u.isState s then u.next s on else 0
def U.nextGB (u : U) (s : Int) (on : Bool) : Bool := decide (u.nextG s on ≠ 0)
set_option maxHeartbeats 1000000 in
theorem nextG_any (u : U) (s : Int) (on : Bool) (A : Option Addr) (n c : Nat) (w : World) (hs : StepsAt w A n u.steps) (hn : n ≤ maxLen) :
  Calls Tryz.prog 68 #[u.val A n c, .int .i64 s, .bool on] w fun e w' => e = .returned (.tuple #[.int .i64 (u.nextG s on), .bool (u.nextGB s on)]) ∧ Ext w w' := by
 go_enter Tryz.func68, Tryz.ntmps68
 go_wp2_with fail
 refine (valid_any u A n c _ (hs.below ((Below.refl _ _).alloc (Nat.le_refl _) _)) hn).mono ?_
 rintro e w1 ⟨rfl, hb1⟩
 have hE : Ext w w1 := Ext.new hb1
 obtain ⟨d0, d1, d2, d3, d4, d5, d6, d7, d8⟩ := (ubox w u A n c).ext hb1
 cases hok : u.ok
 ·have HI : Hid (u.nextG s on = 0) := by unfold Hid U.nextG; rw [hok]; rfl
  have HJ : Hid (u.nextGB s on = false) := by unfold Hid U.nextGB; rw [HI.out]; rfl
  clear hok
  go_wp2_with fail
  go_ret2
  exact ⟨ret_ib HI.out.symm HJ.out.symm, hE⟩
 ·have G := U.good hok
  have hdn : -6 ≤ -u.down ∧ -u.down ≤ -1 := ⟨by have := G.dn6; omega, by have := G.dn1; omega⟩
  by_cases hst : u.isState s = true
  ·have HI : Hid (u.nextG s on = u.next s on) := by unfold Hid U.nextG; rw [hok, hst]; rfl
   have HJ : Hid (u.nextGB s on = u.nextB s on) := by unfold Hid U.nextGB U.nextB; rw [HI.out]
   clear hok
   have hst' := hst
   simp only [U.isState, Bool.and_eq_true, decide_eq_true_eq] at hst'
   obtain ⟨⟨s1, s2⟩, s3⟩ := hst'
   have HS := LH hst; clear hst
   have sb : (s == 0) = false := by simp; omega
   go_wp2_with fail
   refine (unext_any u G s HS.out on A n c _).mono ?_
   rintro e w2 ⟨rfl, hb2⟩
   go_wp2_with fail
   go_ret2
   exact ⟨ret_ib HI.out.symm HJ.out.symm, ET hE hb2⟩
  ·have HI : Hid (u.nextG s on = 0) := by unfold Hid U.nextG; rw [if_neg]; simp [hst]
   have HJ : Hid (u.nextGB s on = false) := by unfold Hid U.nextGB; rw [HI.out]; rfl
   clear hok
   simp only [U.isState, Bool.and_eq_true, decide_eq_true_eq] at hst
   have hbad : s = 0 ∨ u.up < s ∨ s < -u.down := by omega
   clear hst
   by_cases h0 : s = 0
   ·have sb : (s == 0) = true := by simp; omega
    have H0 := LH h0; clear h0 hbad
    go_wp2_with fail
    go_ret2
    exact ⟨ret_ib HI.out.symm HJ.out.symm, hE⟩
   ·have sb : (s == 0) = false := by simp; omega
    have hbad2 : u.up < s ∨ s < -u.down := by omega
    clear hbad h0
    go_wp2_with fail
    all_goals
     go_ret2
     exact ⟨ret_ib HI.out.symm HJ.out.symm, hE⟩
end Go.Proofs.YtjinpfnefeiooaaGreat
namespace Go.Proofs.YtjinpfnefeiooaaGreat
open Go.RowKit

def U.after (u : U) : Int → List Bool → Int
 | s, [] => s
 | s, b :: r => if u.next s b = 0 then 0 else u.after (u.next s b) r
theorem feas_at {u : U} {s : Int} {xs : List Bool} {k : Nat} (hk : k < xs.length) : u.feasFrom s (xs.drop k) = if u.next s (xs.getD k false) = 0 then false else u.feasFrom (u.next s (xs.getD k false)) (xs.drop (k + 1)) := by
 rw [List.drop_eq_getElem_cons hk]
 have hg : xs.getD k false = xs[k] := by simp [List.getD, hk]
 rw [hg]
 rfl
theorem nextB_false {u : U} {s : Int} {on : Bool} (h : u.nextB s on = false) : u.next s on = 0 := by
 have := of_decide_eq_false h; simpa using this
theorem nextB_true {u : U} {s : Int} {on : Bool} (h : u.nextB s on = true) : u.next s on ≠ 0 := of_decide_eq_true h
set_option maxHeartbeats 1000000 in
theorem feasible_any (u : U) (A : Option Addr) (n c : Nat) (R : Option Addr) (m d : Nat) (row : List Bool) (w : World) (hs : StepsAt w A n u.steps) (hn : n ≤ maxLen) (hr : BoolsAt w R m row) (hm : m ≤ maxLen) :
  Calls Tryz.prog 35 #[u.val A n c, .slice R m d] w fun e w' => e = .returned (.bool (u.feas row)) ∧ Ext w w' := by
 unfold maxLen at hm
 go_enter Tryz.func35, Tryz.ntmps35
 go_wp2_with fail
 refine (valid_any u A n c _ (hs.below ((Below.refl _ _).alloc (Nat.le_refl _) _)) hn).mono ?_
 rintro e w1 ⟨rfl, hb1⟩
 have hE : Ext w w1 := Ext.new hb1
 have HU := LH ((ubox w u A n c).ext hb1)
 cases hok : u.ok
 ·have HI : Hid (u.feas row = false) := by unfold Hid U.feas; rw [hok]; rfl
  clear hok
  go_wp2_with fail
  go_ret
  exact ⟨ret_bool HI.out.symm, hE⟩
 ·have G := U.good hok
  have HI : Hid (u.feas row = u.feasFrom u.init (row.drop 0)) := by unfold Hid U.feas; rw [hok]; rfl
  clear hok
  obtain ⟨d0, d1, d2, d3, d4, d5, d6, d7, d8⟩ := HU.out
  go_wp2_with fail
  refine (init_any u G A n c _).mono ?_
  rintro e w2 ⟨rfl, hb2⟩
  have hE2 : Ext w w2 := ET hE hb2
  have HU2 := LH (HU.out.ext hb2)
  have hl := hr.1
  have HL := LH hl; clear hl
  have HR := LH (hr.below hE2).2
  have hsi := U.init_state G
  have HSI := LH hsi; clear hsi d0 d1 d2 d3 d4 d5 d6 d7 d8
  go_wp2_with fail
  go_loopw [5, 17] (fun s i wr => ∃ (k : Nat) (q : Int), k ≤ m ∧ i = .int .i64 k ∧ s = .int .i64 q ∧ Hid (u.isState q = true) ∧ Hid (u.feas row = u.feasFrom q (row.drop k)) ∧ Ext w2 wr) (fun _ i _ => m - (intOf i).toNat)
  case atStart => exact ⟨0, u.init, Nat.zero_le _, rfl, rfl, HSI, HI, Ext.rfl'⟩
  case round =>
   obtain ⟨k, q, hk, rfl, rfl, HQ, HF, hbw⟩ := hrel
   by_cases hlt : k < m
   ·obtain ⟨b, off, rfl, hbl, hcell⟩ := HR.out (by omega)
    have c1 := Ext.cellOf hbw (hcell k hlt)
    clear hcell
    have hbv : decide ((k : Int) < (m : Int)) = true := by simp; omega
    obtain ⟨d0, d1, d2, d3, d4, d5, d6, d7, d8⟩ := HU2.out.ext hbw
    have HN := LH (feas_at (u := u) (s := q) (xs := row) (k := k) (by rw [HL.out]; exact hlt))
    generalize row.getD k false = on at *
    go_wp2_with fail
    refine (unext_any u G q HQ.out on A n c _).mono ?_
    rintro e w3 ⟨rfl, hb3⟩
    cases hnb : u.nextB q on
    ·have HZ := LH (nextB_false hnb)
     clear hnb
     go_wp2_with fail
     go_ret
     refine ⟨ret_bool ?_, ET hE2 (ET hbw hb3)⟩
     rw [HF.out, HN.out, if_pos HZ.out]
    ·have HZ := LH (nextB_true hnb)
     clear hnb
     go_wp2_with fail
     go_roundw
     case rel => exact ⟨k + 1, _, by omega, by go_num, rfl, U.next_state G HQ.out HZ.out, HF.out.trans (by rw [HN.out, if_neg HZ.out]), ET hbw hb3⟩
     case measure => simp [intOf]; omega
   ·have hbv : decide ((k : Int) < (m : Int)) = false := by simp; omega
    go_wp2_with fail
    go_ret
    refine ⟨ret_bool ?_, ET hE2 hbw⟩
    rw [HF.out, List.drop_eq_nil_of_le (by rw [HL.out]; omega)]
    rfl
theorem starts_at {p : Bool} {xs : List Bool} {k : Nat} (hk : k < xs.length) : startsFrom p (xs.drop k) = (if xs.getD k false && !p then 1 else 0) + startsFrom (xs.getD k false) (xs.drop (k + 1)) := by
 rw [List.drop_eq_getElem_cons hk]
 have hg : xs.getD k false = xs[k] := by simp [List.getD, hk]
 rw [hg]
 rfl
set_option maxHeartbeats 1000000 in
theorem starts_any (u : U) (A : Option Addr) (n c : Nat) (R : Option Addr) (m d : Nat) (row : List Bool) (w : World) (hs : StepsAt w A n u.steps) (hn : n ≤ maxLen) (hr : BoolsAt w R m row) (hm : m ≤ maxLen) :
  Calls Tryz.prog 36 #[u.val A n c, .slice R m d] w fun e w' => e = .returned (.int .i64 (u.starts row)) ∧ Ext w w' := by
 unfold maxLen at hm
 go_enter Tryz.func36, Tryz.ntmps36
 go_wp2_with fail
 refine (valid_any u A n c _ (hs.below ((Below.refl _ _).alloc (Nat.le_refl _) _)) hn).mono ?_
 rintro e w1 ⟨rfl, hb1⟩
 have hE : Ext w w1 := Ext.new hb1
 cases hok : u.ok
 ·have HI : Hid (u.starts row = 0) := by unfold Hid U.starts; rw [hok]; rfl
  clear hok
  go_wp2_with fail
  go_ret
  exact ⟨ret_int HI.out.symm, hE⟩
 ·have HI : Hid (u.starts row = 0 + startsFrom (decide (0 < u.on)) (row.drop 0)) := by unfold Hid U.starts; rw [hok]; simp
  clear hok
  obtain ⟨d0, d1, d2, d3, d4, d5, d6, d7, d8⟩ := (ubox w u A n c).ext hb1
  have hl := hr.1
  have HL := LH hl; clear hl
  have HR := LH (hr.below hE).2
  go_wp2_with fail
  go_loopw [5, 6, 17] (fun s p i wr => ∃ (k : Nat) (q : Int) (on : Bool), k ≤ m ∧ i = .int .i64 k ∧ s = .int .i64 q ∧ p = .bool on ∧ 0 ≤ q ∧ q ≤ k ∧ Hid (u.starts row = q + startsFrom on (row.drop k)) ∧ wr = w1) (fun _ _ i _ => m - (intOf i).toNat)
  case atStart => exact ⟨0, 0, decide (0 < u.on), Nat.zero_le _, rfl, rfl, rfl, by omega, by omega, HI, rfl⟩
  case round =>
   obtain ⟨k, q, p, hk, rfl, rfl, rfl, hq0, hqk, HF, rfl⟩ := hrel
   by_cases hlt : k < m
   ·obtain ⟨b, off, rfl, hbl, hcell⟩ := HR.out (by omega)
    have c1 := hcell k hlt
    clear hcell
    have hbv : decide ((k : Int) < (m : Int)) = true := by simp; omega
    have HN := LH (starts_at (p := p) (xs := row) (k := k) (by rw [HL.out]; exact hlt))
    generalize row.getD k false = on at *
    cases on <;> cases p
    all_goals
     go_wp2_with fail
     go_roundw
     case rel => exact ⟨k + 1, _, _, by omega, by go_num, rfl, rfl, by omega, by omega, HF.out.trans (by rw [HN.out]; simp; try omega), trivial⟩
     case measure => simp [intOf]; omega
   ·have hbv : decide ((k : Int) < (m : Int)) = false := by simp; omega
    go_wp2_with fail
    go_ret
    refine ⟨ret_int ?_, hE⟩
    rw [HF.out, List.drop_eq_nil_of_le (by rw [HL.out]; omega)]
    simp [startsFrom]
end Go.Proofs.YtjinpfnefeiooaaGreat
