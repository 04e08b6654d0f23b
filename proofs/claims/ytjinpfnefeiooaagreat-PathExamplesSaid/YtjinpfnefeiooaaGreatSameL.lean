/- A part of the proof. -/
import Derived.Test.YtjinpfnefeiooaaGreatUnits
namespace Go.Proofs.YtjinpfnefeiooaaGreat
open Go.RowKit

theorem lists_ne {α : Type} [DecidableEq α] {xs ys : List α} {d : α} {k : Nat} (hne : xs.getD k d ≠ ys.getD k d) : decide (xs = ys) = false := by
 apply decide_eq_false
 rintro rfl
 exact hne rfl
theorem lists_eq {α : Type} [DecidableEq α] {xs ys : List α} {d : α} (hl : xs.length = ys.length) (h : ∀ j, j < xs.length → xs.getD j d = ys.getD j d) : decide (xs = ys) = true := by
 apply decide_eq_true
 apply List.ext_getElem hl
 intro i h1 h2
 have := h i h1
 simpa [List.getD, h1, h2] using this
set_option maxHeartbeats 1000000 in
theorem same_any (A : Option Addr) (n c : Nat) (xs : List Bool) (B : Option Addr) (m d : Nat) (ys : List Bool) (w : World) (hx : BoolsAt w A n xs) (hy : BoolsAt w B m ys) (hn : n ≤ maxLen) :
  Calls Tryz.prog 15 #[.slice A n c, .slice B m d] w fun e w' => e = .returned (.bool (decide (xs = ys))) ∧ Ext w w' := by
 unfold maxLen at hn
 by_cases hnm : n = m
 ·subst hnm
  have HL := LH hx.1
  have HM := LH hy.1
  have HX := LH hx.2
  have HY := LH hy.2
  clear hx hy
  go_enter Tryz.func15, Tryz.ntmps15
  go_wp2_with fail
  go_loopw [5] (fun i wr => ∃ k : Nat, k ≤ n ∧ i = .int .i64 k ∧ Hid (∀ j, j < k → xs.getD j false = ys.getD j false) ∧ Ext w wr) (fun i _ => n - (intOf i).toNat)
  case atStart => exact ⟨0, by omega, rfl, fun j hj => by omega, Ext.rfl'⟩
  case round =>
   obtain ⟨k, hk, rfl, HE, hbw⟩ := hrel
   by_cases hlt : k < n
   ·obtain ⟨b, off, rfl, hbl, hc⟩ := HX.out (by omega)
    obtain ⟨b', off', rfl, hbl', hc'⟩ := HY.out (by omega)
    have c1 := Ext.cellOf hbw (hc k hlt)
    have c2 := Ext.cellOf hbw (hc' k hlt)
    clear hc hc'
    have hbv : decide ((k : Int) < (n : Int)) = true := by simp; omega
    have h01 : (0 : Int) ≤ (k : Int) := by omega
    have h02 : (k : Int) < (n : Int) := by omega
    have HX1 : Hid (xs.getD k false = ys.getD k false → ∀ j, j < k + 1 → xs.getD j false = ys.getD j false) := fun e j hj => by
     rcases Nat.lt_or_ge j k with h | h
     ·exact HE.out j h
     ·obtain rfl : j = k := by omega
      exact e
    have HX2 : Hid (xs.getD k false ≠ ys.getD k false → decide (xs = ys) = false) := lists_ne
    generalize xs.getD k false = x at *
    generalize ys.getD k false = y at *
    cases x <;> cases y
    ·go_wp2_with fail
     go_quiet (fail)
     go_wp2_with fail
     go_roundw
     case rel => exact ⟨k + 1, by omega, by go_num, HX1.out (by simp), below_drewN hbw _⟩
     case measure => simp [intOf]; omega
    ·go_wp2_with fail
     go_quiet (fail)
     go_wp2_with fail
     go_ret
     exact ⟨ret_bool (HX2.out (by simp)).symm, below_drewN hbw _⟩
    ·go_wp2_with fail
     go_quiet (fail)
     go_wp2_with fail
     go_ret
     exact ⟨ret_bool (HX2.out (by simp)).symm, below_drewN hbw _⟩
    ·go_wp2_with fail
     go_quiet (fail)
     go_wp2_with fail
     go_roundw
     case rel => exact ⟨k + 1, by omega, by go_num, HX1.out (by simp), below_drewN hbw _⟩
     case measure => simp [intOf]; omega
   ·have hbv : decide ((k : Int) < (n : Int)) = false := by simp; omega
    go_wp2_with fail
    go_ret
    exact ⟨ret_bool (lists_eq (by rw [HL.out, HM.out]) fun j hj => HE.out j (by rw [HL.out] at hj; omega)).symm, hbw⟩
 ·have hb : ((n : Int) != (m : Int)) = true := by simp; omega
  have HZ : Hid (decide (xs = ys) = false) := by
   apply decide_eq_false
   rintro rfl
   exact hnm (hx.1.symm.trans hy.1)
  clear hnm hx hy
  go_enter Tryz.func15, Tryz.ntmps15
  go_wp2_with fail
  go_ret
  exact ⟨ret_bool HZ.out.symm, Ext.rfl'⟩
end Go.Proofs.YtjinpfnefeiooaaGreat
