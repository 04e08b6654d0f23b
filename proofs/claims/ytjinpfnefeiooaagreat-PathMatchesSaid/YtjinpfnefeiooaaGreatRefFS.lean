/- A part of the proof. -/
import Derived.Test.YtjinpfnefeiooaaGreatRefPS
import Derived.Test.YtjinpfnefeiooaaGreatPathR
namespace Go.Proofs.YtjinpfnefeiooaaGreat
open Go.RowKit
abbrev hdr (hrs : Nat) (p : Nat × Nat) : Value := .slice (some ⟨p.1, 0, none⟩) hrs p.2
def U.okRun (u : U) (on : Bool) (len : Int) : Bool := if on then decide (u.up ≤ len) else decide (u.down ≤ len)
def U.runFeas (u : U) : Bool → Int → List Bool → Bool
 | _, _, [] => true
 | on, len, b :: r => if b = on then u.runFeas on (len + 1) r else u.okRun on len && u.runFeas b 1 r
def U.satS (u : U) (on : Bool) (len : Int) : Int := if on then min len u.up else -(min len u.down)
theorem run_feas {u : U} (g : u.Good) : ∀ (row : List Bool) (on : Bool) (len : Int), 1 ≤ len → u.feasFrom (u.satS on len) row = u.runFeas on len row
 | [], _, _, _ => rfl
 | b :: r, on, len, hl => by
  have ih1 := run_feas g r on (len + 1) (by omega)
  have ih2 := run_feas g r b 1 (by omega)
  obtain ⟨⟩ := g
  rw [U.feasFrom, U.runFeas]
  cases on <;> cases b
  ·have e : u.next (u.satS false len) false = u.satS false (len + 1) := by
    unfold U.next U.satS
    simp only [Bool.false_eq_true, if_false]
    rw [if_pos (by omega)]
    omega
   rw [e, if_neg (by unfold U.satS; simp only [Bool.false_eq_true, if_false]; omega), if_pos rfl, ih1]
  ·have e : u.next (u.satS false len) true = if u.down ≤ len then u.satS true 1 else 0 := by
    unfold U.next U.satS
    simp only [Bool.false_eq_true, if_false, if_true]
    rw [if_neg (by omega)]
    by_cases h : u.down ≤ len
    ·rw [if_pos (by omega), if_pos h]; omega
    ·rw [if_neg (by omega), if_neg h]
   rw [e, if_neg (show ¬ (true = false) by simp)]
   unfold U.okRun
   simp only [Bool.false_eq_true, if_false]
   by_cases h : u.down ≤ len
   ·rw [if_pos h, if_neg (by unfold U.satS; simp only [if_true]; omega), ih2, decide_eq_true h]; rfl
   ·rw [if_neg h, if_pos rfl, decide_eq_false h]; rfl
  ·have e : u.next (u.satS true len) false = if u.up ≤ len then u.satS false 1 else 0 := by
    unfold U.next U.satS
    simp only [Bool.false_eq_true, if_false, if_true]
    rw [if_neg (by omega)]
    by_cases h : u.up ≤ len
    ·rw [if_pos (by omega), if_pos h]; omega
    ·rw [if_neg (by omega), if_neg h]
   rw [e, if_neg (show ¬ (false = true) by simp)]
   unfold U.okRun
   simp only [if_true]
   by_cases h : u.up ≤ len
   ·rw [if_pos h, if_neg (by unfold U.satS; simp only [Bool.false_eq_true, if_false]; omega), ih2, decide_eq_true h]; rfl
   ·rw [if_neg h, if_pos rfl, decide_eq_false h]; rfl
  ·have e : u.next (u.satS true len) true = u.satS true (len + 1) := by
    unfold U.next U.satS
    simp only [if_true]
    rw [if_pos (by omega)]
    omega
   rw [e, if_neg (by unfold U.satS; simp only [if_true]; omega), if_pos rfl, ih1]
theorem run_at (u : U) {on : Bool} {len : Int} {xs : List Bool} {k : Nat} (hk : k < xs.length) : u.runFeas on len (xs.drop k) = if xs.getD k false = on then u.runFeas on (len + 1) (xs.drop (k + 1)) else u.okRun on len && u.runFeas (xs.getD k false) 1 (xs.drop (k + 1)) := by
 rw [List.drop_eq_getElem_cons hk]
 have hg : xs.getD k false = xs[k] := by simp [List.getD, hk]
 rw [hg]
 rfl
theorem feas_count {u : U} (h : u.ok = true) (row : List Bool) : u.feas row = u.runFeas (decide (0 < u.on)) (if 0 < u.on then u.on else -u.on) row := by
 have g := U.good h
 have hl : 1 ≤ (if 0 < u.on then u.on else -u.on) := by obtain ⟨⟩ := g; split <;> omega
 rw [← run_feas g _ _ _ hl]
 unfold U.feas
 rw [h]
 have e : u.init = u.satS (decide (0 < u.on)) (if 0 < u.on then u.on else -u.on) := by
  obtain ⟨⟩ := g
  unfold U.init U.satS
  by_cases hp : 0 < u.on
  ·rw [if_pos hp, decide_eq_true hp]
   simp only [if_true]
   omega
  ·rw [if_neg hp, decide_eq_false hp]
   simp only [Bool.false_eq_true, if_false]
   omega
 rw [e]
 rfl
set_option maxHeartbeats 4000000 in
theorem rFeasible_any (u : U) (A : Option Addr) (n c : Nat) (R : Option Addr) (m d : Nat) (row : List Bool) (w : World) (hs : StepsAt w A n u.steps) (hn : n ≤ maxLen) (hr : BoolsAt w R m row) (hm : m ≤ 1000) (hok : u.ok = true) :
  Calls Tryz.prog 38 #[u.val A n c, .slice R m d] w fun e w' => e = .returned (.bool (u.feas row)) ∧ Ext w w' := by
 have HFC := LH (feas_count hok row)
 have G := U.good hok
 obtain ⟨g1, g2, g3, g4, _, _, _, _, g5, g6, g7⟩ := G
 go_enter Tryz.func38, Tryz.ntmps38
 go_wp2_with fail
 refine (rMay_any u A n c _ (hs.below ((Below.refl _ _).alloc (Nat.le_refl _) _)) hn).mono ?_
 rintro e w1 ⟨rfl, hb1⟩
 rw [hok]
 clear hok
 have hE : Ext w w1 := Ext.new hb1
 have HU := LH ((ubox w u A n c).ext hb1)
 have HL := LH hr.1
 have HR := LH (hr.below hE).2
 have d8 : w1.cell? ⟨w.heap.size, 8, none⟩ = some (.int .i64 u.on) := HU.out.2.2.2.2.2.2.2.2
 have d3 : w1.cell? ⟨w.heap.size, 3, none⟩ = some (.int .i64 u.up) := HU.out.2.2.2.1
 have d4 : w1.cell? ⟨w.heap.size, 4, none⟩ = some (.int .i64 u.down) := HU.out.2.2.2.2.1
 obtain ⟨on0, hon0⟩ : ∃ b, decide (0 < u.on) = b := ⟨_, rfl⟩
 obtain ⟨len0, hlen0⟩ : ∃ z : Int, (if 0 < u.on then u.on else -u.on) = z := ⟨_, rfl⟩
 have HFC0 : Hid (u.feas row = u.runFeas on0 len0 (row.drop 0)) := by have := HFC.out; rw [hon0, hlen0] at this; exact this
 have hl1 : 1 ≤ len0 := by rw [← hlen0]; split <;> omega
 have hl6 : len0 ≤ 6 := by rw [← hlen0]; split <;> omega
 by_cases hp : 0 < u.on
 ·have hpb : decide (0 < u.on) = true := decide_eq_true hp
  have e1 : on0 = true := by rw [← hon0, hpb]
  have e2 : len0 = u.on := by rw [← hlen0, if_pos hp]
  subst e1
  subst e2
  clear hon0 hlen0
  go_wp2_with fail
  go_quiet (fail)
  go_wp2_with fail
  go_loopw [5, 6, 7] (fun o l i wr => ∃ (k : Nat) (on : Bool) (len : Int), k ≤ m ∧ i = .int .i64 k ∧ o = .bool on ∧ l = .int .i64 len ∧ 1 ≤ len ∧ len ≤ 6 + k ∧ Hid (u.feas row = u.runFeas on len (row.drop k)) ∧ Ext w1 wr) (fun _ _ i _ => m - (intOf i).toNat)
  case atStart => exact ⟨0, _, _, by omega, rfl, rfl, rfl, hl1, by omega, HFC0, below_drewN Ext.rfl' _⟩
  case round =>
   obtain ⟨k, on, len, hk, rfl, rfl, rfl, h1l, hl6k, HI, hbw⟩ := hrel
   by_cases hlt : k < m
   ·obtain ⟨b, off, rfl, hbl, hc⟩ := HR.out (by omega)
    have c1 := Ext.cellOf hbw (hc k hlt)
    have e3 := Ext.cellOf hbw d3
    have e4 := Ext.cellOf hbw d4
    clear hc
    have hbv : decide ((k : Int) < (m : Int)) = true := by simp; omega
    have hsb : w.heap.size < wr.heap.size := World.block_lt_of_cell? _ _ e3
    have HN := LH (run_at u (on := on) (len := len) (xs := row) (k := k) (by rw [HL.out]; exact hlt))
    generalize row.getD k false = x at *
    cases on <;> cases x
    ·go_wp2_with fail
     go_roundw
     case rel => exact ⟨k + 1, false, len + 1, by omega, by go_num, rfl, by go_num, by omega, by omega, by have := HI.out; rw [HN.out, if_pos rfl] at this; exact this, hbw⟩
     case measure => simp [intOf]; omega
    ·by_cases hle : len < u.down
     ·have hlb : decide (len < u.down) = true := decide_eq_true hle
      go_wp2_with fail
      go_ret
      refine ⟨ret_bool ?_, ET hE hbw⟩
      have := HI.out
      rw [HN.out, if_neg (by simp)] at this
      rw [this]
      simp only [U.okRun, Bool.false_eq_true, if_false, if_true]
      rw [decide_eq_false (by omega)]
      rfl
     ·have hlb : decide (len < u.down) = false := decide_eq_false hle
      go_wp2_with fail
      go_roundw
      case rel =>
       refine ⟨k + 1, true, 1, by omega, by go_num, rfl, rfl, by omega, by omega, ?_, hbw⟩
       have := HI.out
       rw [HN.out, if_neg (by simp)] at this
       have hr : u.okRun false len = true := by simp [U.okRun]; omega
       rw [hr] at this
       exact this
      case measure => simp [intOf]; omega
    ·by_cases hle : len < u.up
     ·have hlb : decide (len < u.up) = true := decide_eq_true hle
      go_wp2_with fail
      go_ret
      refine ⟨ret_bool ?_, ET hE hbw⟩
      have := HI.out
      rw [HN.out, if_neg (by simp)] at this
      rw [this]
      simp only [U.okRun, Bool.false_eq_true, if_false, if_true]
      rw [decide_eq_false (by omega)]
      rfl
     ·have hlb : decide (len < u.up) = false := decide_eq_false hle
      go_wp2_with fail
      go_roundw
      case rel =>
       refine ⟨k + 1, false, 1, by omega, by go_num, rfl, rfl, by omega, by omega, ?_, hbw⟩
       have := HI.out
       rw [HN.out, if_neg (by simp)] at this
       have hr : u.okRun true len = true := by simp [U.okRun]; omega
       rw [hr] at this
       exact this
      case measure => simp [intOf]; omega
    ·go_wp2_with fail
     go_roundw
     case rel => exact ⟨k + 1, true, len + 1, by omega, by go_num, rfl, by go_num, by omega, by omega, by have := HI.out; rw [HN.out, if_pos rfl] at this; exact this, hbw⟩
     case measure => simp [intOf]; omega
   ·have hbv : decide ((k : Int) < (m : Int)) = false := by simp; omega
    go_wp2_with fail
    go_ret
    refine ⟨ret_bool ?_, ET hE hbw⟩
    have := HI.out
    rw [List.drop_eq_nil_of_le (by rw [HL.out]; omega)] at this
    rw [this]
    rfl
 ·have hpb : decide (0 < u.on) = false := decide_eq_false hp
  have e1 : on0 = false := by rw [← hon0, hpb]
  have e2 : len0 = -u.on := by rw [← hlen0, if_neg hp]
  subst e1
  subst e2
  clear hon0 hlen0
  go_wp2_with fail
  go_quiet (fail)
  go_wp2_with fail
  go_loopw [5, 6, 7] (fun o l i wr => ∃ (k : Nat) (on : Bool) (len : Int), k ≤ m ∧ i = .int .i64 k ∧ o = .bool on ∧ l = .int .i64 len ∧ 1 ≤ len ∧ len ≤ 6 + k ∧ Hid (u.feas row = u.runFeas on len (row.drop k)) ∧ Ext w1 wr) (fun _ _ i _ => m - (intOf i).toNat)
  case atStart => exact ⟨0, _, _, by omega, rfl, rfl, rfl, hl1, by omega, HFC0, below_drewN Ext.rfl' _⟩
  case round =>
   obtain ⟨k, on, len, hk, rfl, rfl, rfl, h1l, hl6k, HI, hbw⟩ := hrel
   by_cases hlt : k < m
   ·obtain ⟨b, off, rfl, hbl, hc⟩ := HR.out (by omega)
    have c1 := Ext.cellOf hbw (hc k hlt)
    have e3 := Ext.cellOf hbw d3
    have e4 := Ext.cellOf hbw d4
    clear hc
    have hbv : decide ((k : Int) < (m : Int)) = true := by simp; omega
    have hsb : w.heap.size < wr.heap.size := World.block_lt_of_cell? _ _ e3
    have HN := LH (run_at u (on := on) (len := len) (xs := row) (k := k) (by rw [HL.out]; exact hlt))
    generalize row.getD k false = x at *
    cases on <;> cases x
    ·go_wp2_with fail
     go_roundw
     case rel => exact ⟨k + 1, false, len + 1, by omega, by go_num, rfl, by go_num, by omega, by omega, by have := HI.out; rw [HN.out, if_pos rfl] at this; exact this, hbw⟩
     case measure => simp [intOf]; omega
    ·by_cases hle : len < u.down
     ·have hlb : decide (len < u.down) = true := decide_eq_true hle
      go_wp2_with fail
      go_ret
      refine ⟨ret_bool ?_, ET hE hbw⟩
      have := HI.out
      rw [HN.out, if_neg (by simp)] at this
      rw [this]
      simp only [U.okRun, Bool.false_eq_true, if_false, if_true]
      rw [decide_eq_false (by omega)]
      rfl
     ·have hlb : decide (len < u.down) = false := decide_eq_false hle
      go_wp2_with fail
      go_roundw
      case rel =>
       refine ⟨k + 1, true, 1, by omega, by go_num, rfl, rfl, by omega, by omega, ?_, hbw⟩
       have := HI.out
       rw [HN.out, if_neg (by simp)] at this
       have hr : u.okRun false len = true := by simp [U.okRun]; omega
       rw [hr] at this
       exact this
      case measure => simp [intOf]; omega
    ·by_cases hle : len < u.up
     ·have hlb : decide (len < u.up) = true := decide_eq_true hle
      go_wp2_with fail
      go_ret
      refine ⟨ret_bool ?_, ET hE hbw⟩
      have := HI.out
      rw [HN.out, if_neg (by simp)] at this
      rw [this]
      simp only [U.okRun, Bool.false_eq_true, if_false, if_true]
      rw [decide_eq_false (by omega)]
      rfl
     ·have hlb : decide (len < u.up) = false := decide_eq_false hle
      go_wp2_with fail
      go_roundw
      case rel =>
       refine ⟨k + 1, false, 1, by omega, by go_num, rfl, rfl, by omega, by omega, ?_, hbw⟩
       have := HI.out
       rw [HN.out, if_neg (by simp)] at this
       have hr : u.okRun true len = true := by simp [U.okRun]; omega
       rw [hr] at this
       exact this
      case measure => simp [intOf]; omega
    ·go_wp2_with fail
     go_roundw
     case rel => exact ⟨k + 1, true, len + 1, by omega, by go_num, rfl, by go_num, by omega, by omega, by have := HI.out; rw [HN.out, if_pos rfl] at this; exact this, hbw⟩
     case measure => simp [intOf]; omega
   ·have hbv : decide ((k : Int) < (m : Int)) = false := by simp; omega
    go_wp2_with fail
    go_ret
    refine ⟨ret_bool ?_, ET hE hbw⟩
    have := HI.out
    rw [List.drop_eq_nil_of_le (by rw [HL.out]; omega)] at this
    rw [this]
    rfl
end Go.Proofs.YtjinpfnefeiooaaGreat
