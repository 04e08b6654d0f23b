/- Plain words for units: validity, states, schedules. -/
import Derived.Test.YtkkobdfhnkdfgaaStepP
namespace Go.Proofs.Ytkkobdfhnkdfgaa
open Go.RowKit

structure U where
  bus : Int
  mn : Int
  up : Int
  down : Int
  start : Int
  idle : Int
  spin : Int
  on : Int
  steps : List (Int × Int)
abbrev U.val (u : U) (A : Option Addr) (n c : Nat) : Value :=
  .agg #[.int .i64 u.bus, .int .i64 u.mn, .slice A n c, .int .i64 u.up, .int .i64 u.down, .int .i64 u.start, .int .i64 u.idle, .int .i64 u.spin, .int .i64 u.on]
def U.okMin (u : U) : Bool := decide (0 ≤ u.mn) && decide (u.mn ≤ total u.steps)
def U.okHold (u : U) : Bool := decide (1 ≤ u.up) && decide (u.up ≤ 6) && decide (1 ≤ u.down) && decide (u.down ≤ 6)
def U.okMoney (u : U) : Bool := decide (0 ≤ u.start) && decide (u.start ≤ 1000000000) && decide (0 ≤ u.idle) && decide (u.idle ≤ 1000000000)
def U.okSpin (u : U) : Bool := decide (0 ≤ u.spin) && decide (u.spin ≤ 1000000)
def U.okOn (u : U) : Bool := decide (u.on ≠ 0) && decide (-6 ≤ u.on) && decide (u.on ≤ 6)
def U.okBus (u : U) (buses : Int) : Bool := decide (0 ≤ u.bus) && decide (u.bus < buses)
def U.check (u : U) (buses : Int) : Int :=
  if u.okBus buses then (if chk true u.steps = 0 then (if u.okMin && u.okHold && u.okMoney && u.okSpin && u.okOn then 0 else 1) else chk true u.steps) else 1
def U.ok (u : U) : Bool := decide (u.check 6 = 0)
/-- What a valid unit is. -/
structure U.Good (u : U) : Prop where
  up1 : 1 ≤ u.up
  up6 : u.up ≤ 6
  dn1 : 1 ≤ u.down
  dn6 : u.down ≤ 6
  st0 : 0 ≤ u.start
  st9 : u.start ≤ 1000000000
  id0 : 0 ≤ u.idle
  id9 : u.idle ≤ 1000000000
  on0 : u.on ≠ 0
  onl : -6 ≤ u.on
  onh : u.on ≤ 6
theorem U.good {u : U} (h : u.ok = true) : u.Good := by
  replace h : u.check 6 = 0 := of_decide_eq_true h
  unfold U.check at h
  by_cases hb : u.okBus 6 = true
  · rw [if_pos hb] at h
    by_cases hc : chk true u.steps = 0
    · rw [if_pos hc] at h
      by_cases hr : (u.okMin && u.okHold && u.okMoney && u.okSpin && u.okOn) = true
      · simp only [U.okMin, U.okHold, U.okMoney, U.okSpin, U.okOn, Bool.and_eq_true, decide_eq_true_eq] at hr
        constructor <;> omega
      · rw [if_neg hr] at h; omega
    · rw [if_neg hc] at h; omega
  · rw [if_neg hb] at h; omega
theorem U.chk0 {u : U} (h : u.ok = true) : chk true u.steps = 0 := by
  replace h : u.check 6 = 0 := of_decide_eq_true h
  unfold U.check at h
  by_cases hb : u.okBus 6 = true
  · rw [if_pos hb] at h
    by_cases hc : chk true u.steps = 0
    · exact hc
    · rw [if_neg hc] at h; omega
  · rw [if_neg hb] at h; omega

def U.top (u : U) : Int := if chk true u.steps = 0 then total u.steps else 0
def U.init (u : U) : Int := max (min u.on u.up) (-u.down)
/-- The state one hour later, 0 where the transition is not allowed. -/
def U.next (u : U) (s : Int) (on : Bool) : Int :=
  if on then (if 0 < s then min (s + 1) u.up else if s = -u.down then 1 else 0)
  else (if s < 0 then max (s - 1) (-u.down) else if s = u.up then -1 else 0)
def U.nextB (u : U) (s : Int) (on : Bool) : Bool := decide (u.next s on ≠ 0)
def U.isState (u : U) (s : Int) : Bool := decide (s ≠ 0) && decide (s ≤ u.up) && decide (-u.down ≤ s)
theorem U.init_state {u : U} (g : u.Good) : u.isState u.init = true := by
  obtain ⟨⟩ := g
  simp only [U.isState, Bool.and_eq_true, decide_eq_true_eq]
  unfold U.init
  omega
theorem U.next_state {u : U} (g : u.Good) {s : Int} (hs : u.isState s = true) {on : Bool} (hn : u.next s on ≠ 0) : u.isState (u.next s on) = true := by
  obtain ⟨⟩ := g
  simp only [U.isState, Bool.and_eq_true, decide_eq_true_eq] at *
  unfold U.next at *
  cases on
  · simp only [Bool.false_eq_true, if_false] at *
    by_cases h1 : s < 0
    · simp only [if_pos h1] at *; omega
    · simp only [if_neg h1] at *
      by_cases h2 : s = u.up
      · simp only [if_pos h2] at *; omega
      · simp only [if_neg h2] at *; omega
  · simp only [if_true] at *
    by_cases h1 : 0 < s
    · simp only [if_pos h1] at *; omega
    · simp only [if_neg h1] at *
      by_cases h2 : s = -u.down
      · simp only [if_pos h2] at *; omega
      · simp only [if_neg h2] at *; omega
/-- The schedule is feasible from a state. -/
def U.feasFrom (u : U) : Int → List Bool → Bool
  | _, [] => true
  | s, b :: r => if u.next s b = 0 then false else u.feasFrom (u.next s b) r
def U.feas (u : U) (row : List Bool) : Bool := u.ok && u.feasFrom u.init row
def startsFrom : Bool → List Bool → Int
  | _, [] => 0
  | p, b :: r => (if b && !p then 1 else 0) + startsFrom b r
def U.starts (u : U) (row : List Bool) : Int := if u.ok then startsFrom (decide (0 < u.on)) row else 0
def ons : List Bool → Int
  | [] => 0
  | b :: r => (if b then 1 else 0) + ons r
def U.cost (u : U) (row : List Bool) : Int := if u.ok then u.start * u.starts row + u.idle * ons row else 0

/-- The slice with address A and length n holds the bools xs. -/
def BoolsAt (w : World) (A : Option Addr) (n : Nat) (xs : List Bool) : Prop :=
  xs.length = n ∧ (0 < n → ∃ b off, A = some ⟨b, off, none⟩ ∧ b < w.heap.size ∧ ∀ i, i < n → w.cell? ⟨b, off + i, none⟩ = some (.bool (xs.getD i false)))
theorem BoolsAt.below {w w' : World} {A : Option Addr} {n : Nat} {xs : List Bool} (h : BoolsAt w A n xs) (hb : Below w.heap.size w w') : BoolsAt w' A n xs := by
  refine ⟨h.1, fun hn => ?_⟩
  obtain ⟨b, off, ha, hlt, hc⟩ := h.2 hn
  exact ⟨b, off, ha, Nat.lt_of_lt_of_le hlt hb.size, fun i hi => (hb.cell (p := ⟨b, off + i, none⟩) hlt).trans (hc i hi)⟩
end Go.Proofs.Ytkkobdfhnkdfgaa
