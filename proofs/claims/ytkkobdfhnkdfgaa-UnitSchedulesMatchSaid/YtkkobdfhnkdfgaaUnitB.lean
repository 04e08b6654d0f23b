/- Contracts of package unit: valid, Max, initial, next, Initial, Next, Feasible, Starts, FixedCost. -/
import Derived.Test.YtkkobdfhnkdfgaaUnitA
namespace Go.Proofs.Ytkkobdfhnkdfgaa
open Go.RowKit

abbrev U.cells (u : U) (A : Option Addr) (n c : Nat) : Obj :=
  .cells #[.int .i64 u.bus, .int .i64 u.mn, .slice A n c, .int .i64 u.up, .int .i64 u.down, .int .i64 u.start, .int .i64 u.idle, .int .i64 u.spin, .int .i64 u.on] 24
/-- The nine cells of a unit. -/
def UAt (w : World) (b : Nat) (u : U) (A : Option Addr) (n c : Nat) : Prop :=
  w.cell? ⟨b, 0, none⟩ = some (.int .i64 u.bus) ∧ w.cell? ⟨b, 1, none⟩ = some (.int .i64 u.mn) ∧ w.cell? ⟨b, 2, none⟩ = some (.slice A n c) ∧
  w.cell? ⟨b, 3, none⟩ = some (.int .i64 u.up) ∧ w.cell? ⟨b, 4, none⟩ = some (.int .i64 u.down) ∧ w.cell? ⟨b, 5, none⟩ = some (.int .i64 u.start) ∧
  w.cell? ⟨b, 6, none⟩ = some (.int .i64 u.idle) ∧ w.cell? ⟨b, 7, none⟩ = some (.int .i64 u.spin) ∧ w.cell? ⟨b, 8, none⟩ = some (.int .i64 u.on)
theorem ubox (w : World) (u : U) (A : Option Addr) (n c : Nat) : UAt (w.alloc (u.cells A n c)) w.heap.size u A n c := by
  unfold UAt; simp [go_sem]
theorem UAt.ext {w w' : World} {b : Nat} {u : U} {A : Option Addr} {n c : Nat} (h : UAt w b u A n c) (hb : Ext w w') : UAt w' b u A n c := by
  obtain ⟨h0, h1, h2, h3, h4, h5, h6, h7, h8⟩ := h
  exact ⟨hb.cellOf h0, hb.cellOf h1, hb.cellOf h2, hb.cellOf h3, hb.cellOf h4, hb.cellOf h5, hb.cellOf h6, hb.cellOf h7, hb.cellOf h8⟩
theorem Ext.new1 (w : World) (o : Obj) : Ext w (w.alloc o) := (Below.refl _ _).alloc (Nat.le_refl _) o

set_option maxHeartbeats 400000 in
theorem valid_any (u : U) (A : Option Addr) (n c : Nat) (w : World) (hs : StepsAt w A n u.steps) (hn : n ≤ maxLen) :
    Calls Try.prog 32 #[u.val A n c] w fun e w' => e = .returned (.bool u.ok) ∧ Ext w w' := by
  go_enter Try.func32, Try.ntmps32
  go_wp2_with fail
  refine (ucheck_any u 6 A n c _ (hs.below ((Below.refl _ _).alloc (Nat.le_refl _) _)) hn).mono ?_
  rintro e w1 ⟨rfl, hb1⟩
  go_wp2_with fail
  go_ret
  exact ⟨rfl, Ext.new hb1⟩

set_option maxHeartbeats 400000 in
theorem max_any (u : U) (A : Option Addr) (n c : Nat) (w : World) (hs : StepsAt w A n u.steps) (hn : n ≤ maxLen) :
    Calls Try.prog 25 #[u.val A n c] w fun e w' => e = .returned (.int .i64 u.top) ∧ Ext w w' := by
  go_enter Try.func25, Try.ntmps25
  go_wp2_with fail
  refine (checkOffer_any A n c u.steps _ (hs.below ((Below.refl _ _).alloc (Nat.le_refl _) _)) hn).mono ?_
  rintro e w1 ⟨rfl, hb1⟩
  have hE : Ext w w1 := Ext.new hb1
  by_cases hc : chk true u.steps = 0
  · have hcb : (chk true u.steps != 0) = false := by simp [hc]
    have HC : Hid (u.top = total u.steps) := by unfold Hid U.top; rw [if_pos hc]
    clear hc
    have d2 : w1.cell? ⟨w.heap.size, 2, none⟩ = some (.slice A n c) := Ext.cellOf hb1 (by simp [go_sem])
    go_wp2_with fail
    refine (sum_any A n c u.steps _ (hs.below hE) hn).mono ?_
    rintro e w2 ⟨rfl, hb2⟩
    go_wp2_with fail
    go_ret
    exact ⟨ret_int HC.out.symm, Ext.trans hE hb2⟩
  · have hcb : (chk true u.steps != 0) = true := by simp [hc]
    have HC : Hid (u.top = 0) := by unfold Hid U.top; rw [if_neg hc]
    clear hc
    go_wp2_with fail
    go_ret
    exact ⟨ret_int HC.out.symm, hE⟩

set_option maxHeartbeats 400000 in
theorem init_any (u : U) (g : u.Good) (A : Option Addr) (n c : Nat) (w : World) :
    Calls Try.prog 31 #[u.val A n c] w fun e w' => e = .returned (.int .i64 u.init) ∧ Ext w w' := by
  obtain ⟨g1, g2, g3, g4, _, _, _, _, g5, g6, g7⟩ := g
  go_enter Try.func31, Try.ntmps31
  go_wp2_with fail
  all_goals
    go_ret
    exact ⟨ret_int (by unfold U.init; omega), Ext.al Ext.rfl' _⟩

theorem ret_ib {a b : Int} {x y : Bool} (h : a = b) (k : x = y) : Ending.returned (.tuple #[.int .i64 a, .bool x]) = .returned (.tuple #[.int .i64 b, .bool y]) := by rw [h, k]
set_option maxHeartbeats 1000000 in
theorem next_any (u : U) (g : u.Good) (s : Int) (hst : u.isState s = true) (on : Bool) (A : Option Addr) (n c : Nat) (w : World) :
    Calls Try.prog 30 #[u.val A n c, .int .i64 s, .bool on] w fun e w' => e = .returned (.tuple #[.int .i64 (u.next s on), .bool (u.nextB s on)]) ∧ Ext w w' := by
  obtain ⟨g1, g2, g3, g4, _, _, _, _, g5, g6, g7⟩ := g
  simp only [U.isState, Bool.and_eq_true, decide_eq_true_eq] at hst
  obtain ⟨⟨s1, s2⟩, s3⟩ := hst
  cases on
  · by_cases h1 : s < 0
    · have HN : Hid (u.next s false = max (s - 1) (-u.down)) := by unfold Hid U.next; simp [h1]
      have HM : Hid (u.nextB s false = true) := by unfold Hid U.nextB; rw [HN.out]; simp; omega
      go_enter Try.func30, Try.ntmps30
      go_wp2_with fail
      all_goals
        go_ret2
        exact ⟨ret_ib (by rw [HN.out]; omega) HM.out.symm, Ext.al Ext.rfl' _⟩
    · by_cases h2 : s = u.up
      · have HN : Hid (u.next s false = -1) := by unfold Hid U.next; simp [h2]; omega
        have HM : Hid (u.nextB s false = true) := by unfold Hid U.nextB; rw [HN.out]; simp
        have hb : (s == u.up) = true := by simp [h2]
        have H2 := Lib.hid h2; clear h2
        go_enter Try.func30, Try.ntmps30
        go_wp2_with fail
        go_ret2
        exact ⟨ret_ib HN.out.symm HM.out.symm, Ext.al Ext.rfl' _⟩
      · have HN : Hid (u.next s false = 0) := by unfold Hid U.next; simp [h1, h2]
        have HM : Hid (u.nextB s false = false) := by unfold Hid U.nextB; rw [HN.out]; simp
        have hb : (s == u.up) = false := by simp [h2]
        have H2 := Lib.hid h2; clear h2
        go_enter Try.func30, Try.ntmps30
        go_wp2_with fail
        go_ret2
        exact ⟨ret_ib HN.out.symm HM.out.symm, Ext.al Ext.rfl' _⟩
  · by_cases h1 : 0 < s
    · have HN : Hid (u.next s true = min (s + 1) u.up) := by unfold Hid U.next; simp [h1]
      have HM : Hid (u.nextB s true = true) := by unfold Hid U.nextB; rw [HN.out]; simp; omega
      go_enter Try.func30, Try.ntmps30
      go_wp2_with fail
      all_goals
        go_ret2
        exact ⟨ret_ib (by rw [HN.out]; omega) HM.out.symm, Ext.al Ext.rfl' _⟩
    · by_cases h2 : s = -u.down
      · have HN : Hid (u.next s true = 1) := by unfold Hid U.next; simp [h2]; omega
        have HM : Hid (u.nextB s true = true) := by unfold Hid U.nextB; rw [HN.out]; simp
        have hb : (s == -u.down) = true := by simp [h2]
        have H2 := Lib.hid h2; clear h2
        go_enter Try.func30, Try.ntmps30
        go_wp2_with fail
        go_ret2
        exact ⟨ret_ib HN.out.symm HM.out.symm, Ext.al Ext.rfl' _⟩
      · have HN : Hid (u.next s true = 0) := by unfold Hid U.next; simp [h1, h2]
        have HM : Hid (u.nextB s true = false) := by unfold Hid U.nextB; rw [HN.out]; simp
        have hb : (s == -u.down) = false := by simp [h2]
        have H2 := Lib.hid h2; clear h2
        go_enter Try.func30, Try.ntmps30
        go_wp2_with fail
        go_ret2
        exact ⟨ret_ib HN.out.symm HM.out.symm, Ext.al Ext.rfl' _⟩

/-- Initial: 0 for an invalid unit. -/
def U.initial (u : U) : Int := if u.ok then u.init else 0
set_option maxHeartbeats 1000000 in
theorem initial_any (u : U) (A : Option Addr) (n c : Nat) (w : World) (hs : StepsAt w A n u.steps) (hn : n ≤ maxLen) :
    Calls Try.prog 17 #[u.val A n c] w fun e w' => e = .returned (.int .i64 u.initial) ∧ Ext w w' := by
  go_enter Try.func17, Try.ntmps17
  go_wp2_with fail
  refine (valid_any u A n c _ (hs.below ((Below.refl _ _).alloc (Nat.le_refl _) _)) hn).mono ?_
  rintro e w1 ⟨rfl, hb1⟩
  have hE : Ext w w1 := Ext.new hb1
  cases hok : u.ok
  · have HI : Hid (u.initial = 0) := by unfold Hid U.initial; rw [hok]; rfl
    clear hok
    go_wp2_with fail
    go_ret
    exact ⟨ret_int HI.out.symm, hE⟩
  · have HI : Hid (u.initial = u.init) := by unfold Hid U.initial; rw [hok]; rfl
    have G := U.good hok
    clear hok
    obtain ⟨d0, d1, d2, d3, d4, d5, d6, d7, d8⟩ := (ubox w u A n c).ext hb1
    go_wp2_with fail
    refine (init_any u G A n c _).mono ?_
    rintro e w2 ⟨rfl, hb2⟩
    go_wp2_with fail
    go_ret
    exact ⟨ret_int HI.out.symm, Ext.trans hE hb2⟩

/-- Next: (0, false) for an invalid unit or what is no state. -/
def U.nextG (u : U) (s : Int) (on : Bool) : Int := if u.ok && u.isState s then u.next s on else 0
def U.nextGB (u : U) (s : Int) (on : Bool) : Bool := decide (u.nextG s on ≠ 0)
set_option maxHeartbeats 1000000 in
theorem nextG_any (u : U) (s : Int) (on : Bool) (A : Option Addr) (n c : Nat) (w : World) (hs : StepsAt w A n u.steps) (hn : n ≤ maxLen) :
    Calls Try.prog 18 #[u.val A n c, .int .i64 s, .bool on] w fun e w' => e = .returned (.tuple #[.int .i64 (u.nextG s on), .bool (u.nextGB s on)]) ∧ Ext w w' := by
  go_enter Try.func18, Try.ntmps18
  go_wp2_with fail
  refine (valid_any u A n c _ (hs.below ((Below.refl _ _).alloc (Nat.le_refl _) _)) hn).mono ?_
  rintro e w1 ⟨rfl, hb1⟩
  have hE : Ext w w1 := Ext.new hb1
  obtain ⟨d0, d1, d2, d3, d4, d5, d6, d7, d8⟩ := (ubox w u A n c).ext hb1
  cases hok : u.ok
  · have HI : Hid (u.nextG s on = 0) := by unfold Hid U.nextG; rw [hok]; rfl
    have HJ : Hid (u.nextGB s on = false) := by unfold Hid U.nextGB; rw [HI.out]; rfl
    clear hok
    go_wp2_with fail
    go_ret2
    exact ⟨ret_ib HI.out.symm HJ.out.symm, hE⟩
  · have G := U.good hok
    have hdn : -6 ≤ -u.down ∧ -u.down ≤ -1 := ⟨by have := G.dn6; omega, by have := G.dn1; omega⟩
    by_cases hst : u.isState s = true
    · have HI : Hid (u.nextG s on = u.next s on) := by unfold Hid U.nextG; rw [hok, hst]; rfl
      have HJ : Hid (u.nextGB s on = u.nextB s on) := by unfold Hid U.nextGB U.nextB; rw [HI.out]
      clear hok
      have hst' := hst
      simp only [U.isState, Bool.and_eq_true, decide_eq_true_eq] at hst'
      obtain ⟨⟨s1, s2⟩, s3⟩ := hst'
      have HS := Lib.hid hst; clear hst
      have sb : (s == 0) = false := by simp; omega
      go_wp2_with fail
      refine (next_any u G s HS.out on A n c _).mono ?_
      rintro e w2 ⟨rfl, hb2⟩
      go_wp2_with fail
      go_ret2
      exact ⟨ret_ib HI.out.symm HJ.out.symm, Ext.trans hE hb2⟩
    · have HI : Hid (u.nextG s on = 0) := by unfold Hid U.nextG; rw [if_neg]; simp [hst]
      have HJ : Hid (u.nextGB s on = false) := by unfold Hid U.nextGB; rw [HI.out]; rfl
      clear hok
      simp only [U.isState, Bool.and_eq_true, decide_eq_true_eq] at hst
      have hbad : s = 0 ∨ u.up < s ∨ s < -u.down := by omega
      clear hst
      by_cases h0 : s = 0
      · have sb : (s == 0) = true := by simp; omega
        have H0 := Lib.hid h0; clear h0 hbad
        go_wp2_with fail
        go_ret2
        exact ⟨ret_ib HI.out.symm HJ.out.symm, hE⟩
      · have sb : (s == 0) = false := by simp; omega
        have hbad2 : u.up < s ∨ s < -u.down := by omega
        clear hbad h0
        go_wp2_with fail
        all_goals
          go_ret2
          exact ⟨ret_ib HI.out.symm HJ.out.symm, hE⟩
end Go.Proofs.Ytkkobdfhnkdfgaa
