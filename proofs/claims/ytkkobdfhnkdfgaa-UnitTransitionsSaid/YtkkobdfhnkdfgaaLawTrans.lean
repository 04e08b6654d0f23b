/- UnitTransitions: the walk: for every unit and every schedule the law answers true. -/
import Derived.Test.YtkkobdfhnkdfgaaAwakeB
import Derived.Test.YtkkobdfhnkdfgaaOpen
namespace Go.Proofs.Ytkkobdfhnkdfgaa
open Go.RowKit

theorem nextG_eq {u : U} (h : u.ok = true) {s : Int} (hs : u.isState s = true) (on : Bool) : u.nextG s on = u.next s on := by unfold U.nextG; rw [h, hs]; rfl
theorem nextGB_eq {u : U} (h : u.ok = true) {s : Int} (hs : u.isState s = true) (on : Bool) : u.nextGB s on = u.nextB s on := by unfold U.nextGB U.nextB; rw [nextG_eq h hs]
theorem init_sign {u : U} (g : u.Good) : decide (0 < u.init) = decide (0 < u.on) := by
  obtain ⟨⟩ := g
  by_cases h : 0 < u.on
  · rw [decide_eq_true h, decide_eq_true]; unfold U.init; omega
  · rw [decide_eq_false h, decide_eq_false]; unfold U.init; omega
theorem next_sign {u : U} (g : u.Good) {s : Int} (hs : u.isState s = true) {on : Bool} (h : u.next s on ≠ 0) : decide (0 < u.next s on) = on := by
  obtain ⟨⟩ := g
  simp only [U.isState, Bool.and_eq_true, decide_eq_true_eq] at hs
  unfold U.next at h ⊢
  cases on
  · simp only [Bool.false_eq_true, if_false] at h ⊢
    apply decide_eq_false
    by_cases h1 : s < 0
    · simp only [if_pos h1] at *; omega
    · simp only [if_neg h1] at *
      by_cases h2 : s = u.up
      · simp only [if_pos h2] at *; omega
      · simp only [if_neg h2] at *; omega
  · simp only [if_true] at h ⊢
    apply decide_eq_true
    by_cases h1 : 0 < s
    · simp only [if_pos h1] at *; omega
    · simp only [if_neg h1] at *
      by_cases h2 : s = -u.down
      · simp only [if_pos h2] at *; omega
      · simp only [if_neg h2] at *; omega
theorem next_zero {u : U} (g : u.Good) {s : Int} (hs : u.isState s = true) {on : Bool} (h : u.next s on = 0) : on ≠ decide (0 < s) ∧ s ≠ u.up ∧ s ≠ -u.down := by
  obtain ⟨⟩ := g
  simp only [U.isState, Bool.and_eq_true, decide_eq_true_eq] at hs
  unfold U.next at h
  cases on
  · simp only [Bool.false_eq_true, if_false] at h
    by_cases h1 : s < 0
    · simp only [if_pos h1] at h; omega
    · simp only [if_neg h1] at h
      by_cases h2 : s = u.up
      · simp only [if_pos h2] at h; omega
      · exact ⟨by rw [decide_eq_true (by omega)]; simp, h2, by omega⟩
  · simp only [if_true] at h
    by_cases h1 : 0 < s
    · simp only [if_pos h1] at h; omega
    · simp only [if_neg h1] at h
      by_cases h2 : s = -u.down
      · simp only [if_pos h2] at h; omega
      · exact ⟨by rw [decide_eq_false (by omega)]; simp, by omega, h2⟩

set_option maxRecDepth 100000 in
set_option maxHeartbeats 4000000 in
theorem trans_any (u : U) (A : Option Addr) (n c : Nat) (R : Option Addr) (m d : Nat) (row : List Bool) (w : World) (hs : StepsAt w A n u.steps) (hn : n ≤ maxLen) (hr : BoolsAt w R m row) (hm : m ≤ maxLen) :
    Calls Try.prog 5 #[u.val A n c, .slice R m d] w fun e w' => e = .returned (.bool true) ∧ Ext w w' := by
  go_enter Try.func5, Try.ntmps5
  go_wp2_with fail
  refine (long_any u A n c R m d _).mono ?_
  rintro e w01 ⟨rfl, hb1⟩
  have HE1 : Hid (Ext w w01) := Ext.new hb1
  have HU1 := Lib.hid ((ubox w u A n c).ext hb1)
  rcases hlong : longB n m with _ | _
  rotate_left
  · clear hlong hb1
    go_wp2_with fail
    refine (awake_any _).mono ?_
    rintro e w3 ⟨rfl, hb3⟩
    go_wp2_with fail
    go_ret
    exact ⟨rfl, Ext.trans HE1.out hb3⟩
  have hm1 : m ≤ 100 := by simp [longB] at hlong; omega
  clear hlong hb1
  obtain ⟨d0, d1, d2, d3, d4, d5, d6, d7, d8⟩ := HU1.out
  go_wp2_with fail
  refine (may_any u A n c _ (hs.below HE1.out) hn).mono ?_
  rintro e w2 ⟨rfl, hb2⟩
  have HE2 : Hid (Ext w w2) := Ext.trans HE1.out hb2
  have HU2 := Lib.hid (HU1.out.ext hb2)
  clear d0 d1 d2 d3 d4 d5 d6 d7 d8 hb2
  rcases hok : u.ok with _ | _
  · clear hok
    go_wp2_with fail
    refine (awake_any _).mono ?_
    rintro e w3 ⟨rfl, hb3⟩
    go_wp2_with fail
    go_ret
    exact ⟨rfl, Ext.trans HE2.out hb3⟩
  have HOK := Lib.hid hok
  clear hok
  go_wp2_with fail
  refine (awake_any _).mono ?_
  rintro e w3 ⟨rfl, hb3⟩
  have HE3 : Hid (Ext w w3) := Ext.trans HE2.out hb3
  have HU3 := Lib.hid (HU2.out.ext hb3)
  have G := U.good HOK.out
  clear hb3 HU1 HU2 HE1 HE2
  obtain ⟨d0, d1, d2, d3, d4, d5, d6, d7, d8⟩ := HU3.out
  have hlt : w.heap.size < w3.heap.size := World.block_lt_of_cell? _ _ d0
  go_wp2_with fail
  clear d0 d1 d2 d3 d4 d5 d6 d7 d8
  refine (initial_any u A n c _ (hs.below HE3.out) hn).mono ?_
  rintro e w4 ⟨rfl, hb4⟩
  have HE4 : Hid (Ext w w4) := Ext.trans HE3.out hb4
  have HU4 := Lib.hid (HU3.out.ext hb4)
  have hinit : u.initial = u.init := by unfold U.initial; rw [HOK.out]; rfl
  have HST := Lib.hid (U.init_state G)
  have hst := U.init_state G
  simp only [U.isState, Bool.and_eq_true, decide_eq_true_eq] at hst
  obtain ⟨⟨s1, s2⟩, s3⟩ := hst
  have sb : (u.init == 0) = false := by simp; omega
  have hsg := init_sign G
  have g1 := G.dn1
  have g2 := G.dn6
  have HF : Hid (u.feas row = u.feasFrom u.init (row.drop 0)) := by unfold Hid U.feas; rw [HOK.out]; rfl
  have HL := Lib.hid hr.1
  have HR := Lib.hid (hr.below HE4.out).2
  clear hb4 HE3 HU3
  rw [hinit]
  clear hinit
  obtain ⟨d0, d1, d2, d3, d4, d5, d6, d7, d8⟩ := HU4.out
  obtain ⟨sg, hsg1⟩ : ∃ sg, decide (0 < u.on) = sg := ⟨_, rfl⟩
  rw [hsg1] at hsg
  go_wp2_with fail
  clear d0 d1 d2 d3 d4 d5 d6 d7 d8
  clear hsg hsg1 sb s1 s2 s3
  go_loopw [5, 6] (fun s i wr => ∃ (k : Nat) (q : Int), k ≤ m ∧ i = .int .i64 k ∧ s = .int .i64 q ∧ Hid (u.isState q = true) ∧ Hid (u.feas row = u.feasFrom q (row.drop k)) ∧ Ext w4 wr) (fun _ i _ => m - (intOf i).toNat)
  case atStart => exact ⟨0, u.init, Nat.zero_le _, rfl, rfl, HST, HF, Ext.rfl'⟩
  case round =>
    obtain ⟨k, q, hk, rfl, rfl, HQ, HFR, hbw⟩ := hrel
    by_cases hlt2 : k < m
    · obtain ⟨b, off, rfl, hbl, hcell⟩ := HR.out (by omega)
      have c1 := Ext.cellOf hbw (hcell k hlt2)
      clear hcell
      have hbv : decide ((k : Int) < (m : Int)) = true := by simp; omega
      have h01 : (0 : Int) ≤ (k : Int) := by omega
      have h02 : (k : Int) < (m : Int) := by omega
      have HUr := Lib.hid (HU4.out.ext hbw)
      obtain ⟨d0, d1, d2, d3, d4, d5, d6, d7, d8⟩ := HUr.out
      have HN := Lib.hid (feas_at (u := u) (s := q) (xs := row) (k := k) (by rw [HL.out]; exact hlt2))
      generalize row.getD k false = on at *
      have x0 := fun x : ExtOf wr => x.cell d0
      have x1 := fun x : ExtOf wr => x.cell d1
      have x2 := fun x : ExtOf wr => x.cell d2
      have x3 := fun x : ExtOf wr => x.cell d3
      have x4 := fun x : ExtOf wr => x.cell d4
      have x5 := fun x : ExtOf wr => x.cell d5
      have x6 := fun x : ExtOf wr => x.cell d6
      have x7 := fun x : ExtOf wr => x.cell d7
      have x8 := fun x : ExtOf wr => x.cell d8
      have x9 := fun x : ExtOf wr => x.cell c1
      have C1 := fun wx (h : Ext wr wx) => nextG_any u q on A n c wx ((hs.below (Ext.trans HE4.out hbw)).below h) hn
      simp only [nextG_eq HOK.out HQ.out, nextGB_eq HOK.out HQ.out] at C1
      have K1 := Lib.hid C1
      clear C1
      go_wp2_with fail
      refine wp_region_ext (by kernel_rfl) (by kernel_rfl) ?_
      repeat (go_big_quiet_step (exact ext_call (K1.out _ (ExtOf.h _))))
      refine wpQuiet_nil ?_
      rintro _ ⟨x, rfl⟩
      have hx := x.h
      clear x0 x1 x2 x3 x4 x5 x6 x7 x8 x9 d0 d1 d2 d3 d4 d5 d6 d7 d8
      generalize x.w = w5 at *
      have HU5 := Lib.hid (HUr.out.ext hx)
      have HE5 : Hid (Ext w4 w5) := Ext.trans hbw hx
      have c5 := Ext.cellOf hx c1
      clear c1 HUr
      obtain ⟨d0, d1, d2, d3, d4, d5, d6, d7, d8⟩ := HU5.out
      cases hnb : u.nextB q on
      · have hz := nextB_false hnb
        obtain ⟨z1, z2, z3⟩ := next_zero G HQ.out hz
        have y1 : (q != u.up) = true := by simp [z2]
        have y2 : (q != -u.down) = true := by simp [z3]
        have y3 : (on == decide (0 < q)) = false := by simpa using z1
        have HZ := Lib.hid hz
        have HFF : Hid (u.feas row = false) := by unfold Hid; rw [HFR.out, HN.out, if_pos hz]
        clear hnb y3 z2 z3 hz
        cases on
        · have hq : 0 < q := by simpa using z1
          clear z1
          go_wp2_with fail
          ((with_reducible refine (feasible_any u A n c _ m d row _ (hs.below (Ext.trans HE4.out HE5.out)) hn (hr.below (Ext.trans HE4.out HE5.out)) hm).mono ?_))
          rintro e w6 ⟨rfl, hb6⟩
          rw [HFF.out]
          go_wp2_with fail
          go_ret
          exact ⟨rfl, Ext.trans (Ext.trans HE4.out HE5.out) hb6⟩
        · have hq : ¬ 0 < q := by simpa using z1
          clear z1
          go_wp2_with fail
          ((with_reducible refine (feasible_any u A n c _ m d row _ (hs.below (Ext.trans HE4.out HE5.out)) hn (hr.below (Ext.trans HE4.out HE5.out)) hm).mono ?_))
          rintro e w6 ⟨rfl, hb6⟩
          rw [HFF.out]
          go_wp2_with fail
          go_ret
          exact ⟨rfl, Ext.trans (Ext.trans HE4.out HE5.out) hb6⟩
      · have hz := nextB_true hnb
        have HZ := Lib.hid hz
        have hsg := next_sign G HQ.out hz
        have hst := U.next_state G HQ.out hz
        have HST5 := Lib.hid hst
        simp only [U.isState, Bool.and_eq_true, decide_eq_true_eq] at hst
        obtain ⟨⟨s1, s2⟩, s3⟩ := hst
        have sb : (u.next q on == 0) = false := by simp; omega
        have HNE : Hid (u.feas row = u.feasFrom (u.next q on) (row.drop (k + 1))) := by unfold Hid; rw [HFR.out, HN.out, if_neg hz]
        clear hnb hz
        generalize u.next q on = q2 at *
        cases on
        · have hq : ¬ 0 < q2 := by simpa using hsg
          clear hsg
          go_wp2_with fail
          go_roundw
          case rel => exact ⟨k + 1, q2, by omega, by go_num, rfl, HST5, HNE, HE5.out⟩
          case measure => simp [intOf]; omega
        · have hq : 0 < q2 := by simpa using hsg
          clear hsg
          go_wp2_with fail
          go_roundw
          case rel => exact ⟨k + 1, q2, by omega, by go_num, rfl, HST5, HNE, HE5.out⟩
          case measure => simp [intOf]; omega
    · have hbv : decide ((k : Int) < (m : Int)) = false := by simp; omega
      have HFT : Hid (u.feas row = true) := by
        unfold Hid
        rw [HFR.out, List.drop_eq_nil_of_le (by rw [HL.out]; omega)]
        rfl
      obtain ⟨d0, d1, d2, d3, d4, d5, d6, d7, d8⟩ := HU4.out.ext hbw
      go_wp2_with fail
      ((with_reducible refine (feasible_any u A n c _ m d row _ (hs.below (Ext.trans HE4.out hbw)) hn (hr.below (Ext.trans HE4.out hbw)) hm).mono ?_))
      rintro e w6 ⟨rfl, hb6⟩
      rw [HFT.out]
      go_wp2_with fail
      go_ret
      exact ⟨rfl, Ext.trans (Ext.trans HE4.out hbw) hb6⟩
end Go.Proofs.Ytkkobdfhnkdfgaa
