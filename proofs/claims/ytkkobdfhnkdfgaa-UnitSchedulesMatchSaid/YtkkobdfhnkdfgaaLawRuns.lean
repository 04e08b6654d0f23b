/- UnitRuns: the walk: for every unit and every schedule the law answers true. -/
import Derived.Test.YtkkobdfhnkdfgaaSetOn
namespace Go.Proofs.Ytkkobdfhnkdfgaa
open Go.RowKit

/-- Is a run of that length long enough? -/
def U.okRun (u : U) (on : Bool) (len : Int) : Bool := if on then decide (u.up ≤ len) else decide (u.down ≤ len)
/-- Every run that ends is long enough. -/
def U.runFeas (u : U) : Bool → Int → List Bool → Bool
  | _, _, [] => true
  | on, len, b :: r => if b = on then u.runFeas on (len + 1) r else u.okRun on len && u.runFeas b 1 r
def U.satS (u : U) (on : Bool) (len : Int) : Int := if on then min len u.up else -(min len u.down)
theorem run_feas {u : U} (g : u.Good) : ∀ (row : List Bool) (on : Bool) (len : Int), 1 ≤ len → u.feasFrom (u.satS on len) row = u.runFeas on len row
  | [], _, _, _ => rfl
  | b :: r, on, len, hl => by
    have ih1 := run_feas g r on (len + 1) (by omega)
    have ih2 := run_feas g r b 1 (by omega)
    obtain ⟨⟩ := g
    rw [U.feasFrom, U.runFeas]
    cases on <;> cases b
    · have e : u.next (u.satS false len) false = u.satS false (len + 1) := by
        unfold U.next U.satS
        simp only [Bool.false_eq_true, if_false]
        rw [if_pos (by omega)]
        omega
      rw [e, if_neg (by unfold U.satS; simp only [Bool.false_eq_true, if_false]; omega), if_pos rfl, ih1]
    · have e : u.next (u.satS false len) true = if u.down ≤ len then u.satS true 1 else 0 := by
        unfold U.next U.satS
        simp only [Bool.false_eq_true, if_false, if_true]
        rw [if_neg (by omega)]
        by_cases h : u.down ≤ len
        · rw [if_pos (by omega), if_pos h]; omega
        · rw [if_neg (by omega), if_neg h]
      rw [e, if_neg (show ¬ (true = false) by simp)]
      unfold U.okRun
      simp only [Bool.false_eq_true, if_false]
      by_cases h : u.down ≤ len
      · rw [if_pos h, if_neg (by unfold U.satS; simp only [if_true]; omega), ih2, decide_eq_true h]; rfl
      · rw [if_neg h, if_pos rfl, decide_eq_false h]; rfl
    · have e : u.next (u.satS true len) false = if u.up ≤ len then u.satS false 1 else 0 := by
        unfold U.next U.satS
        simp only [Bool.false_eq_true, if_false, if_true]
        rw [if_neg (by omega)]
        by_cases h : u.up ≤ len
        · rw [if_pos (by omega), if_pos h]; omega
        · rw [if_neg (by omega), if_neg h]
      rw [e, if_neg (show ¬ (false = true) by simp)]
      unfold U.okRun
      simp only [if_true]
      by_cases h : u.up ≤ len
      · rw [if_pos h, if_neg (by unfold U.satS; simp only [Bool.false_eq_true, if_false]; omega), ih2, decide_eq_true h]; rfl
      · rw [if_neg h, if_pos rfl, decide_eq_false h]; rfl
    · have e : u.next (u.satS true len) true = u.satS true (len + 1) := by
        unfold U.next U.satS
        simp only [if_true]
        rw [if_pos (by omega)]
        omega
      rw [e, if_neg (by unfold U.satS; simp only [if_true]; omega), if_pos rfl, ih1]
theorem run_hist (u : U) (on : Bool) (row : List Bool) : ∀ (k : Nat) (len : Int), u.runFeas on len (List.replicate k on ++ row) = u.runFeas on (len + k) row
  | 0, len => by simp
  | k + 1, len => by
    rw [List.replicate_succ, List.cons_append, U.runFeas, if_pos rfl, run_hist u on row k]
    congr 1
    omega
theorem run_at (u : U) {on : Bool} {len : Int} {xs : List Bool} {k : Nat} (hk : k < xs.length) : u.runFeas on len (xs.drop k) = if xs.getD k false = on then u.runFeas on (len + 1) (xs.drop (k + 1)) else u.okRun on len && u.runFeas (xs.getD k false) 1 (xs.drop (k + 1)) := by
  rw [List.drop_eq_getElem_cons hk]
  have hg : xs.getD k false = xs[k] := by simp [List.getD, hk]
  rw [hg]
  rfl
theorem feas_runs {u : U} (h : u.ok = true) (k : Nat) (hk1 : 1 ≤ k) (hk : (k : Int) = if 0 < u.on then u.on else -u.on) (row : List Bool) :
    u.feas row = u.runFeas (decide (0 < u.on)) 1 ((List.replicate k (decide (0 < u.on)) ++ row).drop 1) := by
  have g := U.good h
  obtain ⟨j, rfl⟩ : ∃ j, k = j + 1 := ⟨k - 1, by omega⟩
  rw [List.replicate_succ, List.cons_append, List.drop_succ_cons, List.drop_zero, run_hist, ← run_feas g _ _ _ (by omega)]
  unfold U.feas
  rw [h]
  have e : u.init = u.satS (decide (0 < u.on)) (1 + (j : Int)) := by
    obtain ⟨⟩ := g
    unfold U.init U.satS
    by_cases hp : 0 < u.on
    · rw [if_pos hp] at hk
      rw [decide_eq_true hp]
      simp only [if_true]
      omega
    · rw [if_neg hp] at hk
      rw [decide_eq_false hp]
      simp only [Bool.false_eq_true, if_false]
      omega
  rw [e]
  rfl

set_option maxRecDepth 100000 in
set_option maxHeartbeats 8000000 in
theorem runs_any (u : U) (A : Option Addr) (n c : Nat) (R : Option Addr) (m d : Nat) (row : List Bool) (w : World) (hs : StepsAt w A n u.steps) (hn : n ≤ maxLen) (hr : BoolsAt w R m row) (hm : m ≤ maxLen) :
    Calls Try.prog 4 #[u.val A n c, .slice R m d] w fun e w' => e = .returned (.bool true) ∧ Ext w w' := by
  go_enter Try.func4, Try.ntmps4
  go_wp2_with fail
  refine (long_any u A n c R m d _).mono ?_
  rintro e w01 ⟨rfl, hb1⟩
  have HE1 : Hid (Ext w w01) := Ext.new hb1
  have HU1 := Lib.hid ((ubox w u A n c).ext hb1)
  rcases hlong : longB n m with _ | _
  rotate_left
  · clear hlong hb1
    go_wp2_with fail
    refine (awake_any _).mono ?_
    rintro e w3 ⟨rfl, hb3⟩
    go_wp2_with fail
    go_ret
    exact ⟨rfl, Ext.trans HE1.out hb3⟩
  have hm1 : m ≤ 100 := by simp [longB] at hlong; omega
  clear hlong hb1
  obtain ⟨d0, d1, d2, d3, d4, d5, d6, d7, d8⟩ := HU1.out
  go_wp2_with fail
  refine (may_any u A n c _ (hs.below HE1.out) hn).mono ?_
  rintro e w2 ⟨rfl, hb2⟩
  have HE2 : Hid (Ext w w2) := Ext.trans HE1.out hb2
  have HU2 := Lib.hid (HU1.out.ext hb2)
  clear d0 d1 d2 d3 d4 d5 d6 d7 d8 hb2
  rcases hok : u.ok with _ | _
  · clear hok
    go_wp2_with fail
    refine (awake_any _).mono ?_
    rintro e w3 ⟨rfl, hb3⟩
    go_wp2_with fail
    go_ret
    exact ⟨rfl, Ext.trans HE2.out hb3⟩
  have HOK := Lib.hid hok
  clear hok
  go_wp2_with fail
  refine (awake_any _).mono ?_
  rintro e w3 ⟨rfl, hb3⟩
  have HE3 : Hid (Ext w w3) := Ext.trans HE2.out hb3
  have HU3 := Lib.hid (HU2.out.ext hb3)
  have G := U.good HOK.out
  clear hb3 HU1 HU2 HE1 HE2
  have g5 := G.on0
  have g6 := G.onl
  have g7 := G.onh
  have gu1 := G.up1
  have gu6 := G.up6
  have gd1 := G.dn1
  have gd6 := G.dn6
  obtain ⟨h, hh⟩ : ∃ h : Nat, (h : Int) = if 0 < u.on then u.on else -u.on := ⟨(if 0 < u.on then u.on else -u.on).toNat, by split <;> omega⟩
  have hh1 : 1 ≤ h := by split at hh <;> omega
  have hh6 : h ≤ 6 := by split at hh <;> omega
  have HFR := Lib.hid (feas_runs HOK.out h hh1 hh row)
  have HH := Lib.hid hh
  by_cases hsg : 0 < u.on
  · have HFS : Hid (u.feas row = u.runFeas true 1 ((List.replicate h true ++ row).drop 1)) := by
      have := HFR.out
      rw [decide_eq_true hsg] at this
      exact this
    have hhi : (h : Int) ≤ u.on ∧ u.on ≤ (h : Int) := by have := HH.out; split at this <;> omega
    obtain ⟨hhi1, hhi2⟩ := hhi
    have hsgB : decide (0 < u.on) = true := decide_eq_true hsg
    clear hh
    go_wp2_with fail
    go_loopw [5, 6] (fun v i wr => ∃ k : Nat, k ≤ h ∧ i = .int .i64 k ∧ Hid (wr.ownsRow w3.heap.size 4 1 v k ((List.replicate k true).map Value.bool)) ∧ Ext w3 wr) (fun _ i _ => h - (intOf i).toNat)
    case atStart => exact ⟨0, by omega, rfl, ⟨by simp, .inl ⟨rfl, rfl⟩⟩, Ext.rfl'⟩
    case round =>
      obtain ⟨k, hk, rfl, HV, hbw⟩ := hrel
      have d8 : wr.cell? ⟨w.heap.size, 8, none⟩ = some (.int .i64 u.on) := (HU3.out.ext hbw).2.2.2.2.2.2.2.2
      by_cases hlt2 : k < h
      · have hcmp : (k : Int) < u.on := by omega
        have HVA := Lib.hid (own_keep (w' := wr.alloc (.cells #[.bool true] 4)) HV.out fun g hg => Below.heap_alloc wr _ g (own_lt HV.out hg).1)
        have HLit := Lib.hid (lit_bools wr [true])
        go_wp2_with (at_builtin
                     refine wpList_append_src _ rfl (.tmp 33) (.tmp 37) rfl w3.heap.size _ k _ rfl HVA.out (some ⟨wr.heap.size, 0, none⟩) 1 1 [true] rfl HLit.out (.inr (by omega)) (by omega) (by have := hbw.size; simp; omega) ?_
                     intro g1 cap1 w4 hown1 hgrow1 hat1
                     have HX1 : Hid (w4.ownsRow w3.heap.size 4 1 (.slice (some ⟨g1, 0, none⟩) (k + 1) cap1) (k + 1) ((List.replicate (k + 1) true).map Value.bool)) := by
                       rw [List.replicate_succ', List.map_append]
                       exact hown1
                     have HG1 : Hid (Ext w3 w4) := ext_grown (Ext.trans hbw (Ext.new1 wr (.cells #[.bool true] 4))) hgrow1 (by intro k2 hk2; exact (own_lt HV.out hk2).2)
                     clear hown1 hgrow1 hat1)
        go_roundw
        case rel => exact ⟨k + 1, by omega, by go_num, HX1, HG1.out⟩
        case measure => simp [intOf]; omega
      · have hcmp : ¬ (k : Int) < u.on := by omega
        obtain rfl : k = h := by omega
        have hform := HV.out
        rcases hform.2 with ⟨_, h0⟩ | ⟨g1, cap1, _, rfl, _⟩
        · exact absurd h0 (by omega)
        clear hform
        go_wp2_with (at_builtin
                     refine wpList_append_src _ rfl (.tmp 39) (.tmp 40) rfl w3.heap.size (.slice (some ⟨g1, 0, none⟩) k cap1) k ((List.replicate k true).map Value.bool) rfl HV.out R m d row rfl (hr.below (Ext.trans HE3.out hbw)) (.inl (by simp)) (by omega) hbw.size ?_
                     intro g2 cap2 w5 hown2 hgrow2 hat2
                     rw [← List.map_append] at hown2
                     have HRC : Hid (BoolsAt w5 (some ⟨g2, 0, none⟩) (k + m) (List.replicate k true ++ row)) := own_bools hown2
                     have HG2 : Hid (Ext w3 w5) := ext_grown hbw hgrow2 (by intro k2 hk2; exact (own_lt HV.out hk2).2)
                     clear hown2 hgrow2 hat2)
        have HE5 : Hid (Ext w w5) := Ext.trans HE3.out HG2.out
        have HU5 := Lib.hid (HU3.out.ext HG2.out)
        have hall0 : (List.replicate k true ++ row).getD 0 false = true := by
          obtain ⟨j, rfl⟩ : ∃ j, k = j + 1 := ⟨k - 1, by omega⟩
          simp [List.replicate_succ]
        generalize List.replicate k true ++ row = all at *
        have HAL := Lib.hid HRC.out.1
        have HAC := Lib.hid (HRC.out.2 (by omega))
        have HA0 := Lib.hid hall0
        clear hall0 HRC HG2 HV HU3 d8 hcmp hlt2 hk
        obtain ⟨N, hN⟩ : ∃ N, k + m = N := ⟨_, rfl⟩
        rw [hN] at HAL HAC
        have hN1 : 1 ≤ N := by omega
        have hN2 : N ≤ 106 := by omega
        simp only [hN]
        clear hN
        go_loopw [7, 8, 9] (fun gd fr i wx => ∃ (i1 f : Nat) (b : Bool), 1 ≤ i1 ∧ i1 ≤ N ∧ f < i1 ∧ i = .int .i64 i1 ∧ fr = .int .i64 f ∧ gd = .bool b ∧ Hid (all.getD (i1 - 1) false = all.getD f false) ∧ Hid (u.feas row = (b && u.runFeas (all.getD f false) ((i1 : Int) - f) (all.drop i1))) ∧ Ext w5 wx) (fun _ _ i _ => N - (intOf i).toNat)
        case atStart => exact ⟨1, 0, true, by omega, hN1, by omega, rfl, rfl, rfl, rfl, by unfold Hid; rw [HA0.out, HFS.out]; rfl, Ext.rfl'⟩
        case round =>
          obtain ⟨i1, f, b, hi1, hiN, hfi, rfl, rfl, rfl, HEQ, HFI, hbx⟩ := hrel
          obtain ⟨bb, off, hgb, hbl, hcell⟩ := HAC.out
          injection hgb with hgb
          injection hgb with hg1 hg2
          subst hg1
          subst hg2
          simp only [Nat.zero_add] at hcell
          obtain ⟨d0, d1, d2, d3, d4, d5, d6, d7, d8⟩ := HU5.out.ext hbx
          by_cases hi2 : i1 < N
          · have c1 := Ext.cellOf hbx (hcell i1 hi2)
            have c2 := Ext.cellOf hbx (hcell (i1 - 1) (by omega))
            have c3 := Ext.cellOf hbx (hcell f (by omega))
            rw [HEQ.out] at c2
            have HRN := Lib.hid (run_at u (on := all.getD f false) (len := (i1 : Int) - f) (xs := all) (k := i1) (by rw [HAL.out]; exact hi2))
            clear hcell
            have hbv : decide ((i1 : Int) < (N : Int)) = true := by simp; omega
            have h01 : (0 : Int) ≤ (i1 : Int) := by omega
            have h02 : (i1 : Int) < (N : Int) := by omega
            have h03 : (1 : Int) ≤ (i1 : Int) := by omega
            have h04 : (i1 : Int) - 1 < (N : Int) := by omega
            have h05 : (0 : Int) ≤ (f : Int) := by omega
            have h06 : (f : Int) < (N : Int) := by omega
            have q1 : ((i1 : Int) - 1).toNat = i1 - 1 := by omega
            have q2 : IntKind.i64.wrap ((i1 : Int) - 1) = (i1 : Int) - 1 := IntWalk.i64_in _ (by omega)
            have q3 : (0 : Int) ≤ (i1 : Int) - 1 := by omega
            have q4 : True := trivial
            obtain ⟨x, hxe⟩ : ∃ x, all.getD i1 false = x := ⟨_, rfl⟩
            obtain ⟨y, hye⟩ : ∃ y, all.getD f false = y := ⟨_, rfl⟩
            rw [hxe] at c1
            rw [hye] at c2 c3
            have HS1 := Lib.hid hxe
            have HS3 := Lib.hid hye
            rw [hye] at HRN
            clear hxe hye
            cases x
            · cases y
              · go_wp2_with fail
                go_quiet (fail)
                clear q1 q2 q3 q4
                go_wp2_with fail
                go_roundw
                case rel =>
                  refine ⟨i1 + 1, f, b, by omega, by omega, by omega, by go_num, rfl, rfl, ?_, ?_, below_drewN hbx _⟩
                  · exact HS1.out.trans HS3.out.symm
                  · unfold Hid
                    rw [HFI.out, HS3.out, HRN.out, HS1.out, if_pos rfl]
                    congr 2
                    omega
                case measure => simp [intOf]; omega
              · by_cases hup : (i1 : Int) - f < u.up
                · have HOKR : Hid (u.okRun true ((i1 : Int) - f) = false) := by unfold Hid U.okRun; simp; omega
                  go_wp2_with fail
                  go_quiet (fail)
                  clear q1 q2 q3 q4
                  go_wp2_with fail
                  go_roundw
                  case rel =>
                    refine ⟨i1 + 1, i1, false, by omega, by omega, by omega, by go_num, rfl, rfl, ?_, ?_, below_drewN hbx _⟩
                    · rfl
                    · unfold Hid
                      rw [HFI.out, HS3.out, HRN.out, HS1.out, if_neg (by simp), HOKR.out]
                      simp
                  case measure => simp [intOf]; omega
                · have HOKR : Hid (u.okRun true ((i1 : Int) - f) = true) := by unfold Hid U.okRun; simp; omega
                  go_wp2_with fail
                  go_quiet (fail)
                  clear q1 q2 q3 q4
                  go_wp2_with fail
                  go_roundw
                  case rel =>
                    refine ⟨i1 + 1, i1, b, by omega, by omega, by omega, by go_num, rfl, rfl, ?_, ?_, below_drewN hbx _⟩
                    · rfl
                    · unfold Hid
                      rw [HFI.out, HS3.out, HRN.out, HS1.out, if_neg (by simp), HOKR.out, Bool.true_and]
                      congr 2
                      omega
                  case measure => simp [intOf]; omega
            · cases y
              · by_cases hup : (i1 : Int) - f < u.down
                · have HOKR : Hid (u.okRun false ((i1 : Int) - f) = false) := by unfold Hid U.okRun; simp; omega
                  go_wp2_with fail
                  go_quiet (fail)
                  clear q1 q2 q3 q4
                  go_wp2_with fail
                  go_roundw
                  case rel =>
                    refine ⟨i1 + 1, i1, false, by omega, by omega, by omega, by go_num, rfl, rfl, ?_, ?_, below_drewN hbx _⟩
                    · rfl
                    · unfold Hid
                      rw [HFI.out, HS3.out, HRN.out, HS1.out, if_neg (by simp), HOKR.out]
                      simp
                  case measure => simp [intOf]; omega
                · have HOKR : Hid (u.okRun false ((i1 : Int) - f) = true) := by unfold Hid U.okRun; simp; omega
                  go_wp2_with fail
                  go_quiet (fail)
                  clear q1 q2 q3 q4
                  go_wp2_with fail
                  go_roundw
                  case rel =>
                    refine ⟨i1 + 1, i1, b, by omega, by omega, by omega, by go_num, rfl, rfl, ?_, ?_, below_drewN hbx _⟩
                    · rfl
                    · unfold Hid
                      rw [HFI.out, HS3.out, HRN.out, HS1.out, if_neg (by simp), HOKR.out, Bool.true_and]
                      congr 2
                      omega
                  case measure => simp [intOf]; omega
              · go_wp2_with fail
                go_quiet (fail)
                clear q1 q2 q3 q4
                go_wp2_with fail
                go_roundw
                case rel =>
                  refine ⟨i1 + 1, f, b, by omega, by omega, by omega, by go_num, rfl, rfl, ?_, ?_, below_drewN hbx _⟩
                  · exact HS1.out.trans HS3.out.symm
                  · unfold Hid
                    rw [HFI.out, HS3.out, HRN.out, HS1.out, if_pos rfl]
                    congr 2
                    omega
                case measure => simp [intOf]; omega
          · have hbv : decide ((i1 : Int) < (N : Int)) = false := by simp; omega
            have HFB : Hid (u.feas row = b) := by
              unfold Hid
              rw [HFI.out, List.drop_eq_nil_of_le (by rw [HAL.out]; omega), U.runFeas, Bool.and_true]
            clear hcell
            go_wp2_with fail
            ((with_reducible refine (feasible_any u A n c R m d row _ (hs.below (Ext.trans HE5.out hbx)) hn (hr.below (Ext.trans HE5.out hbx)) hm).mono ?_))
            rintro e w9 ⟨rfl, hb9⟩
            rw [HFB.out]
            go_wp2_with fail
            go_ret
            exact ⟨by simp, Ext.trans (Ext.trans HE5.out hbx) hb9⟩
  · have HFS : Hid (u.feas row = u.runFeas false 1 ((List.replicate h false ++ row).drop 1)) := by
      have := HFR.out
      rw [decide_eq_false hsg] at this
      exact this
    have hhi : (h : Int) ≤ (-u.on) ∧ (-u.on) ≤ (h : Int) := by have := HH.out; split at this <;> omega
    obtain ⟨hhi1, hhi2⟩ := hhi
    have hsgB : decide (0 < u.on) = false := decide_eq_false hsg
    clear hh
    go_wp2_with fail
    go_loopw [5, 6] (fun v i wr => ∃ k : Nat, k ≤ h ∧ i = .int .i64 k ∧ Hid (wr.ownsRow w3.heap.size 4 1 v k ((List.replicate k false).map Value.bool)) ∧ Ext w3 wr) (fun _ i _ => h - (intOf i).toNat)
    case atStart => exact ⟨0, by omega, rfl, ⟨by simp, .inl ⟨rfl, rfl⟩⟩, Ext.rfl'⟩
    case round =>
      obtain ⟨k, hk, rfl, HV, hbw⟩ := hrel
      have d8 : wr.cell? ⟨w.heap.size, 8, none⟩ = some (.int .i64 u.on) := (HU3.out.ext hbw).2.2.2.2.2.2.2.2
      by_cases hlt2 : k < h
      · have hcmp : (k : Int) < (-u.on) := by omega
        have HVA := Lib.hid (own_keep (w' := wr.alloc (.cells #[.bool false] 4)) HV.out fun g hg => Below.heap_alloc wr _ g (own_lt HV.out hg).1)
        have HLit := Lib.hid (lit_bools wr [false])
        go_wp2_with (at_builtin
                     refine wpList_append_src _ rfl (.tmp 33) (.tmp 37) rfl w3.heap.size _ k _ rfl HVA.out (some ⟨wr.heap.size, 0, none⟩) 1 1 [false] rfl HLit.out (.inr (by omega)) (by omega) (by have := hbw.size; simp; omega) ?_
                     intro g1 cap1 w4 hown1 hgrow1 hat1
                     have HX1 : Hid (w4.ownsRow w3.heap.size 4 1 (.slice (some ⟨g1, 0, none⟩) (k + 1) cap1) (k + 1) ((List.replicate (k + 1) false).map Value.bool)) := by
                       rw [List.replicate_succ', List.map_append]
                       exact hown1
                     have HG1 : Hid (Ext w3 w4) := ext_grown (Ext.trans hbw (Ext.new1 wr (.cells #[.bool false] 4))) hgrow1 (by intro k2 hk2; exact (own_lt HV.out hk2).2)
                     clear hown1 hgrow1 hat1)
        go_roundw
        case rel => exact ⟨k + 1, by omega, by go_num, HX1, HG1.out⟩
        case measure => simp [intOf]; omega
      · have hcmp : ¬ (k : Int) < (-u.on) := by omega
        obtain rfl : k = h := by omega
        have hform := HV.out
        rcases hform.2 with ⟨_, h0⟩ | ⟨g1, cap1, _, rfl, _⟩
        · exact absurd h0 (by omega)
        clear hform
        go_wp2_with (at_builtin
                     refine wpList_append_src _ rfl (.tmp 39) (.tmp 40) rfl w3.heap.size (.slice (some ⟨g1, 0, none⟩) k cap1) k ((List.replicate k false).map Value.bool) rfl HV.out R m d row rfl (hr.below (Ext.trans HE3.out hbw)) (.inl (by simp)) (by omega) hbw.size ?_
                     intro g2 cap2 w5 hown2 hgrow2 hat2
                     rw [← List.map_append] at hown2
                     have HRC : Hid (BoolsAt w5 (some ⟨g2, 0, none⟩) (k + m) (List.replicate k false ++ row)) := own_bools hown2
                     have HG2 : Hid (Ext w3 w5) := ext_grown hbw hgrow2 (by intro k2 hk2; exact (own_lt HV.out hk2).2)
                     clear hown2 hgrow2 hat2)
        have HE5 : Hid (Ext w w5) := Ext.trans HE3.out HG2.out
        have HU5 := Lib.hid (HU3.out.ext HG2.out)
        have hall0 : (List.replicate k false ++ row).getD 0 false = false := by
          obtain ⟨j, rfl⟩ : ∃ j, k = j + 1 := ⟨k - 1, by omega⟩
          simp [List.replicate_succ]
        generalize List.replicate k false ++ row = all at *
        have HAL := Lib.hid HRC.out.1
        have HAC := Lib.hid (HRC.out.2 (by omega))
        have HA0 := Lib.hid hall0
        clear hall0 HRC HG2 HV HU3 d8 hcmp hlt2 hk
        obtain ⟨N, hN⟩ : ∃ N, k + m = N := ⟨_, rfl⟩
        rw [hN] at HAL HAC
        have hN1 : 1 ≤ N := by omega
        have hN2 : N ≤ 106 := by omega
        simp only [hN]
        clear hN
        go_loopw [7, 8, 9] (fun gd fr i wx => ∃ (i1 f : Nat) (b : Bool), 1 ≤ i1 ∧ i1 ≤ N ∧ f < i1 ∧ i = .int .i64 i1 ∧ fr = .int .i64 f ∧ gd = .bool b ∧ Hid (all.getD (i1 - 1) false = all.getD f false) ∧ Hid (u.feas row = (b && u.runFeas (all.getD f false) ((i1 : Int) - f) (all.drop i1))) ∧ Ext w5 wx) (fun _ _ i _ => N - (intOf i).toNat)
        case atStart => exact ⟨1, 0, true, by omega, hN1, by omega, rfl, rfl, rfl, rfl, by unfold Hid; rw [HA0.out, HFS.out]; rfl, Ext.rfl'⟩
        case round =>
          obtain ⟨i1, f, b, hi1, hiN, hfi, rfl, rfl, rfl, HEQ, HFI, hbx⟩ := hrel
          obtain ⟨bb, off, hgb, hbl, hcell⟩ := HAC.out
          injection hgb with hgb
          injection hgb with hg1 hg2
          subst hg1
          subst hg2
          simp only [Nat.zero_add] at hcell
          obtain ⟨d0, d1, d2, d3, d4, d5, d6, d7, d8⟩ := HU5.out.ext hbx
          by_cases hi2 : i1 < N
          · have c1 := Ext.cellOf hbx (hcell i1 hi2)
            have c2 := Ext.cellOf hbx (hcell (i1 - 1) (by omega))
            have c3 := Ext.cellOf hbx (hcell f (by omega))
            rw [HEQ.out] at c2
            have HRN := Lib.hid (run_at u (on := all.getD f false) (len := (i1 : Int) - f) (xs := all) (k := i1) (by rw [HAL.out]; exact hi2))
            clear hcell
            have hbv : decide ((i1 : Int) < (N : Int)) = true := by simp; omega
            have h01 : (0 : Int) ≤ (i1 : Int) := by omega
            have h02 : (i1 : Int) < (N : Int) := by omega
            have h03 : (1 : Int) ≤ (i1 : Int) := by omega
            have h04 : (i1 : Int) - 1 < (N : Int) := by omega
            have h05 : (0 : Int) ≤ (f : Int) := by omega
            have h06 : (f : Int) < (N : Int) := by omega
            have q1 : ((i1 : Int) - 1).toNat = i1 - 1 := by omega
            have q2 : IntKind.i64.wrap ((i1 : Int) - 1) = (i1 : Int) - 1 := IntWalk.i64_in _ (by omega)
            have q3 : (0 : Int) ≤ (i1 : Int) - 1 := by omega
            have q4 : True := trivial
            obtain ⟨x, hxe⟩ : ∃ x, all.getD i1 false = x := ⟨_, rfl⟩
            obtain ⟨y, hye⟩ : ∃ y, all.getD f false = y := ⟨_, rfl⟩
            rw [hxe] at c1
            rw [hye] at c2 c3
            have HS1 := Lib.hid hxe
            have HS3 := Lib.hid hye
            rw [hye] at HRN
            clear hxe hye
            cases x
            · cases y
              · go_wp2_with fail
                go_quiet (fail)
                clear q1 q2 q3 q4
                go_wp2_with fail
                go_roundw
                case rel =>
                  refine ⟨i1 + 1, f, b, by omega, by omega, by omega, by go_num, rfl, rfl, ?_, ?_, below_drewN hbx _⟩
                  · exact HS1.out.trans HS3.out.symm
                  · unfold Hid
                    rw [HFI.out, HS3.out, HRN.out, HS1.out, if_pos rfl]
                    congr 2
                    omega
                case measure => simp [intOf]; omega
              · by_cases hup : (i1 : Int) - f < u.up
                · have HOKR : Hid (u.okRun true ((i1 : Int) - f) = false) := by unfold Hid U.okRun; simp; omega
                  go_wp2_with fail
                  go_quiet (fail)
                  clear q1 q2 q3 q4
                  go_wp2_with fail
                  go_roundw
                  case rel =>
                    refine ⟨i1 + 1, i1, false, by omega, by omega, by omega, by go_num, rfl, rfl, ?_, ?_, below_drewN hbx _⟩
                    · rfl
                    · unfold Hid
                      rw [HFI.out, HS3.out, HRN.out, HS1.out, if_neg (by simp), HOKR.out]
                      simp
                  case measure => simp [intOf]; omega
                · have HOKR : Hid (u.okRun true ((i1 : Int) - f) = true) := by unfold Hid U.okRun; simp; omega
                  go_wp2_with fail
                  go_quiet (fail)
                  clear q1 q2 q3 q4
                  go_wp2_with fail
                  go_roundw
                  case rel =>
                    refine ⟨i1 + 1, i1, b, by omega, by omega, by omega, by go_num, rfl, rfl, ?_, ?_, below_drewN hbx _⟩
                    · rfl
                    · unfold Hid
                      rw [HFI.out, HS3.out, HRN.out, HS1.out, if_neg (by simp), HOKR.out, Bool.true_and]
                      congr 2
                      omega
                  case measure => simp [intOf]; omega
            · cases y
              · by_cases hup : (i1 : Int) - f < u.down
                · have HOKR : Hid (u.okRun false ((i1 : Int) - f) = false) := by unfold Hid U.okRun; simp; omega
                  go_wp2_with fail
                  go_quiet (fail)
                  clear q1 q2 q3 q4
                  go_wp2_with fail
                  go_roundw
                  case rel =>
                    refine ⟨i1 + 1, i1, false, by omega, by omega, by omega, by go_num, rfl, rfl, ?_, ?_, below_drewN hbx _⟩
                    · rfl
                    · unfold Hid
                      rw [HFI.out, HS3.out, HRN.out, HS1.out, if_neg (by simp), HOKR.out]
                      simp
                  case measure => simp [intOf]; omega
                · have HOKR : Hid (u.okRun false ((i1 : Int) - f) = true) := by unfold Hid U.okRun; simp; omega
                  go_wp2_with fail
                  go_quiet (fail)
                  clear q1 q2 q3 q4
                  go_wp2_with fail
                  go_roundw
                  case rel =>
                    refine ⟨i1 + 1, i1, b, by omega, by omega, by omega, by go_num, rfl, rfl, ?_, ?_, below_drewN hbx _⟩
                    · rfl
                    · unfold Hid
                      rw [HFI.out, HS3.out, HRN.out, HS1.out, if_neg (by simp), HOKR.out, Bool.true_and]
                      congr 2
                      omega
                  case measure => simp [intOf]; omega
              · go_wp2_with fail
                go_quiet (fail)
                clear q1 q2 q3 q4
                go_wp2_with fail
                go_roundw
                case rel =>
                  refine ⟨i1 + 1, f, b, by omega, by omega, by omega, by go_num, rfl, rfl, ?_, ?_, below_drewN hbx _⟩
                  · exact HS1.out.trans HS3.out.symm
                  · unfold Hid
                    rw [HFI.out, HS3.out, HRN.out, HS1.out, if_pos rfl]
                    congr 2
                    omega
                case measure => simp [intOf]; omega
          · have hbv : decide ((i1 : Int) < (N : Int)) = false := by simp; omega
            have HFB : Hid (u.feas row = b) := by
              unfold Hid
              rw [HFI.out, List.drop_eq_nil_of_le (by rw [HAL.out]; omega), U.runFeas, Bool.and_true]
            clear hcell
            go_wp2_with fail
            ((with_reducible refine (feasible_any u A n c R m d row _ (hs.below (Ext.trans HE5.out hbx)) hn (hr.below (Ext.trans HE5.out hbx)) hm).mono ?_))
            rintro e w9 ⟨rfl, hb9⟩
            rw [HFB.out]
            go_wp2_with fail
            go_ret
            exact ⟨by simp, Ext.trans (Ext.trans HE5.out hbx) hb9⟩
end Go.Proofs.Ytkkobdfhnkdfgaa
