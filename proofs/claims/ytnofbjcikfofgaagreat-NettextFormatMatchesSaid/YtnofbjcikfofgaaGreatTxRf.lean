/- The contracts of pylonref14.Check and of pylonref22's range3, FormatNet and FormatOutage. Printed by gen_txinv.py. -/
import Derived.Test.YtnofbjcikfofgaaGreatTxWr
import Derived.Test.YtnofbjcikfofgaaGreatTxU
namespace Go.Proofs.YtnofbjcikfofgaaGreat
open Go.RowKit
theorem all_take {b : Int} {ls : List (List Int)} {k : Nat} (h : k < ls.length) (h1 : (ls.take k).all (lnOk b) = true) (h2 : lnOk b (ls.getD k []) = true) : (ls.take (k + 1)).all (lnOk b) = true := by
  rw [List.take_succ_eq_append_getElem h, List.all_append, h1]
  simpa [List.getD, List.getElem?_eq_getElem h] using h2
theorem all_not {b : Int} {ls : List (List Int)} {k : Nat} (h : k < ls.length) (h2 : lnOk b (ls.getD k []) = false) : ¬ ls.all (lnOk b) = true := by
  intro h3
  have := List.all_eq_true.1 h3 ls[k] (List.getElem_mem h)
  have e : ls.getD k [] = ls[k] := by simp [List.getD, List.getElem?_eq_getElem h]
  rw [e, this] at h2
  cases h2
set_option maxRecDepth 100000 in
set_option maxHeartbeats 32000000 in
theorem rcheck14_any (b : Int) (P : Option Addr) (n c : Nat) (ls : List (List Int)) (w : World) (h : LinesAt w P n ls) (hn : n ≤ 1000000) :
    Calls Tryz.prog 21 #[.agg #[.int .i64 b, .slice P n c]] w fun e w' => e = .returned (.int .i64 (netC b ls)) ∧ Ext w w' := by
  have H := Lib.hid h
  have HLN := Lib.hid h.1
  obtain ⟨X, hX⟩ : ∃ X, netC b ls = X := ⟨_, rfl⟩
  rw [hX]
  have HX : Hid (X = if b < 1 ∨ 6 < b then 1 else if 10 < n then 5 else if ls.all (lnOk b) then 0 else 1) := by unfold Hid; rw [← hX, ← h.1]; rfl
  clear h hX
  have HE := Lib.hid (show Ext w (w.alloc (.cells #[.int .i64 b, .slice P n c] 24)) from Ext.al Ext.rfl' _)
  have HC := Lib.hid (Cell2.new w _ rfl (.int .i64 b) (.slice P n c) 24)
  by_cases q1 : b < 1
  · have r1 : decide (b < 1) = true := decide_eq_true q1
    obtain rfl : X = 1 := by rw [HX.out, if_pos (.inl q1)]
    clear q1
    go_enter Tryz.func21, Tryz.ntmps21
    obtain ⟨c0, c1, -, -, -⟩ := HC.out
    go_wp2_with fail
    go_ret
    exact ⟨rfl, HE.out⟩
  · have r1 : decide (b < 1) = false := decide_eq_false q1
    by_cases q2 : 6 < b
    · have r2 : decide (6 < b) = true := decide_eq_true q2
      obtain rfl : X = 1 := by rw [HX.out, if_pos (.inr q2)]
      clear q1 q2
      go_enter Tryz.func21, Tryz.ntmps21
      obtain ⟨c0, c1, -, -, -⟩ := HC.out
      go_wp2_with fail
      go_ret
      exact ⟨rfl, HE.out⟩
    · have r2 : decide (6 < b) = false := decide_eq_false q2
      by_cases q3 : 10 < n
      · have r3 : decide ((10 : Int) < (n : Int)) = true := decide_eq_true (by omega)
        obtain rfl : X = 5 := by rw [HX.out, if_neg (by omega), if_pos q3]
        clear q1 q2 q3
        go_enter Tryz.func21, Tryz.ntmps21
        obtain ⟨c0, c1, -, -, -⟩ := HC.out
        go_wp2_with fail
        go_ret
        exact ⟨rfl, HE.out⟩
      · have r3 : decide ((10 : Int) < (n : Int)) = false := decide_eq_false (by omega)
        have HX2 : Hid (X = if ls.all (lnOk b) then 0 else 1) := by unfold Hid; rw [HX.out, if_neg (by omega), if_neg q3]
        clear q1 q2 q3 HX
        go_enter Tryz.func21, Tryz.ntmps21
        obtain ⟨c0, c1, -, -, -⟩ := HC.out
        go_wp2_with fail
        clear c0 c1 r1 r2 r3
        have hC := HC.out
        have hE := HE.out
        clear HC HE
        generalize (w.alloc (.cells #[.int .i64 b, .slice P n c] 24)) = w0 at *
        obtain ⟨g, hg⟩ : ∃ g, w.heap.size = g := ⟨_, rfl⟩
        rw [hg] at hC ⊢
        clear hg
        have HC := Lib.hid hC
        have HE := Lib.hid hE
        clear hC hE
        go_loopw [3] (fun i wr => ∃ k : Nat, k ≤ n ∧ i = .int .i64 (k : Int) ∧ Hid ((ls.take k).all (lnOk b) = true) ∧ Hid (Cell2 wr g (.int .i64 b) (.slice P n c)) ∧ Hid (Ext w wr)) (fun i _ => n - (intOf i).toNat)
        case atStart => exact ⟨0, by omega, rfl, by unfold Hid; rfl, HC, HE⟩
        case round =>
          obtain ⟨k, hk, rfl, HALL, HCR, HER⟩ := hrel
          obtain ⟨c0, c1, -, -, -⟩ := HCR.out
          by_cases hlt : k < n
          · have hbv : decide ((k : Int) < (n : Int)) = true := by simp; omega
            have hbv2 : decide (k < n) = true := by simp; omega
            have hz0 : (0 : Int) ≤ (k : Int) := by omega
            have hzn : (k : Int) < (n : Int) := by omega
            have HKL : Hid (k < ls.length) := by unfold Hid; rw [HLN.out]; exact hlt
            obtain ⟨lb, lo, rfl, hlb, hlc⟩ := (H.out.ext HER.out).2 (by omega)
            obtain ⟨y0, y1, y2, y3⟩ := hlc k hlt
            obtain ⟨z, hz⟩ : ∃ z, ls.getD k [] = z := ⟨_, rfl⟩
            have HZ := Lib.hid hz
            rw [hz] at y0 y1 y2 y3
            clear hz hlc
            have HOK : Hid (lnOk b z = (inB b (z.getD 0 0) && (inB b (z.getD 1 0) && (!decide (z.getD 0 0 = z.getD 1 0) && ((decide (1 ≤ z.getD 2 0) && decide (z.getD 2 0 ≤ 1000)) && (decide (0 ≤ z.getD 3 0) && decide (z.getD 3 0 ≤ 1000000))))))) := rfl
            generalize z.getD 0 0 = z0 at *
            generalize z.getD 1 0 = z1 at *
            generalize z.getD 2 0 = z2 at *
            generalize z.getD 3 0 = z3 at *
            have HW4 := Lib.hid (Cell4.new wr _ rfl (.int .i64 z0) (.int .i64 z1) (.int .i64 z2) (.int .i64 z3) 46)
            have HEW := Lib.hid (show Ext wr (wr.alloc (.cells #[.int .i64 z0, .int .i64 z1, .int .i64 z2, .int .i64 z3] 46)) from Ext.al Ext.rfl' _)
            have HCW := Lib.hid (HCR.out.ext HEW.out)
            have HBAD : Hid (lnOk b z = false → X = 1) := fun h => by rw [HX2.out, if_neg (all_not HKL.out (by rw [HZ.out]; exact h))]
            obtain ⟨⟨d0, d1, d2, d3⟩, -, -⟩ := HW4.out
            obtain ⟨e0, e1, -, -, -⟩ := HCW.out
            by_cases c0q : z0 < 0
            · have t0 : decide (z0 < 0) = true := decide_eq_true c0q
              obtain rfl : X = 1 := HBAD.out (by rw [HOK.out]; unfold inB; simp; omega)
              clear c0q
              go_wp2_with fail
              go_ret
              exact ⟨rfl, Ext.trans HER.out HEW.out⟩
            · have t0 : decide (z0 < 0) = false := decide_eq_false c0q
              by_cases c1q : b ≤ z0
              · have t1 : decide (b ≤ z0) = true := decide_eq_true c1q
                obtain rfl : X = 1 := HBAD.out (by rw [HOK.out]; unfold inB; simp; omega)
                clear c0q c1q
                go_wp2_with fail
                go_ret
                exact ⟨rfl, Ext.trans HER.out HEW.out⟩
              · have t1 : decide (b ≤ z0) = false := decide_eq_false c1q
                by_cases c2q : z1 < 0
                · have t2 : decide (z1 < 0) = true := decide_eq_true c2q
                  obtain rfl : X = 1 := HBAD.out (by rw [HOK.out]; unfold inB; simp; omega)
                  clear c0q c1q c2q
                  go_wp2_with fail
                  go_ret
                  exact ⟨rfl, Ext.trans HER.out HEW.out⟩
                · have t2 : decide (z1 < 0) = false := decide_eq_false c2q
                  by_cases c3q : b ≤ z1
                  · have t3 : decide (b ≤ z1) = true := decide_eq_true c3q
                    obtain rfl : X = 1 := HBAD.out (by rw [HOK.out]; unfold inB; simp; omega)
                    clear c0q c1q c2q c3q
                    go_wp2_with fail
                    go_ret
                    exact ⟨rfl, Ext.trans HER.out HEW.out⟩
                  · have t3 : decide (b ≤ z1) = false := decide_eq_false c3q
                    by_cases c4q : z0 = z1
                    · have t4 : (z0 == z1) = true := by simp [c4q]
                      obtain rfl : X = 1 := HBAD.out (by rw [HOK.out]; unfold inB; simp; omega)
                      clear c0q c1q c2q c3q c4q
                      go_wp2_with fail
                      go_ret
                      exact ⟨rfl, Ext.trans HER.out HEW.out⟩
                    · have t4 : (z0 == z1) = false := by simp [c4q]
                      by_cases c5q : z2 < 1
                      · have t5 : decide (z2 < 1) = true := decide_eq_true c5q
                        obtain rfl : X = 1 := HBAD.out (by rw [HOK.out]; unfold inB; simp; omega)
                        clear c0q c1q c2q c3q c4q c5q
                        go_wp2_with fail
                        go_ret
                        exact ⟨rfl, Ext.trans HER.out HEW.out⟩
                      · have t5 : decide (z2 < 1) = false := decide_eq_false c5q
                        by_cases c6q : 1000 < z2
                        · have t6 : decide (1000 < z2) = true := decide_eq_true c6q
                          obtain rfl : X = 1 := HBAD.out (by rw [HOK.out]; unfold inB; simp; omega)
                          clear c0q c1q c2q c3q c4q c5q c6q
                          go_wp2_with fail
                          go_ret
                          exact ⟨rfl, Ext.trans HER.out HEW.out⟩
                        · have t6 : decide (1000 < z2) = false := decide_eq_false c6q
                          by_cases c7q : z3 < 0
                          · have t7 : decide (z3 < 0) = true := decide_eq_true c7q
                            obtain rfl : X = 1 := HBAD.out (by rw [HOK.out]; unfold inB; simp; omega)
                            clear c0q c1q c2q c3q c4q c5q c6q c7q
                            go_wp2_with fail
                            go_ret
                            exact ⟨rfl, Ext.trans HER.out HEW.out⟩
                          · have t7 : decide (z3 < 0) = false := decide_eq_false c7q
                            by_cases c8q : 1000000 < z3
                            · have t8 : decide (1000000 < z3) = true := decide_eq_true c8q
                              obtain rfl : X = 1 := HBAD.out (by rw [HOK.out]; unfold inB; simp; omega)
                              clear c0q c1q c2q c3q c4q c5q c6q c7q c8q
                              go_wp2_with fail
                              go_ret
                              exact ⟨rfl, Ext.trans HER.out HEW.out⟩
                            · have t8 : decide (1000000 < z3) = false := decide_eq_false c8q
                              have HGOOD : Hid (lnOk b z = true) := by unfold Hid; rw [HOK.out]; unfold inB; simp; omega
                              clear c0q c1q c2q c3q c4q c5q c6q c7q c8q
                              go_wp2_with fail
                              go_roundw
                              case rel => exact ⟨k + 1, by omega, by go_num, all_take HKL.out HALL.out (by rw [HZ.out]; exact HGOOD.out), HCW.out, Ext.trans HER.out HEW.out⟩
                              case measure => simp [intOf]; omega
          · obtain rfl : k = n := by omega
            have hbv : decide ((k : Int) < (k : Int)) = false := by simp
            have hbv2 : decide (k < k) = false := by simp
            obtain rfl : X = 0 := by
              have h1 := HALL.out
              rw [List.take_of_length_le (by rw [HLN.out]; exact Nat.le_refl _)] at h1
              rw [HX2.out, if_pos h1]
            go_wp2_with fail
            go_ret
            exact ⟨rfl, HER.out⟩
set_option maxRecDepth 100000 in
set_option maxHeartbeats 16000000 in
theorem range3_any (kd wh fr to_ : Int) (w : World) :
    Calls Tryz.prog 23 #[.agg #[.int .u8 kd, .int .i64 wh, .int .i64 fr, .int .i64 to_]] w fun e w' => e = .returned (.bool (validO kd wh fr to_)) ∧ Ext w w' := by
  have HE := Lib.hid (show Ext w (w.alloc (.cells #[.int .u8 kd, .int .i64 wh, .int .i64 fr, .int .i64 to_] 26)) from Ext.al Ext.rfl' _)
  have HC := Lib.hid (Cell4.new w _ rfl (.int .u8 kd) (.int .i64 wh) (.int .i64 fr) (.int .i64 to_) 26)
  obtain ⟨X, hX⟩ : ∃ X, validO kd wh fr to_ = X := ⟨_, rfl⟩
  rw [hX]
  by_cases k3 : kd = 3
  · subst k3
    have HX : Hid (X = (decide (0 ≤ wh) && (decide (wh < 5) && (decide (0 ≤ fr) && (decide (fr ≤ to_) && decide (to_ < 8)))))) := by unfold Hid; rw [← hX]; unfold validO; rw [if_pos rfl]
    clear hX
    by_cases c0q : 0 ≤ wh
    rotate_left
    · have t0 : decide (0 ≤ wh) = false := decide_eq_false c0q
      obtain rfl : X = false := by rw [HX.out]; simp [c0q]
      clear c0q
      go_enter Tryz.func23, Tryz.ntmps23
      obtain ⟨⟨d0, d1, d2, d3⟩, -, -⟩ := HC.out
      go_wp2_with fail
      go_ret
      exact ⟨rfl, HE.out⟩
    have t0 : decide (0 ≤ wh) = true := decide_eq_true c0q
    by_cases c1q : wh < 5
    rotate_left
    · have t1 : decide (wh < 5) = false := decide_eq_false c1q
      obtain rfl : X = false := by rw [HX.out]; simp [c1q]
      clear c0q c1q
      go_enter Tryz.func23, Tryz.ntmps23
      obtain ⟨⟨d0, d1, d2, d3⟩, -, -⟩ := HC.out
      go_wp2_with fail
      go_ret
      exact ⟨rfl, HE.out⟩
    have t1 : decide (wh < 5) = true := decide_eq_true c1q
    by_cases c2q : 0 ≤ fr
    rotate_left
    · have t2 : decide (0 ≤ fr) = false := decide_eq_false c2q
      obtain rfl : X = false := by rw [HX.out]; simp [c2q]
      clear c0q c1q c2q
      go_enter Tryz.func23, Tryz.ntmps23
      obtain ⟨⟨d0, d1, d2, d3⟩, -, -⟩ := HC.out
      go_wp2_with fail
      go_ret
      exact ⟨rfl, HE.out⟩
    have t2 : decide (0 ≤ fr) = true := decide_eq_true c2q
    by_cases c3q : fr ≤ to_
    rotate_left
    · have t3 : decide (fr ≤ to_) = false := decide_eq_false c3q
      obtain rfl : X = false := by rw [HX.out]; simp [c3q]
      clear c0q c1q c2q c3q
      go_enter Tryz.func23, Tryz.ntmps23
      obtain ⟨⟨d0, d1, d2, d3⟩, -, -⟩ := HC.out
      go_wp2_with fail
      go_ret
      exact ⟨rfl, HE.out⟩
    have t3 : decide (fr ≤ to_) = true := decide_eq_true c3q
    by_cases c4q : to_ < 8
    rotate_left
    · have t4 : decide (to_ < 8) = false := decide_eq_false c4q
      obtain rfl : X = false := by rw [HX.out]; simp [c4q]
      clear c0q c1q c2q c3q c4q
      go_enter Tryz.func23, Tryz.ntmps23
      obtain ⟨⟨d0, d1, d2, d3⟩, -, -⟩ := HC.out
      go_wp2_with fail
      go_ret
      exact ⟨rfl, HE.out⟩
    have t4 : decide (to_ < 8) = true := decide_eq_true c4q
    obtain rfl : X = true := by rw [HX.out]; simp [c0q, c1q, c2q, c3q, c4q]
    clear c0q c1q c2q c3q c4q
    go_enter Tryz.func23, Tryz.ntmps23
    obtain ⟨⟨d0, d1, d2, d3⟩, -, -⟩ := HC.out
    go_wp2_with fail
    go_ret
    exact ⟨rfl, HE.out⟩
  · have kb : (kd == 3) = false := by simp [k3]
    have HX : Hid (X = (decide (0 ≤ wh) && (decide (wh < 10) && (decide (0 ≤ fr) && (decide (fr ≤ to_) && decide (to_ < 8)))))) := by unfold Hid; rw [← hX]; unfold validO; rw [if_neg k3]
    clear hX
    by_cases c0q : 0 ≤ wh
    rotate_left
    · have t0 : decide (0 ≤ wh) = false := decide_eq_false c0q
      obtain rfl : X = false := by rw [HX.out]; simp [c0q]
      clear c0q
      go_enter Tryz.func23, Tryz.ntmps23
      obtain ⟨⟨d0, d1, d2, d3⟩, -, -⟩ := HC.out
      go_wp2_with fail
      go_ret
      exact ⟨rfl, HE.out⟩
    have t0 : decide (0 ≤ wh) = true := decide_eq_true c0q
    by_cases c1q : wh < 10
    rotate_left
    · have t1 : decide (wh < 10) = false := decide_eq_false c1q
      obtain rfl : X = false := by rw [HX.out]; simp [c1q]
      clear c0q c1q
      go_enter Tryz.func23, Tryz.ntmps23
      obtain ⟨⟨d0, d1, d2, d3⟩, -, -⟩ := HC.out
      go_wp2_with fail
      go_ret
      exact ⟨rfl, HE.out⟩
    have t1 : decide (wh < 10) = true := decide_eq_true c1q
    by_cases c2q : 0 ≤ fr
    rotate_left
    · have t2 : decide (0 ≤ fr) = false := decide_eq_false c2q
      obtain rfl : X = false := by rw [HX.out]; simp [c2q]
      clear c0q c1q c2q
      go_enter Tryz.func23, Tryz.ntmps23
      obtain ⟨⟨d0, d1, d2, d3⟩, -, -⟩ := HC.out
      go_wp2_with fail
      go_ret
      exact ⟨rfl, HE.out⟩
    have t2 : decide (0 ≤ fr) = true := decide_eq_true c2q
    by_cases c3q : fr ≤ to_
    rotate_left
    · have t3 : decide (fr ≤ to_) = false := decide_eq_false c3q
      obtain rfl : X = false := by rw [HX.out]; simp [c3q]
      clear c0q c1q c2q c3q
      go_enter Tryz.func23, Tryz.ntmps23
      obtain ⟨⟨d0, d1, d2, d3⟩, -, -⟩ := HC.out
      go_wp2_with fail
      go_ret
      exact ⟨rfl, HE.out⟩
    have t3 : decide (fr ≤ to_) = true := decide_eq_true c3q
    by_cases c4q : to_ < 8
    rotate_left
    · have t4 : decide (to_ < 8) = false := decide_eq_false c4q
      obtain rfl : X = false := by rw [HX.out]; simp [c4q]
      clear c0q c1q c2q c3q c4q
      go_enter Tryz.func23, Tryz.ntmps23
      obtain ⟨⟨d0, d1, d2, d3⟩, -, -⟩ := HC.out
      go_wp2_with fail
      go_ret
      exact ⟨rfl, HE.out⟩
    have t4 : decide (to_ < 8) = true := decide_eq_true c4q
    obtain rfl : X = true := by rw [HX.out]; simp [c0q, c1q, c2q, c3q, c4q]
    clear c0q c1q c2q c3q c4q
    go_enter Tryz.func23, Tryz.ntmps23
    obtain ⟨⟨d0, d1, d2, d3⟩, -, -⟩ := HC.out
    go_wp2_with fail
    go_ret
    exact ⟨rfl, HE.out⟩
set_option maxRecDepth 100000 in
set_option maxHeartbeats 16000000 in
theorem rfmtnet_any (b : Int) (P : Option Addr) (n c : Nat) (ls : List (List Int)) (w : World) (h : LinesAt w P n ls) (hb : I64r b) (hi : ∀ z ∈ ls, z.length = 4 ∧ ∀ x ∈ z, I64r x) (hn : n ≤ 1000) :
    Calls Tryz.prog 8 #[.agg #[.int .i64 b, .slice P n c]] w fun e w' => e = .returned (.tuple #[.string (bs (netT b ls).1), .int .i64 (netT b ls).2]) ∧ Ext w w' := by
  obtain ⟨X, hX⟩ : ∃ X, netT b ls = X := ⟨_, rfl⟩
  have HX : Hid (X = if netC b ls = 0 then (netX b ls, 0) else ([], netC b ls)) := by unfold Hid; rw [← hX]; unfold netT; rw [netX_is]
  rw [hX]
  have H := Lib.hid h
  have HI := Lib.hid (And.intro hb hi)
  clear hX h hb hi
  go_enter Tryz.func8, Tryz.ntmps8
  go_wp2_with fail
  have hA := Cell2.new w _ rfl (.int .i64 b) (.slice P n c) 24
  have hE0 : Ext w (w.alloc (.cells #[.int .i64 b, .slice P n c] 24)) := Ext.al Ext.rfl' _
  generalize (w.alloc (.cells #[.int .i64 b, .slice P n c] 24)) = w0 at *
  obtain ⟨g, hg⟩ : ∃ g, w.heap.size = g := ⟨_, rfl⟩
  rw [hg] at hA ⊢
  clear hg
  have HA := Lib.hid hA
  have HE0 := Lib.hid hE0
  clear hA hE0
  obtain ⟨b0, b1, -, -, -⟩ := HA.out
  go_wp2_with fail
  clear b0 b1
  refine (rcheck14_any b P n c ls w0 (H.out.ext HE0.out) (by omega)).mono ?_
  rintro e w1 ⟨rfl, hE⟩
  have HA1 := Lib.hid (HA.out.ext hE)
  have HE1 := Lib.hid (Ext.trans HE0.out hE)
  clear hE
  generalize netC b ls = nc at *
  by_cases hc : nc = 0
  rotate_left
  · have HR : Hid (X = ([], nc)) := by unfold Hid; rw [HX.out, if_neg hc]
    have hcb : (nc != 0) = true := by simp [hc]
    clear hc
    go_wp2_with fail
    go_ret2
    exact ⟨by rw [HR.out]; rfl, HE1.out⟩
  · subst hc
    have HR : Hid (X = (netX b ls, 0)) := by unfold Hid; rw [HX.out, if_pos rfl]
    obtain ⟨b0, b1, -, -, -⟩ := HA1.out
    go_wp2_with fail
    clear b0 b1
    refine (rwnet_any b P n c ls w1 (H.out.ext HE1.out) HI.out.1 HI.out.2 hn).mono ?_
    rintro e w2 ⟨rfl, hE⟩
    have HE2 := Lib.hid (Ext.trans HE1.out hE)
    clear hE
    go_wp2_with fail
    go_ret2
    exact ⟨by rw [HR.out]; rfl, HE2.out⟩
set_option maxRecDepth 100000 in
set_option maxHeartbeats 16000000 in
theorem rfmtout_any (kd wh fr to_ : Int) (w : World) (i1 : I64r wh) (i2 : I64r fr) (i3 : I64r to_) :
    Calls Tryz.prog 10 #[.agg #[.int .u8 kd, .int .i64 wh, .int .i64 fr, .int .i64 to_]] w fun e w' => e = .returned (.tuple #[.string (bs (outT kd wh fr to_).1), .int .i64 (outT kd wh fr to_).2]) ∧ Ext w w' := by
  obtain ⟨X, hX⟩ : ∃ X, outT kd wh fr to_ = X := ⟨_, rfl⟩
  have HX : Hid (X = if kd = 1 ∨ kd = 2 ∨ kd = 3 then (if validO kd wh fr to_ then (outX kd wh fr to_, 0) else ([], 1)) else ([], 12)) := by unfold Hid; rw [← hX]; unfold outT; rw [outX_is]
  rw [hX]
  have HO := Lib.hid (And.intro i1 (And.intro i2 i3))
  clear hX i1 i2 i3
  have HE := Lib.hid (show Ext w (w.alloc (.cells #[.int .u8 kd, .int .i64 wh, .int .i64 fr, .int .i64 to_] 26)) from Ext.al Ext.rfl' _)
  have HC := Lib.hid (Cell4.new w _ rfl (.int .u8 kd) (.int .i64 wh) (.int .i64 fr) (.int .i64 to_) 26)
  by_cases q1 : kd < 1
  · have r1 : decide (kd < 1) = true := decide_eq_true q1
    obtain rfl : X = ([], 12) := by rw [HX.out, if_neg (by omega)]
    clear q1
    go_enter Tryz.func10, Tryz.ntmps10
    obtain ⟨⟨d0, d1, d2, d3⟩, -, -⟩ := HC.out
    go_wp2_with fail
    go_ret2
    exact ⟨rfl, HE.out⟩
  · have r1 : decide (kd < 1) = false := decide_eq_false q1
    by_cases q2 : 3 < kd
    · have r2 : decide (3 < kd) = true := decide_eq_true q2
      obtain rfl : X = ([], 12) := by rw [HX.out, if_neg (by omega)]
      clear q1 q2
      go_enter Tryz.func10, Tryz.ntmps10
      obtain ⟨⟨d0, d1, d2, d3⟩, -, -⟩ := HC.out
      go_wp2_with fail
      go_ret2
      exact ⟨rfl, HE.out⟩
    · have r2 : decide (3 < kd) = false := decide_eq_false q2
      have HKD : Hid (kd = 1 ∨ kd = 2 ∨ kd = 3) := by unfold Hid; omega
      have HX2 : Hid (X = if validO kd wh fr to_ then (outX kd wh fr to_, 0) else ([], 1)) := by unfold Hid; rw [HX.out, if_pos HKD.out]
      clear q1 q2 HX
      go_enter Tryz.func10, Tryz.ntmps10
      obtain ⟨⟨d0, d1, d2, d3⟩, -, -⟩ := HC.out
      go_wp2_with fail
      clear d0 d1 d2 d3 r1 r2
      have hC := HC.out
      have hE := HE.out
      clear HC HE
      generalize (w.alloc (.cells #[.int .u8 kd, .int .i64 wh, .int .i64 fr, .int .i64 to_] 26)) = w0 at *
      obtain ⟨g, hg⟩ : ∃ g, w.heap.size = g := ⟨_, rfl⟩
      rw [hg] at hC ⊢
      clear hg
      have HC := Lib.hid hC
      have HE := Lib.hid hE
      clear hC hE
      refine (range3_any kd wh fr to_ w0).mono ?_
      rintro e w1 ⟨rfl, hE⟩
      have HC1 := Lib.hid (HC.out.ext hE)
      have HE1 := Lib.hid (Ext.trans HE.out hE)
      clear hE
      generalize validO kd wh fr to_ = vo at *
      cases vo
      · obtain rfl : X = ([], 1) := HX2.out
        go_wp2_with fail
        go_ret2
        exact ⟨rfl, HE1.out⟩
      · have HR : Hid (X = (outX kd wh fr to_, 0)) := HX2.out
        obtain ⟨⟨d0, d1, d2, d3⟩, -, -⟩ := HC1.out
        go_wp2_with fail
        clear d0 d1 d2 d3
        refine (rwout_any kd wh fr to_ w1 HKD.out HO.out.1 HO.out.2.1 HO.out.2.2).mono ?_
        rintro e w2 ⟨rfl, hE⟩
        have HE2 := Lib.hid (Ext.trans HE1.out hE)
        clear hE
        go_wp2_with fail
        go_ret2
        exact ⟨by rw [HR.out]; rfl, HE2.out⟩
end Go.Proofs.YtnofbjcikfofgaaGreat
