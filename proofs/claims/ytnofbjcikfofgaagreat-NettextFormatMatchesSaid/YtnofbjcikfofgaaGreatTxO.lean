/- The contract of net.Check. Printed by gen_txo.py. -/
import Derived.Test.YtnofbjcikfofgaaGreatTxN
namespace Go.Proofs.YtnofbjcikfofgaaGreat
open Go.RowKit
def inB (b x : Int) : Bool := decide (0 ≤ x) && decide (x < b)
/-- The five conditions of a line. -/
def lnC (b : Int) (z : List Int) : Nat → Bool
  | 0 => inB b (z.getD 0 0)
  | 1 => inB b (z.getD 1 0)
  | 2 => !decide (z.getD 0 0 = z.getD 1 0)
  | 3 => decide (1 ≤ z.getD 2 0) && decide (z.getD 2 0 ≤ 1000)
  | _ => decide (0 ≤ z.getD 3 0) && decide (z.getD 3 0 ≤ 1000000)
def lnOk (b : Int) (z : List Int) : Bool := lnC b z 0 && (lnC b z 1 && (lnC b z 2 && (lnC b z 3 && lnC b z 4)))
def netC (b : Int) (ls : List (List Int)) : Int := if b < 1 ∨ 6 < b then 1 else if 10 < ls.length then 5 else if ls.all (lnOk b) then 0 else 1
/-- A slice of lines. -/
def LinesAt (w : World) (P : Option Addr) (n : Nat) (ls : List (List Int)) : Prop := ls.length = n ∧ (0 < n → ∃ b off, P = some ⟨b, off, none⟩ ∧ b < w.heap.size ∧ ∀ i, i < n → w.cell? ⟨b, off + i * 4, none⟩ = some (.int .i64 ((ls.getD i []).getD 0 0)) ∧ w.cell? ⟨b, off + i * 4 + 1, none⟩ = some (.int .i64 ((ls.getD i []).getD 1 0)) ∧ w.cell? ⟨b, off + i * 4 + 2, none⟩ = some (.int .i64 ((ls.getD i []).getD 2 0)) ∧ w.cell? ⟨b, off + i * 4 + 3, none⟩ = some (.int .i64 ((ls.getD i []).getD 3 0)))
theorem LinesAt.ext {w w' : World} {P : Option Addr} {n : Nat} {ls : List (List Int)} (h : LinesAt w P n ls) (hb : Ext w w') : LinesAt w' P n ls := by
  refine ⟨h.1, fun hn => ?_⟩
  obtain ⟨b, off, e, hl, hc⟩ := h.2 hn
  exact ⟨b, off, e, Nat.lt_of_lt_of_le hl hb.size, fun i hi => ⟨Ext.cellOf hb (hc i hi).1, Ext.cellOf hb (hc i hi).2.1, Ext.cellOf hb (hc i hi).2.2.1, Ext.cellOf hb (hc i hi).2.2.2⟩⟩
set_option maxHeartbeats 1000000 in
theorem isbus_any (b x : Int) (P : Option Addr) (n c : Nat) (w : World) :
    Calls Tryz.prog 49 #[.agg #[.int .i64 b, .slice P n c], .int .i64 x] w fun e w' => e = .returned (.bool (inB b x)) ∧ Ext w w' := by
  by_cases h0 : 0 ≤ x
  · have a0 : decide (0 ≤ x) = true := decide_eq_true h0
    by_cases h1 : x < b
    · have a1 : decide (x < b) = true := decide_eq_true h1
      have HR : Hid (true = inB b x) := by unfold Hid inB; rw [a0, a1]; rfl
      go_enter Tryz.func49, Tryz.ntmps49
      go_wp2_with fail
      go_ret
      exact ⟨ret_b HR.out, Ext.al Ext.rfl' _⟩
    · have a1 : decide (x < b) = false := decide_eq_false h1
      have HR : Hid (false = inB b x) := by unfold Hid inB; rw [a0, a1]; rfl
      go_enter Tryz.func49, Tryz.ntmps49
      go_wp2_with fail
      go_ret
      exact ⟨ret_b HR.out, Ext.al Ext.rfl' _⟩
  · have a0 : decide (0 ≤ x) = false := decide_eq_false h0
    have HR : Hid (false = inB b x) := by unfold Hid inB; rw [a0]; rfl
    go_enter Tryz.func49, Tryz.ntmps49
    go_wp2_with fail
    go_ret
    exact ⟨ret_b HR.out, Ext.al Ext.rfl' _⟩

set_option maxHeartbeats 2000000 in
theorem chk1_any (b z0 z1 z2 z3 : Int) (P : Option Addr) (n c : Nat) (w : World) :
    Calls Tryz.prog 48 #[.agg #[.int .i64 b, .slice P n c], .agg #[.int .i64 z0, .int .i64 z1, .int .i64 z2, .int .i64 z3]] w fun e w' => e = .returned (.bool (inB b z0)) ∧ Ext w w' := by
  have hE : Ext w ((w.alloc (.cells #[.int .i64 b, .slice P n c] 24)).alloc (.cells #[.int .i64 z0, .int .i64 z1, .int .i64 z2, .int .i64 z3] 46)) := Ext.al (Ext.al Ext.rfl' _) _
  go_enter Tryz.func48, Tryz.ntmps48
  go_wp2_with fail
  refine (isbus_any b z0 P n c _).mono ?_
  rintro e w1 ⟨rfl, hE1⟩
  have HE := Lib.hid (Ext.trans hE hE1)
  clear hE hE1
  go_wp2_with fail
  go_ret
  exact ⟨rfl, HE.out⟩
set_option maxHeartbeats 2000000 in
theorem chk2_any (b z0 z1 z2 z3 : Int) (P : Option Addr) (n c : Nat) (w : World) :
    Calls Tryz.prog 50 #[.agg #[.int .i64 b, .slice P n c], .agg #[.int .i64 z0, .int .i64 z1, .int .i64 z2, .int .i64 z3]] w fun e w' => e = .returned (.bool (inB b z1)) ∧ Ext w w' := by
  have hE : Ext w ((w.alloc (.cells #[.int .i64 b, .slice P n c] 24)).alloc (.cells #[.int .i64 z0, .int .i64 z1, .int .i64 z2, .int .i64 z3] 46)) := Ext.al (Ext.al Ext.rfl' _) _
  go_enter Tryz.func50, Tryz.ntmps50
  go_wp2_with fail
  refine (isbus_any b z1 P n c _).mono ?_
  rintro e w1 ⟨rfl, hE1⟩
  have HE := Lib.hid (Ext.trans hE hE1)
  clear hE hE1
  go_wp2_with fail
  go_ret
  exact ⟨rfl, HE.out⟩
set_option maxHeartbeats 2000000 in
theorem chk3_any (b z0 z1 z2 z3 : Int) (P : Option Addr) (n c : Nat) (w : World) :
    Calls Tryz.prog 51 #[.agg #[.int .i64 b, .slice P n c], .agg #[.int .i64 z0, .int .i64 z1, .int .i64 z2, .int .i64 z3]] w fun e w' => e = .returned (.bool (!decide (z0 = z1))) ∧ Ext w w' := by
  by_cases h : z0 = z1
  · subst h
    have hb : (z0 != z0) = false := by simp
    have HR : Hid (false = !decide (z0 = z0)) := by simp [Hid]
    go_enter Tryz.func51, Tryz.ntmps51
    go_wp2_with fail
    go_ret
    exact ⟨ret_b HR.out, Ext.al (Ext.al Ext.rfl' _) _⟩
  · have hb : (z0 != z1) = true := by simp [h]
    have HR : Hid (true = !decide (z0 = z1)) := by simp [Hid, h]
    clear h
    go_enter Tryz.func51, Tryz.ntmps51
    go_wp2_with fail
    go_ret
    exact ⟨ret_b HR.out, Ext.al (Ext.al Ext.rfl' _) _⟩
set_option maxHeartbeats 2000000 in
theorem chk4_any (b z0 z1 z2 z3 : Int) (P : Option Addr) (n c : Nat) (w : World) :
    Calls Tryz.prog 52 #[.agg #[.int .i64 b, .slice P n c], .agg #[.int .i64 z0, .int .i64 z1, .int .i64 z2, .int .i64 z3]] w fun e w' => e = .returned (.bool (decide (1 ≤ z2) && decide (z2 ≤ 1000))) ∧ Ext w w' := by
  by_cases h0 : 1 ≤ z2
  · have a0 : decide (1 ≤ z2) = true := decide_eq_true h0
    by_cases h1 : z2 ≤ 1000
    · have a1 : decide (z2 ≤ 1000) = true := decide_eq_true h1
      have HR : Hid (true = (decide (1 ≤ z2) && decide (z2 ≤ 1000))) := by unfold Hid; rw [a0, a1]; rfl
      go_enter Tryz.func52, Tryz.ntmps52
      go_wp2_with fail
      go_ret
      exact ⟨ret_b (by first | exact HR.out | rfl), Ext.al (Ext.al Ext.rfl' _) _⟩
    · have a1 : decide (z2 ≤ 1000) = false := decide_eq_false h1
      have HR : Hid (false = (decide (1 ≤ z2) && decide (z2 ≤ 1000))) := by unfold Hid; rw [a0, a1]; rfl
      go_enter Tryz.func52, Tryz.ntmps52
      go_wp2_with fail
      go_ret
      exact ⟨ret_b (by first | exact HR.out | rfl), Ext.al (Ext.al Ext.rfl' _) _⟩
  · have a0 : decide (1 ≤ z2) = false := decide_eq_false h0
    have HR : Hid (false = (decide (1 ≤ z2) && decide (z2 ≤ 1000))) := by unfold Hid; rw [a0]; rfl
    go_enter Tryz.func52, Tryz.ntmps52
    go_wp2_with fail
    go_ret
    exact ⟨ret_b (by first | exact HR.out | rfl), Ext.al (Ext.al Ext.rfl' _) _⟩
set_option maxHeartbeats 2000000 in
theorem chk5_any (b z0 z1 z2 z3 : Int) (P : Option Addr) (n c : Nat) (w : World) :
    Calls Tryz.prog 53 #[.agg #[.int .i64 b, .slice P n c], .agg #[.int .i64 z0, .int .i64 z1, .int .i64 z2, .int .i64 z3]] w fun e w' => e = .returned (.bool (decide (0 ≤ z3) && decide (z3 ≤ 1000000))) ∧ Ext w w' := by
  by_cases h0 : 0 ≤ z3
  · have a0 : decide (0 ≤ z3) = true := decide_eq_true h0
    by_cases h1 : z3 ≤ 1000000
    · have a1 : decide (z3 ≤ 1000000) = true := decide_eq_true h1
      have HR : Hid (true = (decide (0 ≤ z3) && decide (z3 ≤ 1000000))) := by unfold Hid; rw [a0, a1]; rfl
      go_enter Tryz.func53, Tryz.ntmps53
      go_wp2_with fail
      go_ret
      exact ⟨ret_b (by first | exact HR.out | rfl), Ext.al (Ext.al Ext.rfl' _) _⟩
    · have a1 : decide (z3 ≤ 1000000) = false := decide_eq_false h1
      have HR : Hid (false = (decide (0 ≤ z3) && decide (z3 ≤ 1000000))) := by unfold Hid; rw [a0, a1]; rfl
      go_enter Tryz.func53, Tryz.ntmps53
      go_wp2_with fail
      go_ret
      exact ⟨ret_b (by first | exact HR.out | rfl), Ext.al (Ext.al Ext.rfl' _) _⟩
  · have a0 : decide (0 ≤ z3) = false := decide_eq_false h0
    have HR : Hid (false = (decide (0 ≤ z3) && decide (z3 ≤ 1000000))) := by unfold Hid; rw [a0]; rfl
    go_enter Tryz.func53, Tryz.ntmps53
    go_wp2_with fail
    go_ret
    exact ⟨ret_b (by first | exact HR.out | rfl), Ext.al (Ext.al Ext.rfl' _) _⟩
set_option maxHeartbeats 1000000 in
theorem checks_any (w : World) : Calls Tryz.prog 30 #[] w fun e w' => e = .returned (.slice (some ⟨w.heap.size, 0, none⟩) 5 5) ∧ Blk w' w.heap.size 69 #[fnV 48, fnV 50, fnV 51, fnV 52, fnV 53] ∧ Ext w w' := by
  go_enter Tryz.func30, Tryz.ntmps30
  go_wp2_with fail
  go_ret
  exact ⟨rfl, Blk.new w _ _, Ext.al Ext.rfl' _⟩

set_option maxRecDepth 100000 in
set_option maxHeartbeats 8000000 in
theorem ncheck_any (b : Int) (P : Option Addr) (n c : Nat) (ls : List (List Int)) (w : World) (h : LinesAt w P n ls) (hn : n ≤ 1000000) :
    Calls Tryz.prog 13 #[.agg #[.int .i64 b, .slice P n c]] w fun e w' => e = .returned (.int .i64 (netC b ls)) ∧ Ext w w' := by
  have HC : Hid (netC b ls = if b < 1 ∨ 6 < b then 1 else if 10 < ls.length then 5 else if ls.all (lnOk b) then 0 else 1) := rfl
  have H := Lib.hid h
  have HLN := Lib.hid h.1
  clear h
  have hE : Ext w (w.alloc (.cells #[.int .i64 b, .slice P n c] 24)) := Ext.al Ext.rfl' _
  by_cases hb0 : b < 1 ∨ 6 < b
  · have HR : Hid (netC b ls = 1) := by unfold Hid; rw [HC.out, if_pos hb0]
    clear HC
    by_cases hb1 : b < 1
    · have a1 : decide (b < 1) = true := decide_eq_true hb1
      clear hb0
      go_enter Tryz.func13, Tryz.ntmps13
      go_wp2_with fail
      go_step3
      go_wp2_with fail
      rw [Exit.noGoto_ret]
      go_ret
      exact ⟨by rw [HR.out]; rfl, hE⟩
    · have a1 : decide (b < 1) = false := decide_eq_false hb1
      have a2 : decide (6 < b) = true := decide_eq_true (by omega)
      clear hb0
      go_enter Tryz.func13, Tryz.ntmps13
      go_wp2_with fail
      go_step3
      go_wp2_with fail
      rw [Exit.noGoto_ret]
      go_ret
      exact ⟨by rw [HR.out]; rfl, hE⟩
  · have a1 : decide (b < 1) = false := decide_eq_false (by omega)
    have a2 : decide (6 < b) = false := decide_eq_false (by omega)
    have HC2 : Hid (netC b ls = if 10 < n then 5 else if ls.all (lnOk b) then 0 else 1) := by unfold Hid; rw [HC.out, if_neg hb0, HLN.out]
    clear HC hb0
    by_cases h10 : 10 < n
    · have a3 : decide ((10 : Int) < (n : Int)) = true := decide_eq_true (by omega)
      have a4 : decide (10 < n) = true := decide_eq_true h10
      have HR : Hid (netC b ls = 5) := by unfold Hid; rw [HC2.out, if_pos h10]
      clear HC2
      go_enter Tryz.func13, Tryz.ntmps13
      go_wp2_with fail
      go_step3
      go_wp2_with fail
      rw [Exit.noGoto_ret]
      go_ret
      exact ⟨by rw [HR.out]; rfl, hE⟩
    · have a3 : decide ((10 : Int) < (n : Int)) = false := decide_eq_false (by omega)
      have a4 : decide (10 < n) = false := decide_eq_false h10
      have HC3 : Hid (netC b ls = if ls.all (lnOk b) then 0 else 1) := by unfold Hid; rw [HC2.out, if_neg h10]
      clear HC2
      have hk := Cell2.new w _ rfl (.int .i64 b) (.slice P n c) 24
      go_enter Tryz.func13, Tryz.ntmps13
      go_wp2_with fail
      go_step3
      go_wp2_with fail
      generalize w.alloc (.cells #[.int .i64 b, .slice P n c] 24) = w1 at *
      refine (checks_any w1).mono ?_
      rintro e w2 ⟨rfl, hblk, hE2⟩
      obtain ⟨gc, hgc⟩ : ∃ g, w1.heap.size = g := ⟨_, rfl⟩
      rw [hgc] at hblk ⊢
      have HB := Lib.hid hblk
      have HK := Lib.hid (hk.ext hE2)
      have HE2 := Lib.hid (Ext.trans hE hE2)
      clear hgc hblk hE2 hk hE
      obtain ⟨x0, x1, -, -, xl⟩ := HK.out
      go_wp2_with fail
      go_step3
      go_wp2_with fail
      clear x0 x1 xl
      have HE0 := Lib.hid (Ext.rfl' (w := w2))
      go_loopw [3, 25] (fun er i wr => ∃ k : Nat, k ≤ n ∧ er = .int .i64 0 ∧ i = .int .i64 (k : Int) ∧ Hid (∀ j, j < k → lnOk b (ls.getD j []) = true) ∧ Hid (Ext w2 wr)) (fun _ i _ => n - (intOf i).toNat)
      case atStart => exact ⟨0, by omega, rfl, rfl, fun j hj => absurd hj (by omega), HE0⟩
      case round =>
        obtain ⟨k, hk, rfl, rfl, HOK, HEX⟩ := hrel
        by_cases hlt : k < n
        · have hbv : decide ((k : Int) < (n : Int)) = true := decide_eq_true (by omega)
          have hbv2 : decide (k < n) = true := decide_eq_true hlt
          have hz0 : (0 : Int) ≤ (k : Int) := by omega
          have hzn : (k : Int) < (n : Int) := by omega
          obtain ⟨lb, lo, rfl, hlb, hlc⟩ := (H.out.ext (Ext.trans HE2.out HEX.out)).2 (by omega)
          obtain ⟨y0, y1, y2, y3⟩ := hlc k hlt
          obtain ⟨z, hz⟩ : ∃ z, ls.getD k [] = z := ⟨_, rfl⟩
          rw [hz] at y0 y1 y2 y3
          have HZ := Lib.hid hz
          clear hz hlc
          have HZC : Hid (lnC b z 0 = inB b (z.getD 0 0) ∧ lnC b z 1 = inB b (z.getD 1 0) ∧ lnC b z 2 = (!decide (z.getD 0 0 = z.getD 1 0)) ∧ lnC b z 3 = (decide (1 ≤ z.getD 2 0) && decide (z.getD 2 0 ≤ 1000)) ∧ lnC b z 4 = (decide (0 ≤ z.getD 3 0) && decide (z.getD 3 0 ≤ 1000000))) := ⟨rfl, rfl, rfl, rfl, rfl⟩
          generalize z.getD 0 0 = z0 at *
          generalize z.getD 1 0 = z1 at *
          generalize z.getD 2 0 = z2 at *
          generalize z.getD 3 0 = z3 at *
          have HW4 := Lib.hid (Cell4.new wr _ rfl (.int .i64 z0) (.int .i64 z1) (.int .i64 z2) (.int .i64 z3) 46)
          have HEW := Lib.hid (show Ext wr (wr.alloc (.cells #[.int .i64 z0, .int .i64 z1, .int .i64 z2, .int .i64 z3] 46)) from Ext.al Ext.rfl' _)
          go_wp2_with fail
          clear y0 y1 y2 y3
          have hEW := HEW.out
          have hW4 := HW4.out
          clear HEW HW4
          obtain ⟨lg, hlg⟩ : ∃ g, wr.heap.size = g := ⟨_, rfl⟩
          rw [hlg] at hW4 ⊢
          clear hlg
          generalize wr.alloc (.cells #[.int .i64 z0, .int .i64 z1, .int .i64 z2, .int .i64 z3] 46) = w3 at *
          have HW4 := Lib.hid hW4
          have HE3 := Lib.hid (Ext.trans HEX.out hEW)
          clear hEW hW4
          go_loopw [3, 31] (fun er i wq => ∃ j : Nat, j ≤ 5 ∧ er = .int .i64 0 ∧ i = .int .i64 (j : Int) ∧ Hid (∀ x, x < j → lnC b z x = true) ∧ Hid (Ext w3 wq)) (fun _ i _ => 5 - (intOf i).toNat)
          case atStart => exact ⟨0, by omega, rfl, rfl, fun j hj => absurd hj (by omega), Ext.rfl'⟩
          case round =>
            obtain ⟨j, hj, rfl, rfl, HJ, HEQ⟩ := hrel
            have HE4 := Lib.hid (Ext.trans HE3.out HEQ.out)
            obtain ⟨n0, n1, -, -, nl⟩ := HK.out.ext HE4.out
            obtain ⟨⟨l0, l1, l2, l3⟩, -, ll⟩ := HW4.out.ext HEQ.out
            have hBB := (HB.out.keep (HE4.out.block gc HB.out.lt))
            by_cases hj0 : j = 0
            · subst hj0
              have q0 : wr.cell? ⟨gc, 0, none⟩ = some (fnV 48) := by rw [hBB.cell]; rfl
              obtain ⟨cb, hcb⟩ : ∃ v, lnC b z 0 = v := ⟨_, rfl⟩
              have HCB := Lib.hid hcb
              have HEB := Lib.hid (show Ext wr (wr.alloc (.cells #[fnV 48] 69)) from Ext.al Ext.rfl' _)
              clear hcb hBB
              go_wp2_with fail
              refine (chk1_any b z0 z1 z2 z3 _ n c _).mono ?_
              rintro e w5 ⟨rfl, hE5⟩
              have HE5 := Lib.hid (Ext.trans HEQ.out (Ext.trans HEB.out hE5))
              clear hE5 q0 n0 n1 nl l0 l1 l2 l3 ll
              rw [← HZC.out.1, HCB.out]
              cases cb
              · have HR : Hid (netC b ls = 1) := by
                  unfold Hid
                  rw [HC3.out, if_neg]
                  intro h
                  have h1 := List.all_eq_true.1 h z (by rw [← HZ.out, List.getD_eq_getElem?_getD, List.getElem?_eq_getElem (by rw [HLN.out]; exact hlt)]; exact List.getElem_mem _)
                  unfold lnOk at h1
                  rw [HCB.out] at h1
                  simp at h1
                go_wp2_with fail
                rw [Exit.noGoto_ret]
                go_ret
                exact ⟨by rw [HR.out]; rfl, Ext.trans HE2.out (Ext.trans HE3.out HE5.out)⟩
              · have HJ2 : Hid (∀ x, x < 0 + 1 → lnC b z x = true) := fun x hx => by
                  by_cases e : x = 0
                  · rw [e]; exact HCB.out
                  · exact HJ.out x (by omega)
                go_wp2_with fail
                go_roundw
                case rel => exact ⟨1, by omega, by first | rfl | trivial, by first | rfl | go_num, HJ2.out, HE5.out⟩
                case measure => simp [intOf]
            by_cases hj1 : j = 1
            · subst hj1
              have q0 : wr.cell? ⟨gc, 1, none⟩ = some (fnV 50) := by rw [hBB.cell]; rfl
              obtain ⟨cb, hcb⟩ : ∃ v, lnC b z 1 = v := ⟨_, rfl⟩
              have HCB := Lib.hid hcb
              have HEB := Lib.hid (show Ext wr (wr.alloc (.cells #[fnV 50] 69)) from Ext.al Ext.rfl' _)
              clear hcb hBB
              go_wp2_with fail
              refine (chk2_any b z0 z1 z2 z3 _ n c _).mono ?_
              rintro e w5 ⟨rfl, hE5⟩
              have HE5 := Lib.hid (Ext.trans HEQ.out (Ext.trans HEB.out hE5))
              clear hE5 q0 n0 n1 nl l0 l1 l2 l3 ll
              rw [← HZC.out.2.1, HCB.out]
              cases cb
              · have HR : Hid (netC b ls = 1) := by
                  unfold Hid
                  rw [HC3.out, if_neg]
                  intro h
                  have h1 := List.all_eq_true.1 h z (by rw [← HZ.out, List.getD_eq_getElem?_getD, List.getElem?_eq_getElem (by rw [HLN.out]; exact hlt)]; exact List.getElem_mem _)
                  unfold lnOk at h1
                  rw [HCB.out] at h1
                  simp at h1
                go_wp2_with fail
                rw [Exit.noGoto_ret]
                go_ret
                exact ⟨by rw [HR.out]; rfl, Ext.trans HE2.out (Ext.trans HE3.out HE5.out)⟩
              · have HJ2 : Hid (∀ x, x < 1 + 1 → lnC b z x = true) := fun x hx => by
                  by_cases e : x = 1
                  · rw [e]; exact HCB.out
                  · exact HJ.out x (by omega)
                go_wp2_with fail
                go_roundw
                case rel => exact ⟨2, by omega, by first | rfl | trivial, by first | rfl | go_num, HJ2.out, HE5.out⟩
                case measure => simp [intOf]
            by_cases hj2 : j = 2
            · subst hj2
              have q0 : wr.cell? ⟨gc, 2, none⟩ = some (fnV 51) := by rw [hBB.cell]; rfl
              obtain ⟨cb, hcb⟩ : ∃ v, lnC b z 2 = v := ⟨_, rfl⟩
              have HCB := Lib.hid hcb
              have HEB := Lib.hid (show Ext wr (wr.alloc (.cells #[fnV 51] 69)) from Ext.al Ext.rfl' _)
              clear hcb hBB
              go_wp2_with fail
              refine (chk3_any b z0 z1 z2 z3 _ n c _).mono ?_
              rintro e w5 ⟨rfl, hE5⟩
              have HE5 := Lib.hid (Ext.trans HEQ.out (Ext.trans HEB.out hE5))
              clear hE5 q0 n0 n1 nl l0 l1 l2 l3 ll
              rw [← HZC.out.2.2.1, HCB.out]
              cases cb
              · have HR : Hid (netC b ls = 1) := by
                  unfold Hid
                  rw [HC3.out, if_neg]
                  intro h
                  have h1 := List.all_eq_true.1 h z (by rw [← HZ.out, List.getD_eq_getElem?_getD, List.getElem?_eq_getElem (by rw [HLN.out]; exact hlt)]; exact List.getElem_mem _)
                  unfold lnOk at h1
                  rw [HCB.out] at h1
                  simp at h1
                go_wp2_with fail
                rw [Exit.noGoto_ret]
                go_ret
                exact ⟨by rw [HR.out]; rfl, Ext.trans HE2.out (Ext.trans HE3.out HE5.out)⟩
              · have HJ2 : Hid (∀ x, x < 2 + 1 → lnC b z x = true) := fun x hx => by
                  by_cases e : x = 2
                  · rw [e]; exact HCB.out
                  · exact HJ.out x (by omega)
                go_wp2_with fail
                go_roundw
                case rel => exact ⟨3, by omega, by first | rfl | trivial, by first | rfl | go_num, HJ2.out, HE5.out⟩
                case measure => simp [intOf]
            by_cases hj3 : j = 3
            · subst hj3
              have q0 : wr.cell? ⟨gc, 3, none⟩ = some (fnV 52) := by rw [hBB.cell]; rfl
              obtain ⟨cb, hcb⟩ : ∃ v, lnC b z 3 = v := ⟨_, rfl⟩
              have HCB := Lib.hid hcb
              have HEB := Lib.hid (show Ext wr (wr.alloc (.cells #[fnV 52] 69)) from Ext.al Ext.rfl' _)
              clear hcb hBB
              go_wp2_with fail
              refine (chk4_any b z0 z1 z2 z3 _ n c _).mono ?_
              rintro e w5 ⟨rfl, hE5⟩
              have HE5 := Lib.hid (Ext.trans HEQ.out (Ext.trans HEB.out hE5))
              clear hE5 q0 n0 n1 nl l0 l1 l2 l3 ll
              rw [← HZC.out.2.2.2.1, HCB.out]
              cases cb
              · have HR : Hid (netC b ls = 1) := by
                  unfold Hid
                  rw [HC3.out, if_neg]
                  intro h
                  have h1 := List.all_eq_true.1 h z (by rw [← HZ.out, List.getD_eq_getElem?_getD, List.getElem?_eq_getElem (by rw [HLN.out]; exact hlt)]; exact List.getElem_mem _)
                  unfold lnOk at h1
                  rw [HCB.out] at h1
                  simp at h1
                go_wp2_with fail
                rw [Exit.noGoto_ret]
                go_ret
                exact ⟨by rw [HR.out]; rfl, Ext.trans HE2.out (Ext.trans HE3.out HE5.out)⟩
              · have HJ2 : Hid (∀ x, x < 3 + 1 → lnC b z x = true) := fun x hx => by
                  by_cases e : x = 3
                  · rw [e]; exact HCB.out
                  · exact HJ.out x (by omega)
                go_wp2_with fail
                go_roundw
                case rel => exact ⟨4, by omega, by first | rfl | trivial, by first | rfl | go_num, HJ2.out, HE5.out⟩
                case measure => simp [intOf]
            by_cases hj4 : j = 4
            · subst hj4
              have q0 : wr.cell? ⟨gc, 4, none⟩ = some (fnV 53) := by rw [hBB.cell]; rfl
              obtain ⟨cb, hcb⟩ : ∃ v, lnC b z 4 = v := ⟨_, rfl⟩
              have HCB := Lib.hid hcb
              have HEB := Lib.hid (show Ext wr (wr.alloc (.cells #[fnV 53] 69)) from Ext.al Ext.rfl' _)
              clear hcb hBB
              go_wp2_with fail
              refine (chk5_any b z0 z1 z2 z3 _ n c _).mono ?_
              rintro e w5 ⟨rfl, hE5⟩
              have HE5 := Lib.hid (Ext.trans HEQ.out (Ext.trans HEB.out hE5))
              clear hE5 q0 n0 n1 nl l0 l1 l2 l3 ll
              rw [← HZC.out.2.2.2.2, HCB.out]
              cases cb
              · have HR : Hid (netC b ls = 1) := by
                  unfold Hid
                  rw [HC3.out, if_neg]
                  intro h
                  have h1 := List.all_eq_true.1 h z (by rw [← HZ.out, List.getD_eq_getElem?_getD, List.getElem?_eq_getElem (by rw [HLN.out]; exact hlt)]; exact List.getElem_mem _)
                  unfold lnOk at h1
                  rw [HCB.out] at h1
                  simp at h1
                go_wp2_with fail
                rw [Exit.noGoto_ret]
                go_ret
                exact ⟨by rw [HR.out]; rfl, Ext.trans HE2.out (Ext.trans HE3.out HE5.out)⟩
              · have HJ2 : Hid (∀ x, x < 4 + 1 → lnC b z x = true) := fun x hx => by
                  by_cases e : x = 4
                  · rw [e]; exact HCB.out
                  · exact HJ.out x (by omega)
                go_wp2_with fail
                go_roundw
                case rel => exact ⟨5, by omega, by first | rfl | trivial, by first | rfl | go_num, HJ2.out, HE5.out⟩
                case measure => simp [intOf]
            obtain rfl : j = 5 := by omega
            have HOK2 : Hid (∀ x, x < k + 1 → lnOk b (ls.getD x []) = true) := fun x hx => by
              by_cases e : x = k
              · rw [e, HZ.out]
                unfold lnOk
                rw [HJ.out 0 (by omega), HJ.out 1 (by omega), HJ.out 2 (by omega), HJ.out 3 (by omega), HJ.out 4 (by omega)]
                rfl
              · exact HOK.out x (by omega)
            clear n0 n1 nl l0 l1 l2 l3 ll hBB
            go_wp2_with fail
            go_roundw
            case rel => exact ⟨k + 1, by omega, by first | rfl | trivial, by go_num, HOK2.out, HE4.out⟩
            case measure => simp [intOf]; omega
        · obtain rfl : k = n := by omega
          have hbv : decide ((k : Int) < (k : Int)) = false := by simp
          have hbv2 : decide (k < k) = false := by simp
          have HR : Hid (netC b ls = 0) := by
            unfold Hid
            rw [HC3.out, if_pos]
            rw [List.all_eq_true]
            intro x hx
            obtain ⟨j, hj, rfl⟩ := List.mem_iff_getElem.1 hx
            have := HOK.out j (by rw [← HLN.out]; exact hj)
            simpa [List.getD, hj] using this
          go_wp2_with fail
          rw [Exit.noGoto_ret]
          go_ret
          exact ⟨by rw [HR.out]; rfl, Ext.trans HE2.out HEX.out⟩

end Go.Proofs.YtnofbjcikfofgaaGreat
