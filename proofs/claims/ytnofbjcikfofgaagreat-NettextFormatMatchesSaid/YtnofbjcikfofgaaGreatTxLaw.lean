/- The functions of the Nettext laws. Printed by gen_txlaw.py. -/
import Derived.Test.YtnofbjcikfofgaaGreatTxU
namespace Go.Proofs.YtnofbjcikfofgaaGreat
open Go.RowKit
set_option maxRecDepth 100000 in
set_option maxHeartbeats 8000000 in
theorem same_true (b : Int) (P : Option Addr) (n c : Nat) (P' : Option Addr) (c' : Nat) (ls : List (List Int)) (w : World) (h : LinesAt w P n ls) (h' : LinesAt w P' n ls) (hn : n ≤ 1000000) :
    Calls Tryz.prog 14 #[.agg #[.int .i64 b, .slice P n c], .agg #[.int .i64 b, .slice P' n c']] w fun e w' => e = .returned (.bool true) ∧ Ext w w' := by
  have H := Lib.hid h
  have H' := Lib.hid h'
  clear h h'
  go_enter Tryz.func14, Tryz.ntmps14
  have hA := Cell2.new w _ rfl (.int .i64 b) (.slice P n c) 24
  have hAB : Ext (w.alloc (.cells #[.int .i64 b, .slice P n c] 24)) ((w.alloc (.cells #[.int .i64 b, .slice P n c] 24)).alloc (.cells #[.int .i64 b, .slice P' n c'] 24)) := Ext.al Ext.rfl' _
  have hB := Cell2.new (w.alloc (.cells #[.int .i64 b, .slice P n c] 24)) _ rfl (.int .i64 b) (.slice P' n c') 24
  have hE0 : Ext w ((w.alloc (.cells #[.int .i64 b, .slice P n c] 24)).alloc (.cells #[.int .i64 b, .slice P' n c'] 24)) := Ext.trans (Ext.al Ext.rfl' _) hAB
  have hA2 := hA.ext hAB
  have he : (w.alloc (.cells #[.int .i64 b, .slice P n c] 24)).heap.size = w.heap.size + 1 := by simp
  rw [he] at hB
  have HA := Lib.hid hA2
  have HB := Lib.hid hB
  have HE0 := Lib.hid hE0
  clear hA hAB hB hE0 hA2 he
  go_wp2_with fail
  generalize ((w.alloc (.cells #[.int .i64 b, .slice P n c] 24)).alloc (.cells #[.int .i64 b, .slice P' n c'] 24)) = w0 at *
  obtain ⟨ga, hga⟩ : ∃ x, w.heap.size = x := ⟨_, rfl⟩
  rw [hga] at HA HB ⊢
  clear hga
  obtain ⟨gb, hgb⟩ : ∃ x, ga + 1 = x := ⟨_, rfl⟩
  rw [hgb] at HB ⊢
  clear hgb
  obtain ⟨a0, a1, -, -, -⟩ := HA.out
  obtain ⟨b0, b1, -, -, -⟩ := HB.out
  have e1 : (b != b) = false := by simp
  have e2 : ((n : Int) != (n : Int)) = false := by simp
  go_wp2_with fail
  clear a0 a1 b0 b1
  go_loopw [5] (fun i wr => ∃ k : Nat, k ≤ n ∧ i = .int .i64 (k : Int) ∧ Hid (Ext w wr) ∧ Hid (Cell2 wr ga (.int .i64 b) (.slice P n c)) ∧ Hid (Cell2 wr gb (.int .i64 b) (.slice P' n c'))) (fun i _ => n - (intOf i).toNat)
  case atStart => exact ⟨0, by omega, rfl, HE0, HA, HB⟩
  case round =>
    obtain ⟨k, hk, rfl, HER, HAR, HBR⟩ := hrel
    obtain ⟨a0, a1, -, -, -⟩ := HAR.out
    obtain ⟨b0, b1, -, -, -⟩ := HBR.out
    by_cases hlt : k < n
    · have hbv : decide ((k : Int) < (n : Int)) = true := by simp; omega
      have hbv2 : decide (k < n) = true := by simp; omega
      have hz0 : (0 : Int) ≤ (k : Int) := by omega
      have hzn : (k : Int) < (n : Int) := by omega
      obtain ⟨lb, lo, rfl, hlb, hlc⟩ := (H.out.ext HER.out).2 (by omega)
      obtain ⟨mb, mo, rfl, hmb, hmc⟩ := (H'.out.ext HER.out).2 (by omega)
      obtain ⟨y0, y1, y2, y3⟩ := hlc k hlt
      obtain ⟨x0, x1, x2, x3⟩ := hmc k hlt
      generalize (ls.getD k []).getD 0 0 = z0 at *
      generalize (ls.getD k []).getD 1 0 = z1 at *
      generalize (ls.getD k []).getD 2 0 = z2 at *
      generalize (ls.getD k []).getD 3 0 = z3 at *
      clear hlc hmc
      go_wp2_with fail
      go_quiet (fail)
      go_wp2_with fail
      go_roundw
      case rel => exact ⟨k + 1, by omega, by go_num, below_drewN HER.out _, HAR.out.ext (below_drewN Ext.rfl' _), HBR.out.ext (below_drewN Ext.rfl' _)⟩
      case measure => simp [intOf]; omega
    · obtain rfl : k = n := by omega
      have hbv : decide ((k : Int) < (k : Int)) = false := by simp
      have hbv2 : decide (k < k) = false := by simp
      go_wp2_with fail
      go_ret
      exact ⟨rfl, HER.out⟩
theorem long_any (S : ByteArray) (b : Int) (P : Option Addr) (n c : Nat) (w : World) :
    Calls Tryz.prog 5 #[.string S, .agg #[.int .i64 b, .slice P n c]] w fun e w' => e = .returned (.bool (decide (5000 < S.size) || decide (40 < n))) ∧ Ext w w' := by
  by_cases h1 : 5000 < S.size
  · have a1 : decide ((5000 : Int) < (S.size : Int)) = true := decide_eq_true (by omega)
    have a2 : decide (5000 < S.size) = true := decide_eq_true h1
    go_enter Tryz.func5, Tryz.ntmps5
    go_wp2_with fail
    go_ret
    exact ⟨ret_b (by rw [a2]; rfl), Ext.al Ext.rfl' _⟩
  · have a1 : decide ((5000 : Int) < (S.size : Int)) = false := decide_eq_false (by omega)
    have a2 : decide (5000 < S.size) = false := decide_eq_false h1
    by_cases h2 : 40 < n
    · have a3 : decide ((40 : Int) < (n : Int)) = true := decide_eq_true (by omega)
      have a4 : decide (40 < n) = true := decide_eq_true h2
      go_enter Tryz.func5, Tryz.ntmps5
      go_wp2_with fail
      go_ret
      exact ⟨ret_b (by rw [a2, a4]; rfl), Ext.al Ext.rfl' _⟩
    · have a3 : decide ((40 : Int) < (n : Int)) = false := decide_eq_false (by omega)
      have a4 : decide (40 < n) = false := decide_eq_false h2
      go_enter Tryz.func5, Tryz.ntmps5
      go_wp2_with fail
      go_ret
      exact ⟨ret_b (by rw [a2, a4]; rfl), Ext.al Ext.rfl' _⟩
set_option maxRecDepth 100000 in
set_option maxHeartbeats 4000000 in
theorem grid_true (S : ByteArray) (k b : Int) (P : Option Addr) (n c : Nat) (nx e : Int) (ls : List (List Int)) (w : World) (hR : netR S.data.toList k = ⟨b, ls, nx, e⟩) (h : LinesAt w P n ls) (hs : S.size ≤ maxLen) (hn : n ≤ 1000000) :
    Calls Tryz.prog 18 #[.string S, .int .i64 k, .agg #[.int .i64 b, .slice P n c], .int .i64 nx, .int .i64 e] w fun e w' => e = .returned (.bool true) ∧ Ext w w' := by
  have HR := Lib.hid hR
  have H := Lib.hid h
  have HS := Lib.hid hs
  clear hR h hs
  go_enter Tryz.func18, Tryz.ntmps18
  go_wp2_with fail
  have hA := Cell2.new w _ rfl (.int .i64 b) (.slice P n c) 24
  have hE0 : Ext w (w.alloc (.cells #[.int .i64 b, .slice P n c] 24)) := Ext.al Ext.rfl' _
  generalize (w.alloc (.cells #[.int .i64 b, .slice P n c] 24)) = w0 at *
  obtain ⟨ga, hga⟩ : ∃ x, w.heap.size = x := ⟨_, rfl⟩
  rw [hga] at hA ⊢
  clear hga
  have HA := Lib.hid hA
  have HE0 := Lib.hid hE0
  clear hA hE0
  have hp := parsenet_any S k w0 HS.out
  rw [HR.out] at hp
  refine hp.mono ?_
  clear hp
  rintro ee w1 ⟨A, c2, rfl, hL, hE1⟩
  have HL : Hid (LinesAt w1 A n ls) := by
    have e0 : ls.length = n := H.out.1
    simp only at hL
    rw [e0] at hL
    exact hL
  have e0 : ls.length = n := H.out.1
  simp only
  rw [e0]
  have HE1 := Lib.hid (Ext.trans HE0.out hE1)
  have hA1 := HA.out.ext hE1
  clear HA hE1 hL e0
  have hB := Cell2.new w1 _ rfl (.int .i64 b) (.slice A n c2) 24
  have hE2 : Ext w1 (w1.alloc (.cells #[.int .i64 b, .slice A n c2] 24)) := Ext.al Ext.rfl' _
  have hA2 := hA1.ext hE2
  have HA := Lib.hid hA2
  have HB := Lib.hid hB
  have HE2 := Lib.hid (Ext.trans HE1.out hE2)
  have HL2 := Lib.hid (HL.out.ext hE2)
  clear hA1 hB hA2 HL hE2
  obtain ⟨a0, a1, -, -, -⟩ := HA.out
  have e1 : (e == e) = true := by simp
  have e2 : (nx == nx) = true := by simp
  go_wp2_with fail
  refine (same_true b A n c2 P c ls _ HL2.out (H.out.ext HE2.out) hn).mono ?_
  rintro ee w3 ⟨rfl, hE3⟩
  have HE3 := Lib.hid (Ext.trans HE2.out hE3)
  clear a0 a1 hE3
  go_wp2_with fail
  go_ret
  exact ⟨rfl, HE3.out⟩
set_option maxRecDepth 100000 in
set_option maxHeartbeats 4000000 in
theorem lost_true (S : ByteArray) (k kd wh fr to_ nx e : Int) (w : World) (hR : outR S.data.toList k = ⟨kd, wh, fr, to_, nx, e⟩) (hs : S.size ≤ maxLen) :
    Calls Tryz.prog 16 #[.string S, .int .i64 k, .agg #[.int .u8 kd, .int .i64 wh, .int .i64 fr, .int .i64 to_], .int .i64 nx, .int .i64 e] w fun e w' => e = .returned (.bool true) ∧ Ext w w' := by
  have HR := Lib.hid hR
  have HS := Lib.hid hs
  clear hR hs
  go_enter Tryz.func16, Tryz.ntmps16
  go_wp2_with fail
  have hA := Cell4.new w _ rfl (.int .u8 kd) (.int .i64 wh) (.int .i64 fr) (.int .i64 to_) 26
  have hE0 : Ext w (w.alloc (.cells #[.int .u8 kd, .int .i64 wh, .int .i64 fr, .int .i64 to_] 26)) := Ext.al Ext.rfl' _
  generalize (w.alloc (.cells #[.int .u8 kd, .int .i64 wh, .int .i64 fr, .int .i64 to_] 26)) = w0 at *
  obtain ⟨ga, hga⟩ : ∃ x, w.heap.size = x := ⟨_, rfl⟩
  rw [hga] at hA ⊢
  clear hga
  have HA := Lib.hid hA
  have HE0 := Lib.hid hE0
  clear hA hE0
  have hp := parseout_any S k w0 HS.out
  rw [HR.out] at hp
  refine hp.mono ?_
  clear hp
  rintro ee w1 ⟨rfl, hE1⟩
  simp only
  have HE1 := Lib.hid (Ext.trans HE0.out hE1)
  have hA1 := HA.out.ext hE1
  clear HA hE1
  have hB := Cell4.new w1 _ rfl (.int .u8 kd) (.int .i64 wh) (.int .i64 fr) (.int .i64 to_) 26
  have hE2 : Ext w1 (w1.alloc (.cells #[.int .u8 kd, .int .i64 wh, .int .i64 fr, .int .i64 to_] 26)) := Ext.al Ext.rfl' _
  have hA2 := hA1.ext hE2
  have HA := Lib.hid hA2
  have HB := Lib.hid hB
  have HE2 := Lib.hid (Ext.trans HE1.out hE2)
  clear hA1 hB hA2 hE2
  obtain ⟨⟨a0, a1, a2, a3⟩, -, -⟩ := HA.out
  have e1 : (e == e) = true := by simp
  have e2 : (nx == nx) = true := by simp
  go_wp2_with fail
  go_ret
  exact ⟨rfl, HE2.out⟩
end Go.Proofs.YtnofbjcikfofgaaGreat
