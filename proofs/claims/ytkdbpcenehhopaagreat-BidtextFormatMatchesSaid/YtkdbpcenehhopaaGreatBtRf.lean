/- The contracts of pylonref31's own, FormatUnit and FormatBid. Printed by gen_btx.py. -/
import Derived.Test.YtkdbpcenehhopaaGreatBtWr
import Derived.Test.YtkdbpcenehhopaaGreatRefSU
namespace Go.Proofs.YtkdbpcenehhopaaGreat
open Go.RowKit
theorem unitT_X (u : U) : unitT u = if u.check 6 = 0 then (unitX u, 0) else ([], u.check 6) := by unfold unitT; rw [unitX_is]
theorem bidT_X (b : Int) (xs : List (Int × Int)) : bidT b xs = if bidC b xs = 0 then (bidX b xs, 0) else ([], bidC b xs) := by unfold bidT; rw [bidX_is]
set_option maxHeartbeats 4000000 in
theorem rown31_any (b : Int) (A : Option Addr) (n c : Nat) (xs : List (Int × Int)) (w : World) (hs : StepsAt w A n xs) (hn : n ≤ maxLen) :
    Calls Tryz.prog 51 #[.agg #[.int .i64 b, .slice A n c]] w fun e w' => e = .returned (.int .i64 (bidC b xs)) ∧ Ext w w' := by
  have H := Lib.hid hs
  clear hs
  have HE := Lib.hid (show Ext w (w.alloc (.cells #[.int .i64 b, .slice A n c] 26)) from Ext.al Ext.rfl' _)
  have HC := Lib.hid (Cell2.new w _ rfl (.int .i64 b) (.slice A n c) 26)
  obtain ⟨X, hX⟩ : ∃ X, bidC b xs = X := ⟨_, rfl⟩
  rw [hX]
  have HX : Hid (X = if b < 0 ∨ 6 ≤ b then 1 else chk false xs) := hX.symm
  clear hX
  by_cases h0 : b < 0
  · have t0 : decide (b < 0) = true := decide_eq_true h0
    obtain rfl : X = 1 := by rw [HX.out, if_pos (.inl h0)]
    clear h0
    go_enter Tryz.func51, Tryz.ntmps51
    obtain ⟨c0, c1, -, -, -⟩ := HC.out
    go_wp2_with fail
    go_ret
    exact ⟨rfl, HE.out⟩
  · have t0 : decide (b < 0) = false := decide_eq_false h0
    by_cases h1 : 6 ≤ b
    · have t1 : decide (5 < b) = true := decide_eq_true (by omega)
      obtain rfl : X = 1 := by rw [HX.out, if_pos (.inr h1)]
      clear h0 h1
      go_enter Tryz.func51, Tryz.ntmps51
      obtain ⟨c0, c1, -, -, -⟩ := HC.out
      go_wp2_with fail
      go_ret
      exact ⟨rfl, HE.out⟩
    · have t1 : decide (5 < b) = false := decide_eq_false (by omega)
      obtain rfl : X = chk false xs := by rw [HX.out, if_neg (by omega)]
      clear h0 h1
      go_enter Tryz.func51, Tryz.ntmps51
      obtain ⟨c0, c1, -, -, -⟩ := HC.out
      go_wp2_with fail
      clear c0 c1
      refine (rBid_any A n c xs _ (H.out.below HE.out) hn).mono ?_
      rintro e w2 ⟨rfl, hE⟩
      go_wp2_with fail
      go_ret
      exact ⟨rfl, Ext.trans HE.out hE⟩
set_option maxRecDepth 100000 in
set_option maxHeartbeats 16000000 in
theorem rfmtunit_any (u : U) (A : Option Addr) (n c : Nat) (w : World) (h : StepsAt w A n u.steps) (hz : ∀ z ∈ unitZs u, I64r z) (hi : ∀ x ∈ u.steps, I64r x.1 ∧ I64r x.2) (hn : n ≤ 1000) :
    Calls Tryz.prog 21 #[u.val A n c] w fun e w' => e = .returned (.tuple #[.string (bs (unitT u).1), .int .i64 (unitT u).2]) ∧ Ext w w' := by
  obtain ⟨X, hX⟩ : ∃ X, unitT u = X := ⟨_, rfl⟩
  have HX : Hid (X = if u.check 6 = 0 then (unitX u, 0) else ([], u.check 6)) := by unfold Hid; rw [← hX]; exact unitT_X u
  rw [hX]
  have H := Lib.hid h
  have HZ := Lib.hid hz
  have HI := Lib.hid hi
  clear hX h hz hi
  go_enter Tryz.func21, Tryz.ntmps21
  go_wp2_with fail
  have hA := UBk.new w u A n c
  have hE0 : Ext w (w.alloc (.cells #[.int .i64 u.bus, .int .i64 u.mn, .slice A n c, .int .i64 u.up, .int .i64 u.down, .int .i64 u.start, .int .i64 u.idle, .int .i64 u.spin, .int .i64 u.on] 24)) := Ext.al Ext.rfl' _
  generalize (w.alloc (.cells #[.int .i64 u.bus, .int .i64 u.mn, .slice A n c, .int .i64 u.up, .int .i64 u.down, .int .i64 u.start, .int .i64 u.idle, .int .i64 u.spin, .int .i64 u.on] 24)) = w0 at *
  obtain ⟨g, hg⟩ : ∃ g, w.heap.size = g := ⟨_, rfl⟩
  rw [hg] at hA ⊢
  clear hg
  have HA := Lib.hid hA
  have HE0 := Lib.hid hE0
  clear hA hE0
  obtain ⟨a0, a1, a2, a3, a4, a5, a6, a7, a8⟩ := HA.out.cells
  go_wp2_with fail
  clear a0 a1 a2 a3 a4 a5 a6 a7 a8
  refine (rCheck_any u 6 A n c w0 (H.out.below HE0.out) (by unfold maxLen; omega)).mono ?_
  rintro e w1 ⟨rfl, hE⟩
  have HA1 := Lib.hid (HA.out.ext hE)
  have HE1 := Lib.hid (Ext.trans HE0.out hE)
  clear hE
  generalize u.check 6 = nc at *
  by_cases hc : nc = 0
  rotate_left
  · have HR : Hid (X = ([], nc)) := by unfold Hid; rw [HX.out, if_neg hc]
    have hcb : (nc != 0) = true := by simp [hc]
    clear hc
    go_wp2_with fail
    go_ret2
    exact ⟨by rw [HR.out]; rfl, HE1.out⟩
  · subst hc
    have HR : Hid (X = (unitX u, 0)) := by unfold Hid; rw [HX.out, if_pos rfl]
    obtain ⟨a0, a1, a2, a3, a4, a5, a6, a7, a8⟩ := HA1.out.cells
    go_wp2_with fail
    clear a0 a1 a2 a3 a4 a5 a6 a7 a8
    refine (rwrite_any u A n c w1 (H.out.below HE1.out) HZ.out HI.out hn).mono ?_
    rintro e w2 ⟨rfl, hE⟩
    have HE2 := Lib.hid (Ext.trans HE1.out hE)
    clear hE
    go_wp2_with fail
    go_ret2
    exact ⟨by rw [HR.out]; rfl, HE2.out⟩
set_option maxRecDepth 100000 in
set_option maxHeartbeats 16000000 in
theorem rfmtbid_any (b : Int) (xs : List (Int × Int)) (A : Option Addr) (n c : Nat) (w : World) (h : StepsAt w A n xs) (hz : I64r b) (hi : ∀ x ∈ xs, I64r x.1 ∧ I64r x.2) (hn : n ≤ 1000) :
    Calls Tryz.prog 22 #[.agg #[.int .i64 b, .slice A n c]] w fun e w' => e = .returned (.tuple #[.string (bs (bidT b xs).1), .int .i64 (bidT b xs).2]) ∧ Ext w w' := by
  obtain ⟨X, hX⟩ : ∃ X, bidT b xs = X := ⟨_, rfl⟩
  have HX : Hid (X = if bidC b xs = 0 then (bidX b xs, 0) else ([], bidC b xs)) := by unfold Hid; rw [← hX]; exact bidT_X b xs
  rw [hX]
  have H := Lib.hid h
  have HZ := Lib.hid hz
  have HI := Lib.hid hi
  clear hX h hz hi
  go_enter Tryz.func22, Tryz.ntmps22
  go_wp2_with fail
  have hA := Cell2.new w _ rfl (.int .i64 b) (.slice A n c) 26
  have hE0 : Ext w (w.alloc (.cells #[.int .i64 b, .slice A n c] 26)) := Ext.al Ext.rfl' _
  generalize (w.alloc (.cells #[.int .i64 b, .slice A n c] 26)) = w0 at *
  obtain ⟨g, hg⟩ : ∃ g, w.heap.size = g := ⟨_, rfl⟩
  rw [hg] at hA ⊢
  clear hg
  have HA := Lib.hid hA
  have HE0 := Lib.hid hE0
  clear hA hE0
  obtain ⟨b0, b1, -, -, -⟩ := HA.out
  go_wp2_with fail
  clear b0 b1
  refine (rown31_any b A n c xs w0 (H.out.below HE0.out) (by unfold maxLen; omega)).mono ?_
  rintro e w1 ⟨rfl, hE⟩
  have HA1 := Lib.hid (HA.out.ext hE)
  have HE1 := Lib.hid (Ext.trans HE0.out hE)
  clear hE
  generalize bidC b xs = nc at *
  by_cases hc : nc = 0
  rotate_left
  · have HR : Hid (X = ([], nc)) := by unfold Hid; rw [HX.out, if_neg hc]
    have hcb : (nc != 0) = true := by simp [hc]
    clear hc
    go_wp2_with fail
    go_ret2
    exact ⟨by rw [HR.out]; rfl, HE1.out⟩
  · subst hc
    have HR : Hid (X = (bidX b xs, 0)) := by unfold Hid; rw [HX.out, if_pos rfl]
    obtain ⟨b0, b1, -, -, -⟩ := HA1.out
    go_wp2_with fail
    clear b0 b1
    refine (rwriteb_any b xs A n c w1 (H.out.below HE1.out) HZ.out HI.out hn).mono ?_
    rintro e w2 ⟨rfl, hE⟩
    have HE2 := Lib.hid (Ext.trans HE1.out hE)
    clear hE
    go_wp2_with fail
    go_ret2
    exact ⟨by rw [HR.out]; rfl, HE2.out⟩
end Go.Proofs.YtkdbpcenehhopaaGreat
