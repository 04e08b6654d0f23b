/- Contracts of whole.Add and whole.Sub. Plain words on signs and comparisons. Contracts of whole.Mul, whole.Cmp and whole.IsCanonical. The contract of whole.Cmp. -/
import Derived.Test.YtnofbjcikfofgaaGreatSum
import Derived.Test.YtnofbjcikfofgaaGreatBits
import Derived.Test.YtnofbjcikfofgaaGreatWordsC
namespace Go.Proofs.YtnofbjcikfofgaaGreat
open Go.RowKit

theorem i64B_r {z : Int} (h : i64B z = true) : I64r z := by unfold i64B at h; unfold I64r; exact of_decide_eq_true h
theorem r_i64B {z : Int} (h : I64r z) : i64B z = true := by unfold I64r at h; unfold i64B; exact decide_eq_true h
theorem box3 (w : World) (v0 v1 u0 u1 r0 r1 : Value) (t : TypeId) :
    Cell2 (((w.alloc (.cells #[v0, v1] t)).alloc (.cells #[u0, u1] t)).alloc (.cells #[r0, r1] t)) w.heap.size v0 v1 ∧ Cell2 (((w.alloc (.cells #[v0, v1] t)).alloc (.cells #[u0, u1] t)).alloc (.cells #[r0, r1] t)) (w.heap.size + 1) u0 u1 ∧
    Cell2 (((w.alloc (.cells #[v0, v1] t)).alloc (.cells #[u0, u1] t)).alloc (.cells #[r0, r1] t)) (w.heap.size + 1 + 1) r0 r1 ∧ Ext w (((w.alloc (.cells #[v0, v1] t)).alloc (.cells #[u0, u1] t)).alloc (.cells #[r0, r1] t)) :=
  ⟨((Cell2.new w _ rfl v0 v1 t).ext (Ext.al Ext.rfl' _)).ext (Ext.al Ext.rfl' _), (Cell2.new _ _ (by simp) u0 u1 t).ext (Ext.al Ext.rfl' _), Cell2.new _ _ (by simp) r0 r1 t, Ext.al (Ext.al (Ext.al Ext.rfl' _) _) _⟩

end Go.Proofs.YtnofbjcikfofgaaGreat

namespace Go.Proofs.YtnofbjcikfofgaaGreat
open Go.RowKit

theorem sgn_mul (a b : Bool) (x y : Nat) : sgn (a != b) (x * y) = sgn a x * sgn b y := by
  unfold sgn
  cases a <;> cases b <;> simp [Int.neg_mul, Int.mul_neg]
/-- -1, 0 or 1. -/
def cmpZ (a b : Int) : Int := if a < b then -1 else if b < a then 1 else 0
theorem sign_cases (z : Int) : (z < 0 ∧ z.sign = -1) ∨ (z = 0 ∧ z.sign = 0) ∨ (0 < z ∧ z.sign = 1) := by
  rcases Int.lt_trichotomy z 0 with h | h | h
  · exact .inl ⟨h, Int.sign_eq_neg_one_of_neg h⟩
  · exact .inr (.inl ⟨h, by rw [h]; rfl⟩)
  · exact .inr (.inr ⟨h, Int.sign_eq_one_of_pos h⟩)
theorem cmpZ_signs (za zb : Int) : cmpZ za zb = if za.sign < zb.sign then -1 else if zb.sign < za.sign then 1 else if za.sign < 0 then cmpN zb.natAbs za.natAbs else cmpN za.natAbs zb.natAbs := by
  rcases sign_cases za with ⟨h1, s1⟩ | ⟨h1, s1⟩ | ⟨h1, s1⟩ <;> rcases sign_cases zb with ⟨h2, s2⟩ | ⟨h2, s2⟩ | ⟨h2, s2⟩ <;> rw [s1, s2] <;> unfold cmpZ cmpN <;> (repeat' split) <;> omega
theorem low_ext (A : Option Addr) (n c : Nat) (xs : List Nat) (w : World) (h : WordsAt w A n xs) (hn : n ≤ 2) :
    Calls Tryz.prog 89 #[.slice A n c] w fun e w' => e = .returned (.int .u64 (natOf xs : Nat)) ∧ Ext w w' :=
  (low_any A n c xs w h hn).mono fun _ _ ⟨he, k, hk⟩ => ⟨he, by rw [hk]; exact below_drewN Ext.rfl' _⟩
theorem compare_ext (A : Option Addr) (n c : Nat) (a : Nat) (B : Option Addr) (m d : Nat) (b : Nat) (w : World) (hx : WordsAt w A n (wordsOf a)) (hy : WordsAt w B m (wordsOf b)) (hn : n ≤ maxLen) :
    Calls Tryz.prog 110 #[.slice A n c, .slice B m d] w fun e w' => e = .returned (.int .i64 (cmpN a b)) ∧ Ext w w' :=
  (compare_any A n c a B m d b w hx hy hn).mono fun _ _ ⟨he, k, hk⟩ => ⟨he, by rw [hk]; exact below_drewN Ext.rfl' _⟩
end Go.Proofs.YtnofbjcikfofgaaGreat

namespace Go.Proofs.YtnofbjcikfofgaaGreat
open Go.RowKit
end Go.Proofs.YtnofbjcikfofgaaGreat

namespace Go.Proofs.YtnofbjcikfofgaaGreat
open Go.RowKit

set_option maxRecDepth 100000 in
set_option maxHeartbeats 1600000 in
theorem cmp_any (a : Bool) (A : Option Addr) (n c : Nat) (za : Int) (b : Bool) (B : Option Addr) (m d : Nat) (zb : Int) (w : World) (ha : ZIs w a A n c za) (hb : ZIs w b B m d zb) (hn : n ≤ 1073741824) (hm : m ≤ 1073741824) :
    Calls Tryz.prog 104 #[.agg #[.bool a, .slice A n c], .agg #[.bool b, .slice B m d]] w fun e w' => e = .returned (.int .i64 (cmpZ za zb)) ∧ Ext w w' := by
  obtain ⟨sa, hsa⟩ : ∃ s, za.sign = s := ⟨_, rfl⟩
  obtain ⟨sb, hsb⟩ : ∃ s, zb.sign = s := ⟨_, rfl⟩
  have HRES := Lib.hid (cmpZ_signs za zb)
  rw [hsa, hsb] at HRES
  have HSA := Lib.hid hsa
  have HSB := Lib.hid hsb
  clear hsa hsb
  go_enter Tryz.func104, Tryz.ntmps104
  go_wp2_with fail
  have k0 := (Cell2.new w _ rfl (.bool a) (.slice A n c) 49).ext (Ext.al Ext.rfl' (.cells #[.bool b, .slice B m d] 49))
  have k1 := Cell2.new (w.alloc (.cells #[.bool a, .slice A n c] 49)) (w.heap.size + 1) (by simp) (.bool b) (.slice B m d) 49
  have hE : Ext w ((w.alloc (.cells #[.bool a, .slice A n c] 49)).alloc (.cells #[.bool b, .slice B m d] 49)) := Ext.al (Ext.al Ext.rfl' _) _
  generalize (w.alloc (.cells #[.bool a, .slice A n c] 49)).alloc (.cells #[.bool b, .slice B m d] 49) = w2 at *
  have L0 := Lib.hid k0
  have L1 := Lib.hid k1
  have HE2 := Lib.hid hE
  have HA := Lib.hid ha
  have HB := Lib.hid hb
  clear k0 k1 hE ha hb
  have x0 := fun y : ExtX w2.drew [] => y.cell (p := ⟨w.heap.size, 0, none⟩) L0.out.1 (by simp)
  have x1 := fun y : ExtX w2.drew [] => y.cell (p := ⟨w.heap.size, 1, none⟩) L0.out.2.1 (by simp)
  have x2 := fun y : ExtX w2.drew [] => y.cell (p := ⟨w.heap.size + 1, 0, none⟩) L1.out.1 (by simp)
  have x3 := fun y : ExtX w2.drew [] => y.cell (p := ⟨w.heap.size + 1, 1, none⟩) L1.out.2.1 (by simp)
  refine wp_region_lex (C := InX w2.drew []) (by kernel_rfl) (by kernel_rfl) (inX_self _ _) ?_
  repeat (refine wpLex_still (by rfl) ?_; go_big_quiet_step (fail); refine wpQuiet_nil ?_)
  refine wpLex_move (by rfl) (by rfl) ?_
  go_wp2_with fail
  refine (sign_any a A n c za w2.drew (HA.out.ext HE2.out.drew)).mono ?_
  rintro e w3 ⟨rfl, hb3⟩
  rw [HSA.out]
  have HB3 := Lib.hid hb3
  clear hb3
  go_wp2_with fail
  refine And.intro (inX_of_ext _ HB3.out) ?_
  repeat (refine wpLex_still (by rfl) ?_; go_big_quiet_step (fail); refine wpQuiet_nil ?_)
  refine wpLex_move (by rfl) (by rfl) ?_
  go_wp2_with fail
  refine (sign_any b B m d zb w3 ((HB.out.ext HE2.out.drew).ext HB3.out)).mono ?_
  rintro e w4 ⟨rfl, hb4⟩
  rw [HSB.out]
  have HB4 : Hid (Ext w2.drew w4) := Ext.trans HB3.out hb4
  clear hb4
  go_wp2_with fail
  refine And.intro (inX_of_ext _ HB4.out) ?_
  repeat (refine wpLex_still (by rfl) ?_; go_big_quiet_step (fail); refine wpQuiet_nil ?_)
  refine wpLex_nil ?_
  clear x0 x1 x2 x3
  have hE4 : Ext w w4 := Ext.trans HE2.out.drew HB4.out
  have M0 := Lib.hid ((L0.out.ext Ext.rfl'.drew).ext HB4.out)
  have M1 := Lib.hid ((L1.out.ext Ext.rfl'.drew).ext HB4.out)
  by_cases h1 : sa < sb
  · have HR : Hid (cmpZ za zb = -1) := by unfold Hid; rw [HRES.out, if_pos h1]
    go_wp2_with fail
    go_ret
    exact ⟨ret_i64 HR.out.symm, hE4⟩
  · have hb1 : decide (sa < sb) = false := decide_eq_false h1
    by_cases h2 : sb < sa
    · have HR : Hid (cmpZ za zb = 1) := by unfold Hid; rw [HRES.out, if_neg h1, if_pos h2]
      go_wp2_with fail
      go_ret
      exact ⟨ret_i64 HR.out.symm, hE4⟩
    · have hb2 : decide (sb < sa) = false := decide_eq_false h2
      obtain ⟨xs, hx1, hx2, hx3, hzx⟩ := HA.out.ext hE4
      obtain ⟨ys, hy1, hy2, hy3, hzy⟩ := HB.out.ext hE4
      have HX := Lib.hid hx1
      have HY := Lib.hid hy1
      have HAX : Hid (za.natAbs = natOf xs) := by unfold Hid; rw [hzx, sgn_abs]
      have HAY : Hid (zb.natAbs = natOf ys) := by unfold Hid; rw [hzy, sgn_abs]
      have hlx := words_len_ge HX.out.2.1
      rw [HX.out.1] at hlx
      have hly := words_len_ge HY.out.2.1
      rw [HY.out.1] at hly
      have hlx2 : (wordsOf (natOf xs)).length ≤ maxLen := by simp only [maxLen]; omega
      have hly2 : (wordsOf (natOf ys)).length ≤ maxLen := by simp only [maxLen]; omega
      clear hx1 hy1 hzx hzy
      have x1 := fun y : ExtX w4.drew [] => y.cell (p := ⟨w.heap.size, 1, none⟩) M0.out.2.1 (by simp)
      have x3 := fun y : ExtX w4.drew [] => y.cell (p := ⟨w.heap.size + 1, 1, none⟩) M1.out.2.1 (by simp)
      by_cases h3 : sa < 0
      · have hb3 : decide (sa < 0) = true := decide_eq_true h3
        have HR : Hid (cmpZ za zb = cmpN (natOf ys) (natOf xs)) := by unfold Hid; rw [HRES.out, if_neg h1, if_neg h2, if_pos h3, HAX.out, HAY.out]
        clear h1 h2 h3
        go_wp2_with fail
        refine wp_region_lex (C := InX w4.drew []) (by kernel_rfl) (by kernel_rfl) (inX_self _ _) ?_
        repeat (refine wpLex_still (by rfl) ?_; go_big_quiet_step (fail); refine wpQuiet_nil ?_)
        refine wpLex_move (by rfl) (by rfl) ?_
        go_wp2_with fail
        refine (trim_any B m d ys w4.drew (HY.out.below Ext.rfl'.drew) hy2 hy3).mono ?_
        rintro e w5 ⟨rfl, rfl⟩
        go_wp2_with fail
        refine And.intro (inX_self _ _) ?_
        repeat (refine wpLex_still (by rfl) ?_; go_big_quiet_step (fail); refine wpQuiet_nil ?_)
        refine wpLex_move (by rfl) (by rfl) ?_
        go_wp2_with fail
        refine (trim_any A n c xs w4.drew (HX.out.below Ext.rfl'.drew) hx2 hx3).mono ?_
        rintro e w5 ⟨rfl, rfl⟩
        go_wp2_with fail
        refine And.intro (inX_self _ _) ?_
        repeat (refine wpLex_still (by rfl) ?_; go_big_quiet_step (fail); refine wpQuiet_nil ?_)
        refine wpLex_move (by rfl) (by rfl) ?_
        go_wp2_with fail
        refine (compare_ext B _ d (natOf ys) A _ c (natOf xs) w4.drew (HY.out.below Ext.rfl'.drew).trim (HX.out.below Ext.rfl'.drew).trim hly2).mono ?_
        rintro e w5 ⟨rfl, hE5⟩
        go_wp2_with fail
        refine And.intro (inX_of_ext _ hE5) ?_
        repeat (refine wpLex_still (by rfl) ?_; go_big_quiet_step (fail); refine wpQuiet_nil ?_)
        refine wpLex_nil ?_
        go_wp2_with fail
        go_ret
        exact ⟨ret_i64 HR.out.symm, Ext.trans hE4 (Ext.trans Ext.rfl'.drew hE5)⟩
      · have hb3 : decide (sa < 0) = false := decide_eq_false h3
        have HR : Hid (cmpZ za zb = cmpN (natOf xs) (natOf ys)) := by unfold Hid; rw [HRES.out, if_neg h1, if_neg h2, if_neg h3, HAX.out, HAY.out]
        clear h1 h2 h3
        go_wp2_with fail
        refine wp_region_lex (C := InX w4.drew []) (by kernel_rfl) (by kernel_rfl) (inX_self _ _) ?_
        repeat (refine wpLex_still (by rfl) ?_; go_big_quiet_step (fail); refine wpQuiet_nil ?_)
        refine wpLex_move (by rfl) (by rfl) ?_
        go_wp2_with fail
        refine (trim_any A n c xs w4.drew (HX.out.below Ext.rfl'.drew) hx2 hx3).mono ?_
        rintro e w5 ⟨rfl, rfl⟩
        go_wp2_with fail
        refine And.intro (inX_self _ _) ?_
        repeat (refine wpLex_still (by rfl) ?_; go_big_quiet_step (fail); refine wpQuiet_nil ?_)
        refine wpLex_move (by rfl) (by rfl) ?_
        go_wp2_with fail
        refine (trim_any B m d ys w4.drew (HY.out.below Ext.rfl'.drew) hy2 hy3).mono ?_
        rintro e w5 ⟨rfl, rfl⟩
        go_wp2_with fail
        refine And.intro (inX_self _ _) ?_
        repeat (refine wpLex_still (by rfl) ?_; go_big_quiet_step (fail); refine wpQuiet_nil ?_)
        refine wpLex_move (by rfl) (by rfl) ?_
        go_wp2_with fail
        refine (compare_ext A _ c (natOf xs) B _ d (natOf ys) w4.drew (HX.out.below Ext.rfl'.drew).trim (HY.out.below Ext.rfl'.drew).trim hlx2).mono ?_
        rintro e w5 ⟨rfl, hE5⟩
        go_wp2_with fail
        refine And.intro (inX_of_ext _ hE5) ?_
        repeat (refine wpLex_still (by rfl) ?_; go_big_quiet_step (fail); refine wpQuiet_nil ?_)
        refine wpLex_nil ?_
        go_wp2_with fail
        go_ret
        exact ⟨ret_i64 HR.out.symm, Ext.trans hE4 (Ext.trans Ext.rfl'.drew hE5)⟩
end Go.Proofs.YtnofbjcikfofgaaGreat
