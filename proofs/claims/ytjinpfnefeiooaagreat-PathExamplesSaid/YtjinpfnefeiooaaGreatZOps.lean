/- A part of the proof. -/
import Derived.Test.YtjinpfnefeiooaaGreatSum
import Derived.Test.YtjinpfnefeiooaaGreatBits
import Derived.Test.YtjinpfnefeiooaaGreatWordsC
namespace Go.Proofs.YtjinpfnefeiooaaGreat
open Go.RowKit

theorem i64B_r {z : Int} (h : i64B z = true) : I64r z := by unfold i64B at h; unfold I64r; exact of_decide_eq_true h
theorem r_i64B {z : Int} (h : I64r z) : i64B z = true := by unfold I64r at h; unfold i64B; exact decide_eq_true h
theorem box3 (w : World) (v0 v1 u0 u1 r0 r1 : Value) (t : TypeId) :
  Cell2 (((w.alloc (.cells #[v0, v1] t)).alloc (.cells #[u0, u1] t)).alloc (.cells #[r0, r1] t)) w.heap.size v0 v1 ∧ Cell2 (((w.alloc (.cells #[v0, v1] t)).alloc (.cells #[u0, u1] t)).alloc (.cells #[r0, r1] t)) (w.heap.size + 1) u0 u1 ∧
  Cell2 (((w.alloc (.cells #[v0, v1] t)).alloc (.cells #[u0, u1] t)).alloc (.cells #[r0, r1] t)) (w.heap.size + 1 + 1) r0 r1 ∧ Ext w (((w.alloc (.cells #[v0, v1] t)).alloc (.cells #[u0, u1] t)).alloc (.cells #[r0, r1] t)) :=
 ⟨((Cell2.new w _ rfl v0 v1 t).ext (Ext.al Ext.rfl' _)).ext (Ext.al Ext.rfl' _), (Cell2.new _ _ (by simp) u0 u1 t).ext (Ext.al Ext.rfl' _), Cell2.new _ _ (by simp) r0 r1 t, Ext.al (Ext.al (Ext.al Ext.rfl' _) _) _⟩
set_option maxRecDepth 100000 in
set_option maxHeartbeats 4000000 in
theorem add_any (a : Bool) (A : Option Addr) (n c : Nat) (za : Int) (b : Bool) (B : Option Addr) (m d : Nat) (zb : Int) (w : World) (ha : ZIs w a A n c za) (hb : ZIs w b B m d zb) (hn : n ≤ 1073741824) (hm : m ≤ 1073741824) :
  Calls Tryz.prog 112 #[.agg #[.bool a, .slice A n c], .agg #[.bool b, .slice B m d]] w (RetZ w (za + zb)) := by
 go_enter Tryz.func112, Tryz.ntmps112
 go_wp2_with fail
 obtain ⟨k0, k1, k2, hE⟩ := box3 w (.bool a) (.slice A n c) (.bool b) (.slice B m d) (.bool false) (.slice none 0 0) 27
 generalize ((w.alloc (.cells #[.bool a, .slice A n c] 27)).alloc (.cells #[.bool b, .slice B m d] 27)).alloc (.cells #[.bool false, .slice none 0 0] 27) = W at *
 refine (int64_any a A n c za W (ha.ext hE)).mono ?_
 rintro e w1 ⟨rfl, hb1⟩
 obtain ⟨a0, a1, _, _, _⟩ := k1.ext hb1
 have K0 := LH (k0.ext hb1)
 have K1 := LH (k1.ext hb1)
 have K2 := LH (k2.ext hb1)
 have HE1 := LH (ET hE hb1)
 clear k0 k1 k2 hb1
 go_wp2_with fail
 refine (int64_any b B m d zb w1 (hb.ext HE1.out)).mono ?_
 rintro e w2 ⟨rfl, hb2⟩
 have L0 := LH (K0.out.ext hb2)
 have L1 := LH (K1.out.ext hb2)
 have L2 := LH (K2.out.ext hb2)
 have HE2 := LH (ET HE1.out hb2)
 clear a0 a1 K0 K1 K2 hb2 HE1
 have hrz : w.heap.size + 1 + 1 < w2.heap.size := L2.out.2.2.2.2
 by_cases hf : (i64B za && i64B zb) = true ∧ i64B (za + zb) = true
 ·obtain ⟨hf1, hf2⟩ := hf
  simp only [Bool.and_eq_true] at hf1
  have ra := i64B_r hf1.1
  have rb := i64B_r hf1.2
  have rs := i64B_r hf2
  have ea : i64V za = za := by unfold i64V; rw [hf1.1]; rfl
  have eb : i64V zb = zb := by unfold i64V; rw [hf1.2]; rfl
  have hov := (add_over ra rb).2 rs
  rw [wrap64_of rs] at hov
  have hovb := decide_eq_true hov
  rw [hf1.1, hf1.2, ea, eb]
  obtain ⟨r1, r2⟩ := ra
  obtain ⟨r3, r4⟩ := rb
  obtain ⟨r5, r6⟩ := rs
  have HRS : Hid (I64r (za + zb)) := ⟨r5, r6⟩
  clear hf1 hf2 ea eb
  go_wp2_with fail
  refine (fromInt_any _ w2 HRS.out).mono ?_
  rintro e w3 ⟨b', A', n', c', rfl, hz, hb3⟩
  have HZ := LH hz
  have HB := LH hb3
  clear hz hb3
  obtain ⟨e0, e1, f0, f1, hrl⟩ := L2.out.ext HB.out
  go_wp2_with fail
  refine bodyPost_ret (v := .agg #[.bool b', .slice A' n' c']) (by simp [results, Tryz.results112, go_sem, e0, e1]) rfl ?_
  exact ⟨_, _, _, _, rfl, retZ_fill (by omega) hrz HZ.out (ET HE2.out HB.out) _ _⟩
 ·obtain ⟨xs, hx1, hx2, hx3, hzx⟩ := ha.ext HE2.out
  obtain ⟨ys, hy1, hy2, hy3, hzy⟩ := hb.ext HE2.out
  have HX := LH hx1
  have HY := LH hy1
  have HSUM : Hid (sgn a (natOf xs) + sgn b (natOf ys) = za + zb) := by unfold Hid; rw [hzx, hzy]
  clear hzx hzy hx1 hy1 ha hb
  have slow : ∀ (w3 : World), Ext w2 w3 → True := fun _ _ => trivial
  have hlx := words_len_ge HX.out.2.1
  rw [HX.out.1] at hlx
  have hly := words_len_ge HY.out.2.1
  rw [HY.out.1] at hly
  have x0 := fun y : ExtX w2.drew [] => y.cell (p := ⟨w.heap.size, 0, none⟩) L0.out.1 (by simp)
  have x1 := fun y : ExtX w2.drew [] => y.cell (p := ⟨w.heap.size, 1, none⟩) L0.out.2.1 (by simp)
  have x2 := fun y : ExtX w2.drew [] => y.cell (p := ⟨w.heap.size + 1, 0, none⟩) L1.out.1 (by simp)
  have x3 := fun y : ExtX w2.drew [] => y.cell (p := ⟨w.heap.size + 1, 1, none⟩) L1.out.2.1 (by simp)
  have htests : (i64B za && i64B zb) = false ∨ ((i64B za && i64B zb) = true ∧ decide (0 ≤ bits .and .i64 (bits .xor .i64 (i64V za) (wrap64 (i64V za + i64V zb))) (bits .xor .i64 (i64V zb) (wrap64 (i64V za + i64V zb)))) = false) := by
   cases hab : (i64B za && i64B zb) with
   | false => exact .inl rfl
   | true =>
    refine .inr ⟨rfl, ?_⟩
    have h1 := Bool.and_eq_true_iff.1 hab
    have ea : i64V za = za := by unfold i64V; rw [h1.1]; rfl
    have eb : i64V zb = zb := by unfold i64V; rw [h1.2]; rfl
    rw [ea, eb]
    apply decide_eq_false
    rw [add_over (i64B_r h1.1) (i64B_r h1.2)]
    intro hr
    exact hf ⟨hab, r_i64B hr⟩
  clear hf slow
  have tail : ∀ (P : Prop), P → P := fun _ h => h
  clear tail
  rcases htests with ht | ⟨ht, ho⟩
  ·cases hia : i64B za
   ·go_wp2_with fail
    refine wp_region_lex (C := InX w2.drew []) (by kernel_rfl) (by kernel_rfl) (inX_self _ _) ?_
    repeat (refine wpLex_still (by rfl) ?_; go_big_quiet_step (fail); refine wpQuiet_nil ?_)
    refine wpLex_move (by rfl) (by rfl) ?_
    go_wp2_with fail
    refine (trim_any A n c xs w2.drew (HX.out.below Ext.rfl'.drew) hx2 hx3).mono ?_
    rintro e w3 ⟨rfl, rfl⟩
    go_wp2_with fail
    refine And.intro (inX_self _ _) ?_
    repeat (refine wpLex_still (by rfl) ?_; go_big_quiet_step (fail); refine wpQuiet_nil ?_)
    refine wpLex_move (by rfl) (by rfl) ?_
    go_wp2_with fail
    refine (trim_any B m d ys w2.drew (HY.out.below Ext.rfl'.drew) hy2 hy3).mono ?_
    rintro e w3 ⟨rfl, rfl⟩
    go_wp2_with fail
    refine And.intro (inX_self _ _) ?_
    repeat (refine wpLex_still (by rfl) ?_; go_big_quiet_step (fail); refine wpQuiet_nil ?_)
    refine wpLex_move (by rfl) (by rfl) ?_
    go_wp2_with fail
    refine (signedSum_any a A _ c (natOf xs) b B _ d (natOf ys) w2.drew (HX.out.below Ext.rfl'.drew).trim (HY.out.below Ext.rfl'.drew).trim (Nat.le_trans hlx hn) (Nat.le_trans hly hm)).mono ?_
    rintro e w3 ⟨b', A', n', c', rfl, hz, hb3⟩
    rw [HSUM.out] at hz
    have HZ := LH hz
    have HB := LH (ET Ext.rfl'.drew hb3)
    have HB0 := LH hb3
    clear hz hb3
    go_wp2_with fail
    refine And.intro (inX_of_ext _ HB0.out) ?_
    obtain ⟨e0, e1, f0, f1, hrl⟩ := L2.out.ext HB.out
    refine wpLex_last (by rfl) (by kernel_rfl) (by rfl) ?_
    go_wp2_with fail
    refine And.intro trivial (wpLex_nil ?_)
    go_wp2_with fail
    refine bodyPost_ret (v := .agg #[.bool b', .slice A' n' c']) (by simp [results, Tryz.results112, go_sem, e0, e1]) rfl ?_
    exact ⟨_, _, _, _, rfl, retZ_fill (by omega) hrz HZ.out (ET HE2.out HB.out) _ _⟩
   ·rw [hia, Bool.true_and] at ht
    rw [ht]
    go_wp2_with fail
    refine wp_region_lex (C := InX w2.drew []) (by kernel_rfl) (by kernel_rfl) (inX_self _ _) ?_
    repeat (refine wpLex_still (by rfl) ?_; go_big_quiet_step (fail); refine wpQuiet_nil ?_)
    refine wpLex_move (by rfl) (by rfl) ?_
    go_wp2_with fail
    refine (trim_any A n c xs w2.drew (HX.out.below Ext.rfl'.drew) hx2 hx3).mono ?_
    rintro e w3 ⟨rfl, rfl⟩
    go_wp2_with fail
    refine And.intro (inX_self _ _) ?_
    repeat (refine wpLex_still (by rfl) ?_; go_big_quiet_step (fail); refine wpQuiet_nil ?_)
    refine wpLex_move (by rfl) (by rfl) ?_
    go_wp2_with fail
    refine (trim_any B m d ys w2.drew (HY.out.below Ext.rfl'.drew) hy2 hy3).mono ?_
    rintro e w3 ⟨rfl, rfl⟩
    go_wp2_with fail
    refine And.intro (inX_self _ _) ?_
    repeat (refine wpLex_still (by rfl) ?_; go_big_quiet_step (fail); refine wpQuiet_nil ?_)
    refine wpLex_move (by rfl) (by rfl) ?_
    go_wp2_with fail
    refine (signedSum_any a A _ c (natOf xs) b B _ d (natOf ys) w2.drew (HX.out.below Ext.rfl'.drew).trim (HY.out.below Ext.rfl'.drew).trim (Nat.le_trans hlx hn) (Nat.le_trans hly hm)).mono ?_
    rintro e w3 ⟨b', A', n', c', rfl, hz, hb3⟩
    rw [HSUM.out] at hz
    have HZ := LH hz
    have HB := LH (ET Ext.rfl'.drew hb3)
    have HB0 := LH hb3
    clear hz hb3
    go_wp2_with fail
    refine And.intro (inX_of_ext _ HB0.out) ?_
    obtain ⟨e0, e1, f0, f1, hrl⟩ := L2.out.ext HB.out
    refine wpLex_last (by rfl) (by kernel_rfl) (by rfl) ?_
    go_wp2_with fail
    refine And.intro trivial (wpLex_nil ?_)
    go_wp2_with fail
    refine bodyPost_ret (v := .agg #[.bool b', .slice A' n' c']) (by simp [results, Tryz.results112, go_sem, e0, e1]) rfl ?_
    exact ⟨_, _, _, _, rfl, retZ_fill (by omega) hrz HZ.out (ET HE2.out HB.out) _ _⟩
  ·have h1 := Bool.and_eq_true_iff.1 ht
   rw [h1.1, h1.2]
   clear ht h1
   generalize i64V za = va at *
   generalize i64V zb = vb at *
   go_wp2_with fail
   refine wp_region_lex (C := InX w2.drew []) (by kernel_rfl) (by kernel_rfl) (inX_self _ _) ?_
   repeat (refine wpLex_still (by rfl) ?_; go_big_quiet_step (fail); refine wpQuiet_nil ?_)
   refine wpLex_move (by rfl) (by rfl) ?_
   go_wp2_with fail
   refine (trim_any A n c xs w2.drew (HX.out.below Ext.rfl'.drew) hx2 hx3).mono ?_
   rintro e w3 ⟨rfl, rfl⟩
   go_wp2_with fail
   refine And.intro (inX_self _ _) ?_
   repeat (refine wpLex_still (by rfl) ?_; go_big_quiet_step (fail); refine wpQuiet_nil ?_)
   refine wpLex_move (by rfl) (by rfl) ?_
   go_wp2_with fail
   refine (trim_any B m d ys w2.drew (HY.out.below Ext.rfl'.drew) hy2 hy3).mono ?_
   rintro e w3 ⟨rfl, rfl⟩
   go_wp2_with fail
   refine And.intro (inX_self _ _) ?_
   repeat (refine wpLex_still (by rfl) ?_; go_big_quiet_step (fail); refine wpQuiet_nil ?_)
   refine wpLex_move (by rfl) (by rfl) ?_
   go_wp2_with fail
   refine (signedSum_any a A _ c (natOf xs) b B _ d (natOf ys) w2.drew (HX.out.below Ext.rfl'.drew).trim (HY.out.below Ext.rfl'.drew).trim (Nat.le_trans hlx hn) (Nat.le_trans hly hm)).mono ?_
   rintro e w3 ⟨b', A', n', c', rfl, hz, hb3⟩
   rw [HSUM.out] at hz
   have HZ := LH hz
   have HB := LH (ET Ext.rfl'.drew hb3)
   have HB0 := LH hb3
   clear hz hb3
   go_wp2_with fail
   refine And.intro (inX_of_ext _ HB0.out) ?_
   obtain ⟨e0, e1, f0, f1, hrl⟩ := L2.out.ext HB.out
   refine wpLex_last (by rfl) (by kernel_rfl) (by rfl) ?_
   go_wp2_with fail
   refine And.intro trivial (wpLex_nil ?_)
   go_wp2_with fail
   refine bodyPost_ret (v := .agg #[.bool b', .slice A' n' c']) (by simp [results, Tryz.results112, go_sem, e0, e1]) rfl ?_
   exact ⟨_, _, _, _, rfl, retZ_fill (by omega) hrz HZ.out (ET HE2.out HB.out) _ _⟩
set_option maxRecDepth 100000 in
set_option maxHeartbeats 4000000 in
theorem sub_any (a : Bool) (A : Option Addr) (n c : Nat) (za : Int) (b : Bool) (B : Option Addr) (m d : Nat) (zb : Int) (w : World) (ha : ZIs w a A n c za) (hb : ZIs w b B m d zb) (hn : n ≤ 1073741824) (hm : m ≤ 1073741824) :
  Calls Tryz.prog 114 #[.agg #[.bool a, .slice A n c], .agg #[.bool b, .slice B m d]] w (RetZ w (za - zb)) := by
 go_enter Tryz.func114, Tryz.ntmps114
 go_wp2_with fail
 obtain ⟨k0, k1, k2, hE⟩ := box3 w (.bool a) (.slice A n c) (.bool b) (.slice B m d) (.bool false) (.slice none 0 0) 27
 generalize ((w.alloc (.cells #[.bool a, .slice A n c] 27)).alloc (.cells #[.bool b, .slice B m d] 27)).alloc (.cells #[.bool false, .slice none 0 0] 27) = W at *
 refine (int64_any a A n c za W (ha.ext hE)).mono ?_
 rintro e w1 ⟨rfl, hb1⟩
 obtain ⟨a0, a1, _, _, _⟩ := k1.ext hb1
 have K0 := LH (k0.ext hb1)
 have K1 := LH (k1.ext hb1)
 have K2 := LH (k2.ext hb1)
 have HE1 := LH (ET hE hb1)
 clear k0 k1 k2 hb1
 go_wp2_with fail
 refine (int64_any b B m d zb w1 (hb.ext HE1.out)).mono ?_
 rintro e w2 ⟨rfl, hb2⟩
 have L0 := LH (K0.out.ext hb2)
 have L1 := LH (K1.out.ext hb2)
 have L2 := LH (K2.out.ext hb2)
 have HE2 := LH (ET HE1.out hb2)
 clear a0 a1 K0 K1 K2 hb2 HE1
 have hrz : w.heap.size + 1 + 1 < w2.heap.size := L2.out.2.2.2.2
 by_cases hf : (i64B za && i64B zb) = true ∧ i64B (za - zb) = true
 ·obtain ⟨hf1, hf2⟩ := hf
  simp only [Bool.and_eq_true] at hf1
  have ra := i64B_r hf1.1
  have rb := i64B_r hf1.2
  have rs := i64B_r hf2
  have ea : i64V za = za := by unfold i64V; rw [hf1.1]; rfl
  have eb : i64V zb = zb := by unfold i64V; rw [hf1.2]; rfl
  have hov := (sub_over ra rb).2 rs
  rw [wrap64_of rs] at hov
  have hovb := decide_eq_true hov
  rw [hf1.1, hf1.2, ea, eb]
  obtain ⟨r1, r2⟩ := ra
  obtain ⟨r3, r4⟩ := rb
  obtain ⟨r5, r6⟩ := rs
  have HRS : Hid (I64r (za - zb)) := ⟨r5, r6⟩
  clear hf1 hf2 ea eb
  go_wp2_with fail
  refine (fromInt_any _ w2 HRS.out).mono ?_
  rintro e w3 ⟨b', A', n', c', rfl, hz, hb3⟩
  have HZ := LH hz
  have HB := LH hb3
  clear hz hb3
  obtain ⟨e0, e1, f0, f1, hrl⟩ := L2.out.ext HB.out
  go_wp2_with fail
  refine bodyPost_ret (v := .agg #[.bool b', .slice A' n' c']) (by simp [results, Tryz.results114, go_sem, e0, e1]) rfl ?_
  exact ⟨_, _, _, _, rfl, retZ_fill (by omega) hrz HZ.out (ET HE2.out HB.out) _ _⟩
 ·obtain ⟨xs, hx1, hx2, hx3, hzx⟩ := ha.ext HE2.out
  obtain ⟨ys, hy1, hy2, hy3, hzy⟩ := hb.ext HE2.out
  have HX := LH hx1
  have HY := LH hy1
  have HSUM : Hid (sgn a (natOf xs) + sgn (!b) (natOf ys) = za - zb) := by unfold Hid; rw [hzx, hzy]; unfold sgn; cases b <;> simp <;> omega
  clear hzx hzy hx1 hy1 ha hb
  have slow : ∀ (w3 : World), Ext w2 w3 → True := fun _ _ => trivial
  have hlx := words_len_ge HX.out.2.1
  rw [HX.out.1] at hlx
  have hly := words_len_ge HY.out.2.1
  rw [HY.out.1] at hly
  have x0 := fun y : ExtX w2.drew [] => y.cell (p := ⟨w.heap.size, 0, none⟩) L0.out.1 (by simp)
  have x1 := fun y : ExtX w2.drew [] => y.cell (p := ⟨w.heap.size, 1, none⟩) L0.out.2.1 (by simp)
  have x2 := fun y : ExtX w2.drew [] => y.cell (p := ⟨w.heap.size + 1, 0, none⟩) L1.out.1 (by simp)
  have x3 := fun y : ExtX w2.drew [] => y.cell (p := ⟨w.heap.size + 1, 1, none⟩) L1.out.2.1 (by simp)
  have htests : (i64B za && i64B zb) = false ∨ ((i64B za && i64B zb) = true ∧ decide (0 ≤ bits .and .i64 (bits .xor .i64 (i64V za) (i64V zb)) (bits .xor .i64 (i64V za) (wrap64 (i64V za - i64V zb)))) = false) := by
   cases hab : (i64B za && i64B zb) with
   | false => exact .inl rfl
   | true =>
    refine .inr ⟨rfl, ?_⟩
    have h1 := Bool.and_eq_true_iff.1 hab
    have ea : i64V za = za := by unfold i64V; rw [h1.1]; rfl
    have eb : i64V zb = zb := by unfold i64V; rw [h1.2]; rfl
    rw [ea, eb]
    apply decide_eq_false
    rw [sub_over (i64B_r h1.1) (i64B_r h1.2)]
    intro hr
    exact hf ⟨hab, r_i64B hr⟩
  clear hf slow
  have tail : ∀ (P : Prop), P → P := fun _ h => h
  clear tail
  rcases htests with ht | ⟨ht, ho⟩
  ·cases hia : i64B za
   ·go_wp2_with fail
    refine wp_region_lex (C := InX w2.drew []) (by kernel_rfl) (by kernel_rfl) (inX_self _ _) ?_
    repeat (refine wpLex_still (by rfl) ?_; go_big_quiet_step (fail); refine wpQuiet_nil ?_)
    refine wpLex_move (by rfl) (by rfl) ?_
    go_wp2_with fail
    refine (trim_any A n c xs w2.drew (HX.out.below Ext.rfl'.drew) hx2 hx3).mono ?_
    rintro e w3 ⟨rfl, rfl⟩
    go_wp2_with fail
    refine And.intro (inX_self _ _) ?_
    repeat (refine wpLex_still (by rfl) ?_; go_big_quiet_step (fail); refine wpQuiet_nil ?_)
    refine wpLex_move (by rfl) (by rfl) ?_
    go_wp2_with fail
    refine (trim_any B m d ys w2.drew (HY.out.below Ext.rfl'.drew) hy2 hy3).mono ?_
    rintro e w3 ⟨rfl, rfl⟩
    go_wp2_with fail
    refine And.intro (inX_self _ _) ?_
    repeat (refine wpLex_still (by rfl) ?_; go_big_quiet_step (fail); refine wpQuiet_nil ?_)
    refine wpLex_move (by rfl) (by rfl) ?_
    go_wp2_with fail
    refine (signedSum_any a A _ c (natOf xs) (!b) B _ d (natOf ys) w2.drew (HX.out.below Ext.rfl'.drew).trim (HY.out.below Ext.rfl'.drew).trim (Nat.le_trans hlx hn) (Nat.le_trans hly hm)).mono ?_
    rintro e w3 ⟨b', A', n', c', rfl, hz, hb3⟩
    rw [HSUM.out] at hz
    have HZ := LH hz
    have HB := LH (ET Ext.rfl'.drew hb3)
    have HB0 := LH hb3
    clear hz hb3
    go_wp2_with fail
    refine And.intro (inX_of_ext _ HB0.out) ?_
    obtain ⟨e0, e1, f0, f1, hrl⟩ := L2.out.ext HB.out
    refine wpLex_last (by rfl) (by kernel_rfl) (by rfl) ?_
    go_wp2_with fail
    refine And.intro trivial (wpLex_nil ?_)
    go_wp2_with fail
    refine bodyPost_ret (v := .agg #[.bool b', .slice A' n' c']) (by simp [results, Tryz.results114, go_sem, e0, e1]) rfl ?_
    exact ⟨_, _, _, _, rfl, retZ_fill (by omega) hrz HZ.out (ET HE2.out HB.out) _ _⟩
   ·rw [hia, Bool.true_and] at ht
    rw [ht]
    go_wp2_with fail
    refine wp_region_lex (C := InX w2.drew []) (by kernel_rfl) (by kernel_rfl) (inX_self _ _) ?_
    repeat (refine wpLex_still (by rfl) ?_; go_big_quiet_step (fail); refine wpQuiet_nil ?_)
    refine wpLex_move (by rfl) (by rfl) ?_
    go_wp2_with fail
    refine (trim_any A n c xs w2.drew (HX.out.below Ext.rfl'.drew) hx2 hx3).mono ?_
    rintro e w3 ⟨rfl, rfl⟩
    go_wp2_with fail
    refine And.intro (inX_self _ _) ?_
    repeat (refine wpLex_still (by rfl) ?_; go_big_quiet_step (fail); refine wpQuiet_nil ?_)
    refine wpLex_move (by rfl) (by rfl) ?_
    go_wp2_with fail
    refine (trim_any B m d ys w2.drew (HY.out.below Ext.rfl'.drew) hy2 hy3).mono ?_
    rintro e w3 ⟨rfl, rfl⟩
    go_wp2_with fail
    refine And.intro (inX_self _ _) ?_
    repeat (refine wpLex_still (by rfl) ?_; go_big_quiet_step (fail); refine wpQuiet_nil ?_)
    refine wpLex_move (by rfl) (by rfl) ?_
    go_wp2_with fail
    refine (signedSum_any a A _ c (natOf xs) (!b) B _ d (natOf ys) w2.drew (HX.out.below Ext.rfl'.drew).trim (HY.out.below Ext.rfl'.drew).trim (Nat.le_trans hlx hn) (Nat.le_trans hly hm)).mono ?_
    rintro e w3 ⟨b', A', n', c', rfl, hz, hb3⟩
    rw [HSUM.out] at hz
    have HZ := LH hz
    have HB := LH (ET Ext.rfl'.drew hb3)
    have HB0 := LH hb3
    clear hz hb3
    go_wp2_with fail
    refine And.intro (inX_of_ext _ HB0.out) ?_
    obtain ⟨e0, e1, f0, f1, hrl⟩ := L2.out.ext HB.out
    refine wpLex_last (by rfl) (by kernel_rfl) (by rfl) ?_
    go_wp2_with fail
    refine And.intro trivial (wpLex_nil ?_)
    go_wp2_with fail
    refine bodyPost_ret (v := .agg #[.bool b', .slice A' n' c']) (by simp [results, Tryz.results114, go_sem, e0, e1]) rfl ?_
    exact ⟨_, _, _, _, rfl, retZ_fill (by omega) hrz HZ.out (ET HE2.out HB.out) _ _⟩
  ·have h1 := Bool.and_eq_true_iff.1 ht
   rw [h1.1, h1.2]
   clear ht h1
   generalize i64V za = va at *
   generalize i64V zb = vb at *
   go_wp2_with fail
   refine wp_region_lex (C := InX w2.drew []) (by kernel_rfl) (by kernel_rfl) (inX_self _ _) ?_
   repeat (refine wpLex_still (by rfl) ?_; go_big_quiet_step (fail); refine wpQuiet_nil ?_)
   refine wpLex_move (by rfl) (by rfl) ?_
   go_wp2_with fail
   refine (trim_any A n c xs w2.drew (HX.out.below Ext.rfl'.drew) hx2 hx3).mono ?_
   rintro e w3 ⟨rfl, rfl⟩
   go_wp2_with fail
   refine And.intro (inX_self _ _) ?_
   repeat (refine wpLex_still (by rfl) ?_; go_big_quiet_step (fail); refine wpQuiet_nil ?_)
   refine wpLex_move (by rfl) (by rfl) ?_
   go_wp2_with fail
   refine (trim_any B m d ys w2.drew (HY.out.below Ext.rfl'.drew) hy2 hy3).mono ?_
   rintro e w3 ⟨rfl, rfl⟩
   go_wp2_with fail
   refine And.intro (inX_self _ _) ?_
   repeat (refine wpLex_still (by rfl) ?_; go_big_quiet_step (fail); refine wpQuiet_nil ?_)
   refine wpLex_move (by rfl) (by rfl) ?_
   go_wp2_with fail
   refine (signedSum_any a A _ c (natOf xs) (!b) B _ d (natOf ys) w2.drew (HX.out.below Ext.rfl'.drew).trim (HY.out.below Ext.rfl'.drew).trim (Nat.le_trans hlx hn) (Nat.le_trans hly hm)).mono ?_
   rintro e w3 ⟨b', A', n', c', rfl, hz, hb3⟩
   rw [HSUM.out] at hz
   have HZ := LH hz
   have HB := LH (ET Ext.rfl'.drew hb3)
   have HB0 := LH hb3
   clear hz hb3
   go_wp2_with fail
   refine And.intro (inX_of_ext _ HB0.out) ?_
   obtain ⟨e0, e1, f0, f1, hrl⟩ := L2.out.ext HB.out
   refine wpLex_last (by rfl) (by kernel_rfl) (by rfl) ?_
   go_wp2_with fail
   refine And.intro trivial (wpLex_nil ?_)
   go_wp2_with fail
   refine bodyPost_ret (v := .agg #[.bool b', .slice A' n' c']) (by simp [results, Tryz.results114, go_sem, e0, e1]) rfl ?_
   exact ⟨_, _, _, _, rfl, retZ_fill (by omega) hrz HZ.out (ET HE2.out HB.out) _ _⟩
end Go.Proofs.YtjinpfnefeiooaaGreat
namespace Go.Proofs.YtjinpfnefeiooaaGreat
open Go.RowKit

theorem sgn_mul (a b : Bool) (x y : Nat) : sgn (a != b) (x * y) = sgn a x * sgn b y := by
 unfold sgn
 cases a <;> cases b <;> simp [Int.neg_mul, Int.mul_neg]
def cmpZ (a b : Int) : Int := if a < b then -1 else if b < a then 1 else 0
theorem sign_cases (z : Int) : (z < 0 ∧ z.sign = -1) ∨ (z = 0 ∧ z.sign = 0) ∨ (0 < z ∧ z.sign = 1) := by
 rcases Int.lt_trichotomy z 0 with h | h | h
 ·exact .inl ⟨h, Int.sign_eq_neg_one_of_neg h⟩
 ·exact .inr (.inl ⟨h, by rw [h]; rfl⟩)
 ·exact .inr (.inr ⟨h, Int.sign_eq_one_of_pos h⟩)
theorem cmpZ_signs (za zb : Int) : cmpZ za zb = if za.sign < zb.sign then -1 else if zb.sign < za.sign then 1 else if za.sign < 0 then cmpN zb.natAbs za.natAbs else cmpN za.natAbs zb.natAbs := by
 rcases sign_cases za with ⟨h1, s1⟩ | ⟨h1, s1⟩ | ⟨h1, s1⟩ <;> rcases sign_cases zb with ⟨h2, s2⟩ | ⟨h2, s2⟩ | ⟨h2, s2⟩ <;> rw [s1, s2] <;> unfold cmpZ cmpN <;> (repeat' split) <;> omega
theorem low_ext (A : Option Addr) (n c : Nat) (xs : List Nat) (w : World) (h : WordsAt w A n xs) (hn : n ≤ 2) :
  Calls Tryz.prog 110 #[.slice A n c] w fun e w' => e = .returned (.int .u64 (natOf xs : Nat)) ∧ Ext w w' :=
 (low_any A n c xs w h hn).mono fun _ _ ⟨he, k, hk⟩ => ⟨he, by rw [hk]; exact below_drewN Ext.rfl' _⟩
theorem compare_ext (A : Option Addr) (n c : Nat) (a : Nat) (B : Option Addr) (m d : Nat) (b : Nat) (w : World) (hx : WordsAt w A n (wordsOf a)) (hy : WordsAt w B m (wordsOf b)) (hn : n ≤ maxLen) :
  Calls Tryz.prog 123 #[.slice A n c, .slice B m d] w fun e w' => e = .returned (.int .i64 (cmpN a b)) ∧ Ext w w' :=
 (compare_any A n c a B m d b w hx hy hn).mono fun _ _ ⟨he, k, hk⟩ => ⟨he, by rw [hk]; exact below_drewN Ext.rfl' _⟩
end Go.Proofs.YtjinpfnefeiooaaGreat
namespace Go.Proofs.YtjinpfnefeiooaaGreat
open Go.RowKit

set_option maxRecDepth 100000 in
set_option maxHeartbeats 2000000 in
theorem mul_any (a : Bool) (A : Option Addr) (n c : Nat) (za : Int) (b : Bool) (B : Option Addr) (m d : Nat) (zb : Int) (w : World) (ha : ZIs w a A n c za) (hb : ZIs w b B m d zb) (hn : n ≤ 1073741824) (hm : m ≤ 1073741824) :
  Calls Tryz.prog 95 #[.agg #[.bool a, .slice A n c], .agg #[.bool b, .slice B m d]] w (RetZ w (za * zb)) := by
 go_enter Tryz.func95, Tryz.ntmps95
 go_wp2_with fail
 obtain ⟨k0, k1, k2, hE⟩ := box3 w (.bool a) (.slice A n c) (.bool b) (.slice B m d) (.bool false) (.slice none 0 0) 27
 generalize ((w.alloc (.cells #[.bool a, .slice A n c] 27)).alloc (.cells #[.bool b, .slice B m d] 27)).alloc (.cells #[.bool false, .slice none 0 0] 27) = w2 at *
 have L2 := LH k2
 have HE2 := LH hE
 have hrz : w.heap.size + 1 + 1 < w2.heap.size := k2.2.2.2.2
 obtain ⟨xs, hx1, hx2, hx3, hzx⟩ := ha.ext hE
 obtain ⟨ys, hy1, hy2, hy3, hzy⟩ := hb.ext hE
 have HX := LH hx1
 have HY := LH hy1
 have HPRO : Hid (sgn (a != b) (natOf xs * natOf ys) = za * zb) := by unfold Hid; rw [hzx, hzy, sgn_mul]
 have L0 := LH k0
 have L1 := LH k1
 clear hzx hzy hx1 hy1 ha hb k2 hE k0 k1
 have hlx := words_len_ge HX.out.2.1
 rw [HX.out.1] at hlx
 have hly := words_len_ge HY.out.2.1
 rw [HY.out.1] at hly
 have x0 := fun y : ExtX w2.drew [] => y.cell (p := ⟨w.heap.size, 1, none⟩) L0.out.2.1 (by simp)
 have x1 := fun y : ExtX w2.drew [] => y.cell (p := ⟨w.heap.size + 1, 1, none⟩) L1.out.2.1 (by simp)
 refine wp_region_lex (C := InX w2.drew []) (by kernel_rfl) (by kernel_rfl) (inX_self _ _) ?_
 repeat (refine wpLex_still (by rfl) ?_; go_big_quiet_step (fail); refine wpQuiet_nil ?_)
 refine wpLex_move (by rfl) (by rfl) ?_
 go_wp2_with fail
 refine (trim_any A n c xs w2.drew (HX.out.below Ext.rfl'.drew) hx2 hx3).mono ?_
 rintro e w3 ⟨rfl, rfl⟩
 go_wp2_with fail
 refine And.intro (inX_self _ _) ?_
 repeat (refine wpLex_still (by rfl) ?_; go_big_quiet_step (fail); refine wpQuiet_nil ?_)
 refine wpLex_move (by rfl) (by rfl) ?_
 go_wp2_with fail
 refine (trim_any B m d ys w2.drew (HY.out.below Ext.rfl'.drew) hy2 hy3).mono ?_
 rintro e w3 ⟨rfl, rfl⟩
 go_wp2_with fail
 refine And.intro (inX_self _ _) ?_
 repeat (refine wpLex_still (by rfl) ?_; go_big_quiet_step (fail); refine wpQuiet_nil ?_)
 refine wpLex_nil ?_
 clear x0 x1
 have HTX := LH (HX.out.below (Ext.rfl' (w := w2)).drew).trim
 have HTY := LH (HY.out.below (Ext.rfl' (w := w2)).drew).trim
 have M0 := LH (L0.out.ext (Ext.rfl' (w := w2)).drew)
 have M1 := LH (L1.out.ext (Ext.rfl' (w := w2)).drew)
 have M2 := LH (L2.out.ext (Ext.rfl' (w := w2)).drew)
 have HE3 : Hid (Ext w w2.drew) := HE2.out.drew
 have hs3 : w2.drew.heap.size = w2.heap.size := rfl
 have hrz3 : w.heap.size + 1 + 1 < w2.drew.heap.size := hrz
 clear hs3 hrz
 generalize w2.drew = w3 at *
 clear HX HY L0 L1 L2 HE2
 generalize natOf xs = x at *
 generalize natOf ys = y at *
 have HLX := LH (@wordsOf_len x 1)
 have HLY := LH (@wordsOf_len y 1)
 generalize hk1 : (wordsOf x).length = k1 at *
 generalize hk2 : (wordsOf y).length = k2 at *
 clear hk1 hk2
 have x0 := fun y : ExtX w3.drew [] => y.cell (p := ⟨w.heap.size, 0, none⟩) M0.out.1 (by simp)
 have x1 := fun y : ExtX w3.drew [] => y.cell (p := ⟨w.heap.size + 1, 0, none⟩) M1.out.1 (by simp)
 by_cases hs : k1 ≤ 1 ∧ k2 ≤ 1
 ·obtain ⟨hs1, hs2⟩ := hs
  have hb1 : decide ((k1 : Int) ≤ 1) = true := by simp; omega
  have hb2 : decide ((k2 : Int) ≤ 1) = true := by simp; omega
  have hb3 : decide (k1 ≤ 1) = true := by simp; omega
  have hb4 : decide (k2 ≤ 1) = true := by simp; omega
  have hvx : x < 4294967296 := HLX.out.1 hs1
  have hvy : y < 4294967296 := HLY.out.1 hs2
  have hq1 := words_mul_le hvx hvy
  obtain ⟨q, hq⟩ : ∃ q, x * y = q := ⟨_, rfl⟩
  rw [hq] at HPRO hq1
  have hqz : (x : Int) * (y : Int) = (q : Int) := by rw [← hq]; simp
  clear hq
  go_wp2_with fail
  refine wp_region_lex (C := InX w3.drew []) (by kernel_rfl) (by kernel_rfl) (inX_self _ _) ?_
  repeat (refine wpLex_still (by rfl) ?_; go_big_quiet_step (fail); refine wpQuiet_nil ?_)
  refine wpLex_move (by rfl) (by rfl) ?_
  go_wp2_with fail
  refine (low_ext A k1 c _ w3.drew (HTX.out.below Ext.rfl'.drew) (by omega)).mono ?_
  rintro e w4 ⟨rfl, hE4⟩
  rw [natOf_wordsOf]
  go_wp2_with fail
  refine And.intro (inX_of_ext _ hE4) ?_
  repeat (refine wpLex_still (by rfl) ?_; go_big_quiet_step (fail); refine wpQuiet_nil ?_)
  refine wpLex_move (by rfl) (by rfl) ?_
  go_wp2_with fail
  refine (low_ext B k2 d _ w4 ((HTY.out.below Ext.rfl'.drew).below hE4) (by omega)).mono ?_
  rintro e w5 ⟨rfl, hE45⟩
  rw [natOf_wordsOf]
  have hE5 : Ext w3.drew w5 := ET hE4 hE45
  go_wp2_with fail
  refine And.intro (inX_of_ext _ hE5) ?_
  repeat (refine wpLex_still (by rfl) ?_; go_big_quiet_step (fail); refine wpQuiet_nil ?_)
  refine wpLex_move (by rfl) (by rfl) ?_
  go_wp2_with fail
  refine (small_any (a != b) _ q rfl w5 (by omega)).mono ?_
  rintro e w6 ⟨b', A', n', c', rfl, hz, hb3⟩
  rw [HPRO.out] at hz
  have HZ := LH (hz.base (Nat.le_trans (Nat.le_refl w3.heap.size) hE5.size))
  have HB0 : Hid (Ext w3.drew w6) := ET hE5 hb3
  have HB : Hid (Ext w3 w6) := ET Ext.rfl'.drew HB0.out
  clear hz hb3
  go_wp2_with fail
  refine And.intro (inX_of_ext _ HB0.out) ?_
  obtain ⟨e0, e1, f0, f1, hrl⟩ := M2.out.ext HB.out
  refine wpLex_last (by rfl) (by kernel_rfl) (by rfl) ?_
  go_wp2_with fail
  refine And.intro trivial (wpLex_nil ?_)
  go_wp2_with fail
  refine bodyPost_ret (v := .agg #[.bool b', .slice A' n' c']) (by simp [results, Tryz.results95, go_sem, e0, e1]) rfl ?_
  exact ⟨_, _, _, _, rfl, retZ_fill (by omega) hrz3 HZ.out (ET HE3.out HB.out) _ _⟩
 ·have hg : decide (k1 ≤ 1) = false ∨ (decide (k1 ≤ 1) = true ∧ decide (k2 ≤ 1) = false) := by
   by_cases h1 : k1 ≤ 1
   ·exact .inr ⟨by simp [h1], by simp; omega⟩
   ·exact .inl (by simp; omega)
  clear hs
  have hgi : decide ((k1 : Int) ≤ 1) = decide (k1 ≤ 1) := by apply Bool.eq_iff_iff.2; simp; omega
  have hgj : decide ((k2 : Int) ≤ 1) = decide (k2 ≤ 1) := by apply Bool.eq_iff_iff.2; simp; omega
  rcases hg with hg | ⟨hg, hg2⟩
  all_goals
   (try rw [hg] at hgi)
   (try rw [hg2] at hgj)
   go_wp2_with fail
   refine wp_region_lex (C := InX w3.drew []) (by kernel_rfl) (by kernel_rfl) (inX_self _ _) ?_
   repeat (refine wpLex_still (by rfl) ?_; go_big_quiet_step (fail); refine wpQuiet_nil ?_)
   refine wpLex_move (by rfl) (by rfl) ?_
   go_wp2_with fail
   refine (mulWords_any A k1 c _ B k2 d _ w3.drew (HTX.out.below Ext.rfl'.drew) (HTY.out.below Ext.rfl'.drew) (Nat.le_trans hlx hn) (Nat.le_trans hly hm)).mono ?_
   rintro e w4 ⟨S, rfl, hS, hN, hb4⟩
   rw [natOf_wordsOf, natOf_wordsOf] at hS
   have HSS := LH hS
   have HN := LH hN
   have HB4 := LH hb4
   clear hS hN hb4
   go_wp2_with fail
   refine And.intro (inX_of_ext _ HB4.out) ?_
   repeat (refine wpLex_still (by rfl) ?_; go_big_quiet_step (fail); refine wpQuiet_nil ?_)
   refine wpLex_move (by rfl) (by rfl) ?_
   go_wp2_with fail
   refine (build_any (a != b) _ _ _ S w4 w3.heap.size HN.out.1 HN.out.2.1 HN.out.2.2.1 HN.out.2.2.2).mono ?_
   rintro e w5 ⟨b', A', n', c', rfl, hz, hb3⟩
   rw [HSS.out, HPRO.out] at hz
   have HZ := LH hz
   have HB0 : Hid (Ext w3.drew w5) := ET HB4.out hb3
   have HB : Hid (Ext w3 w5) := ET Ext.rfl'.drew HB0.out
   clear hz hb3
   go_wp2_with fail
   refine And.intro (inX_of_ext _ HB0.out) ?_
   obtain ⟨e0, e1, f0, f1, hrl⟩ := M2.out.ext HB.out
   refine wpLex_last (by rfl) (by kernel_rfl) (by rfl) ?_
   go_wp2_with fail
   refine And.intro trivial (wpLex_nil ?_)
   go_wp2_with fail
   refine bodyPost_ret (v := .agg #[.bool b', .slice A' n' c']) (by simp [results, Tryz.results95, go_sem, e0, e1]) rfl ?_
   exact ⟨_, _, _, _, rfl, retZ_fill (by omega) hrz3 HZ.out (ET HE3.out HB.out) _ _⟩
end Go.Proofs.YtjinpfnefeiooaaGreat
namespace Go.Proofs.YtjinpfnefeiooaaGreat
open Go.RowKit

set_option maxRecDepth 100000 in
set_option maxHeartbeats 1600000 in
theorem cmp_any (a : Bool) (A : Option Addr) (n c : Nat) (za : Int) (b : Bool) (B : Option Addr) (m d : Nat) (zb : Int) (w : World) (ha : ZIs w a A n c za) (hb : ZIs w b B m d zb) (hn : n ≤ 1073741824) (hm : m ≤ 1073741824) :
  Calls Tryz.prog 94 #[.agg #[.bool a, .slice A n c], .agg #[.bool b, .slice B m d]] w fun e w' => e = .returned (.int .i64 (cmpZ za zb)) ∧ Ext w w' := by
 obtain ⟨sa, hsa⟩ : ∃ s, za.sign = s := ⟨_, rfl⟩
 obtain ⟨sb, hsb⟩ : ∃ s, zb.sign = s := ⟨_, rfl⟩
 have HRES := LH (cmpZ_signs za zb)
 rw [hsa, hsb] at HRES
 have HSA := LH hsa
 have HSB := LH hsb
 clear hsa hsb
 go_enter Tryz.func94, Tryz.ntmps94
 go_wp2_with fail
 have k0 := (Cell2.new w _ rfl (.bool a) (.slice A n c) 27).ext (Ext.al Ext.rfl' (.cells #[.bool b, .slice B m d] 27))
 have k1 := Cell2.new (w.alloc (.cells #[.bool a, .slice A n c] 27)) (w.heap.size + 1) (by simp) (.bool b) (.slice B m d) 27
 have hE : Ext w ((w.alloc (.cells #[.bool a, .slice A n c] 27)).alloc (.cells #[.bool b, .slice B m d] 27)) := Ext.al (Ext.al Ext.rfl' _) _
 generalize (w.alloc (.cells #[.bool a, .slice A n c] 27)).alloc (.cells #[.bool b, .slice B m d] 27) = w2 at *
 have L0 := LH k0
 have L1 := LH k1
 have HE2 := LH hE
 have HA := LH ha
 have HB := LH hb
 clear k0 k1 hE ha hb
 have x0 := fun y : ExtX w2.drew [] => y.cell (p := ⟨w.heap.size, 0, none⟩) L0.out.1 (by simp)
 have x1 := fun y : ExtX w2.drew [] => y.cell (p := ⟨w.heap.size, 1, none⟩) L0.out.2.1 (by simp)
 have x2 := fun y : ExtX w2.drew [] => y.cell (p := ⟨w.heap.size + 1, 0, none⟩) L1.out.1 (by simp)
 have x3 := fun y : ExtX w2.drew [] => y.cell (p := ⟨w.heap.size + 1, 1, none⟩) L1.out.2.1 (by simp)
 refine wp_region_lex (C := InX w2.drew []) (by kernel_rfl) (by kernel_rfl) (inX_self _ _) ?_
 repeat (refine wpLex_still (by rfl) ?_; go_big_quiet_step (fail); refine wpQuiet_nil ?_)
 refine wpLex_move (by rfl) (by rfl) ?_
 go_wp2_with fail
 refine (sign_any a A n c za w2.drew (HA.out.ext HE2.out.drew)).mono ?_
 rintro e w3 ⟨rfl, hb3⟩
 rw [HSA.out]
 have HB3 := LH hb3
 clear hb3
 go_wp2_with fail
 refine And.intro (inX_of_ext _ HB3.out) ?_
 repeat (refine wpLex_still (by rfl) ?_; go_big_quiet_step (fail); refine wpQuiet_nil ?_)
 refine wpLex_move (by rfl) (by rfl) ?_
 go_wp2_with fail
 refine (sign_any b B m d zb w3 ((HB.out.ext HE2.out.drew).ext HB3.out)).mono ?_
 rintro e w4 ⟨rfl, hb4⟩
 rw [HSB.out]
 have HB4 : Hid (Ext w2.drew w4) := ET HB3.out hb4
 clear hb4
 go_wp2_with fail
 refine And.intro (inX_of_ext _ HB4.out) ?_
 repeat (refine wpLex_still (by rfl) ?_; go_big_quiet_step (fail); refine wpQuiet_nil ?_)
 refine wpLex_nil ?_
 clear x0 x1 x2 x3
 have hE4 : Ext w w4 := ET HE2.out.drew HB4.out
 have M0 := LH ((L0.out.ext Ext.rfl'.drew).ext HB4.out)
 have M1 := LH ((L1.out.ext Ext.rfl'.drew).ext HB4.out)
 by_cases h1 : sa < sb
 ·have HR : Hid (cmpZ za zb = -1) := by unfold Hid; rw [HRES.out, if_pos h1]
  go_wp2_with fail
  go_ret
  exact ⟨ret_i64 HR.out.symm, hE4⟩
 ·have hb1 : decide (sa < sb) = false := decide_eq_false h1
  by_cases h2 : sb < sa
  ·have HR : Hid (cmpZ za zb = 1) := by unfold Hid; rw [HRES.out, if_neg h1, if_pos h2]
   go_wp2_with fail
   go_ret
   exact ⟨ret_i64 HR.out.symm, hE4⟩
  ·have hb2 : decide (sb < sa) = false := decide_eq_false h2
   obtain ⟨xs, hx1, hx2, hx3, hzx⟩ := HA.out.ext hE4
   obtain ⟨ys, hy1, hy2, hy3, hzy⟩ := HB.out.ext hE4
   have HX := LH hx1
   have HY := LH hy1
   have HAX : Hid (za.natAbs = natOf xs) := by unfold Hid; rw [hzx, sgn_abs]
   have HAY : Hid (zb.natAbs = natOf ys) := by unfold Hid; rw [hzy, sgn_abs]
   have hlx := words_len_ge HX.out.2.1
   rw [HX.out.1] at hlx
   have hly := words_len_ge HY.out.2.1
   rw [HY.out.1] at hly
   have hlx2 : (wordsOf (natOf xs)).length ≤ maxLen := by simp only [maxLen]; omega
   have hly2 : (wordsOf (natOf ys)).length ≤ maxLen := by simp only [maxLen]; omega
   clear hx1 hy1 hzx hzy
   have x1 := fun y : ExtX w4.drew [] => y.cell (p := ⟨w.heap.size, 1, none⟩) M0.out.2.1 (by simp)
   have x3 := fun y : ExtX w4.drew [] => y.cell (p := ⟨w.heap.size + 1, 1, none⟩) M1.out.2.1 (by simp)
   by_cases h3 : sa < 0
   ·have hb3 : decide (sa < 0) = true := decide_eq_true h3
    have HR : Hid (cmpZ za zb = cmpN (natOf ys) (natOf xs)) := by unfold Hid; rw [HRES.out, if_neg h1, if_neg h2, if_pos h3, HAX.out, HAY.out]
    clear h1 h2 h3
    go_wp2_with fail
    refine wp_region_lex (C := InX w4.drew []) (by kernel_rfl) (by kernel_rfl) (inX_self _ _) ?_
    repeat (refine wpLex_still (by rfl) ?_; go_big_quiet_step (fail); refine wpQuiet_nil ?_)
    refine wpLex_move (by rfl) (by rfl) ?_
    go_wp2_with fail
    refine (trim_any B m d ys w4.drew (HY.out.below Ext.rfl'.drew) hy2 hy3).mono ?_
    rintro e w5 ⟨rfl, rfl⟩
    go_wp2_with fail
    refine And.intro (inX_self _ _) ?_
    repeat (refine wpLex_still (by rfl) ?_; go_big_quiet_step (fail); refine wpQuiet_nil ?_)
    refine wpLex_move (by rfl) (by rfl) ?_
    go_wp2_with fail
    refine (trim_any A n c xs w4.drew (HX.out.below Ext.rfl'.drew) hx2 hx3).mono ?_
    rintro e w5 ⟨rfl, rfl⟩
    go_wp2_with fail
    refine And.intro (inX_self _ _) ?_
    repeat (refine wpLex_still (by rfl) ?_; go_big_quiet_step (fail); refine wpQuiet_nil ?_)
    refine wpLex_move (by rfl) (by rfl) ?_
    go_wp2_with fail
    refine (compare_ext B _ d (natOf ys) A _ c (natOf xs) w4.drew (HY.out.below Ext.rfl'.drew).trim (HX.out.below Ext.rfl'.drew).trim hly2).mono ?_
    rintro e w5 ⟨rfl, hE5⟩
    go_wp2_with fail
    refine And.intro (inX_of_ext _ hE5) ?_
    repeat (refine wpLex_still (by rfl) ?_; go_big_quiet_step (fail); refine wpQuiet_nil ?_)
    refine wpLex_nil ?_
    go_wp2_with fail
    go_ret
    exact ⟨ret_i64 HR.out.symm, ET hE4 (ET Ext.rfl'.drew hE5)⟩
   ·have hb3 : decide (sa < 0) = false := decide_eq_false h3
    have HR : Hid (cmpZ za zb = cmpN (natOf xs) (natOf ys)) := by unfold Hid; rw [HRES.out, if_neg h1, if_neg h2, if_neg h3, HAX.out, HAY.out]
    clear h1 h2 h3
    go_wp2_with fail
    refine wp_region_lex (C := InX w4.drew []) (by kernel_rfl) (by kernel_rfl) (inX_self _ _) ?_
    repeat (refine wpLex_still (by rfl) ?_; go_big_quiet_step (fail); refine wpQuiet_nil ?_)
    refine wpLex_move (by rfl) (by rfl) ?_
    go_wp2_with fail
    refine (trim_any A n c xs w4.drew (HX.out.below Ext.rfl'.drew) hx2 hx3).mono ?_
    rintro e w5 ⟨rfl, rfl⟩
    go_wp2_with fail
    refine And.intro (inX_self _ _) ?_
    repeat (refine wpLex_still (by rfl) ?_; go_big_quiet_step (fail); refine wpQuiet_nil ?_)
    refine wpLex_move (by rfl) (by rfl) ?_
    go_wp2_with fail
    refine (trim_any B m d ys w4.drew (HY.out.below Ext.rfl'.drew) hy2 hy3).mono ?_
    rintro e w5 ⟨rfl, rfl⟩
    go_wp2_with fail
    refine And.intro (inX_self _ _) ?_
    repeat (refine wpLex_still (by rfl) ?_; go_big_quiet_step (fail); refine wpQuiet_nil ?_)
    refine wpLex_move (by rfl) (by rfl) ?_
    go_wp2_with fail
    refine (compare_ext A _ c (natOf xs) B _ d (natOf ys) w4.drew (HX.out.below Ext.rfl'.drew).trim (HY.out.below Ext.rfl'.drew).trim hlx2).mono ?_
    rintro e w5 ⟨rfl, hE5⟩
    go_wp2_with fail
    refine And.intro (inX_of_ext _ hE5) ?_
    repeat (refine wpLex_still (by rfl) ?_; go_big_quiet_step (fail); refine wpQuiet_nil ?_)
    refine wpLex_nil ?_
    go_wp2_with fail
    go_ret
    exact ⟨ret_i64 HR.out.symm, ET hE4 (ET Ext.rfl'.drew hE5)⟩
end Go.Proofs.YtjinpfnefeiooaaGreat
