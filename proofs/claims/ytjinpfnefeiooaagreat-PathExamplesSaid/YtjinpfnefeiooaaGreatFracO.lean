/- A part of the proof. -/
import Derived.Maps.Own
import Derived.Test.YtjinpfnefeiooaaGreatFracP
import Derived.Test.YtjinpfnefeiooaaGreatZOps
namespace Go.Proofs.YtjinpfnefeiooaaGreat
open Go.RowKit

def RetPair (w : World) (zn zd : Int) (e : Ending) (w' : World) : Prop := ∃ (s : Bool) (A : Option Addr) (n c : Nat) (t : Bool) (B : Option Addr) (m d : Nat), e = .returned (.tuple #[.agg #[.bool s, .slice A n c], .agg #[.bool t, .slice B m d]]) ∧ ZCan w' w.heap.size s A n c zn ∧ ZCan w' w.heap.size t B m d zd ∧ n ≤ 268435456 ∧ m ≤ 268435456 ∧ Ext w w'
theorem natAbs_add_lt {a b : Int} {k l : Nat} (ha : a.natAbs < 4294967296 ^ k) (hb : b.natAbs < 4294967296 ^ l) : (a + b).natAbs < 4294967296 ^ (k + l + 1) := by
 have h1 := pow_le (show k ≤ k + l by omega)
 have h2 := pow_le (show l ≤ k + l by omega)
 have hs : 4294967296 ^ (k + l + 1) = 4294967296 ^ (k + l) * 4294967296 := Nat.pow_succ ..
 rw [hs]
 generalize 4294967296 ^ (k + l) = P at *
 omega
theorem natAbs_sub_lt {a b : Int} {k l : Nat} (ha : a.natAbs < 4294967296 ^ k) (hb : b.natAbs < 4294967296 ^ l) : (a - b).natAbs < 4294967296 ^ (k + l + 1) := by
 rw [Int.sub_eq_add_neg]
 exact natAbs_add_lt ha (by rw [Int.natAbs_neg]; exact hb)
theorem box6 (w : World) (v0 v1 u0 u1 r0 r1 s0 s1 p0 p1 q0 q1 : Value) (t : TypeId) :
  Cell2 ((((((w.alloc (.cells #[v0, v1] t)).alloc (.cells #[u0, u1] t)).alloc (.cells #[r0, r1] t)).alloc (.cells #[s0, s1] t)).alloc (.cells #[p0, p1] t)).alloc (.cells #[q0, q1] t)) (w.heap.size) v0 v1 ∧
  Cell2 ((((((w.alloc (.cells #[v0, v1] t)).alloc (.cells #[u0, u1] t)).alloc (.cells #[r0, r1] t)).alloc (.cells #[s0, s1] t)).alloc (.cells #[p0, p1] t)).alloc (.cells #[q0, q1] t)) (w.heap.size + 1) u0 u1 ∧
  Cell2 ((((((w.alloc (.cells #[v0, v1] t)).alloc (.cells #[u0, u1] t)).alloc (.cells #[r0, r1] t)).alloc (.cells #[s0, s1] t)).alloc (.cells #[p0, p1] t)).alloc (.cells #[q0, q1] t)) (w.heap.size + 1 + 1) r0 r1 ∧
  Cell2 ((((((w.alloc (.cells #[v0, v1] t)).alloc (.cells #[u0, u1] t)).alloc (.cells #[r0, r1] t)).alloc (.cells #[s0, s1] t)).alloc (.cells #[p0, p1] t)).alloc (.cells #[q0, q1] t)) (w.heap.size + 1 + 1 + 1) s0 s1 ∧
  Cell2 ((((((w.alloc (.cells #[v0, v1] t)).alloc (.cells #[u0, u1] t)).alloc (.cells #[r0, r1] t)).alloc (.cells #[s0, s1] t)).alloc (.cells #[p0, p1] t)).alloc (.cells #[q0, q1] t)) (w.heap.size + 1 + 1 + 1 + 1) p0 p1 ∧
  Cell2 ((((((w.alloc (.cells #[v0, v1] t)).alloc (.cells #[u0, u1] t)).alloc (.cells #[r0, r1] t)).alloc (.cells #[s0, s1] t)).alloc (.cells #[p0, p1] t)).alloc (.cells #[q0, q1] t)) (w.heap.size + 1 + 1 + 1 + 1 + 1) q0 q1 ∧
  Ext w ((((((w.alloc (.cells #[v0, v1] t)).alloc (.cells #[u0, u1] t)).alloc (.cells #[r0, r1] t)).alloc (.cells #[s0, s1] t)).alloc (.cells #[p0, p1] t)).alloc (.cells #[q0, q1] t)) := by
 refine ⟨?_, ?_, ?_, ?_, ?_, ?_, ?_⟩
 ·exact ((((((Cell2.new w (w.heap.size) (by simp) v0 v1 t).ext (Ext.al Ext.rfl' _)).ext (Ext.al Ext.rfl' _)).ext (Ext.al Ext.rfl' _)).ext (Ext.al Ext.rfl' _)).ext (Ext.al Ext.rfl' _))
 ·exact (((((Cell2.new (w.alloc (.cells #[v0, v1] t)) (w.heap.size + 1) (by simp) u0 u1 t).ext (Ext.al Ext.rfl' _)).ext (Ext.al Ext.rfl' _)).ext (Ext.al Ext.rfl' _)).ext (Ext.al Ext.rfl' _))
 ·exact ((((Cell2.new ((w.alloc (.cells #[v0, v1] t)).alloc (.cells #[u0, u1] t)) (w.heap.size + 1 + 1) (by simp) r0 r1 t).ext (Ext.al Ext.rfl' _)).ext (Ext.al Ext.rfl' _)).ext (Ext.al Ext.rfl' _))
 ·exact (((Cell2.new (((w.alloc (.cells #[v0, v1] t)).alloc (.cells #[u0, u1] t)).alloc (.cells #[r0, r1] t)) (w.heap.size + 1 + 1 + 1) (by simp) s0 s1 t).ext (Ext.al Ext.rfl' _)).ext (Ext.al Ext.rfl' _))
 ·exact ((Cell2.new ((((w.alloc (.cells #[v0, v1] t)).alloc (.cells #[u0, u1] t)).alloc (.cells #[r0, r1] t)).alloc (.cells #[s0, s1] t)) (w.heap.size + 1 + 1 + 1 + 1) (by simp) p0 p1 t).ext (Ext.al Ext.rfl' _))
 ·exact (Cell2.new (((((w.alloc (.cells #[v0, v1] t)).alloc (.cells #[u0, u1] t)).alloc (.cells #[r0, r1] t)).alloc (.cells #[s0, s1] t)).alloc (.cells #[p0, p1] t)) (w.heap.size + 1 + 1 + 1 + 1 + 1) (by simp) q0 q1 t)
 ·exact (Ext.al (Ext.al (Ext.al (Ext.al (Ext.al (Ext.al Ext.rfl' _) _) _) _) _) _)
set_option maxRecDepth 100000 in
set_option maxHeartbeats 4000000 in
theorem clos_add (a : Bool) (A : Option Addr) (n c : Nat) (za : Int) (b : Bool) (B : Option Addr) (m d : Nat) (zb : Int) (a' : Bool) (A' : Option Addr) (n' c' : Nat) (zc : Int) (b' : Bool) (B' : Option Addr) (m' d' : Nat) (zd : Int) (w : World) (h0 : ZIs w a A n c za) (h1 : ZIs w b B m d zb) (h2 : ZIs w a' A' n' c' zc) (h3 : ZIs w b' B' m' d' zd) (l0 : n ≤ 33554432) (l1 : m ≤ 33554432) (l2 : n' ≤ 33554432) (l3 : m' ≤ 33554432) :
  Calls Tryz.prog 111 #[.agg #[.bool a, .slice A n c], .agg #[.bool b, .slice B m d], .agg #[.bool a', .slice A' n' c'], .agg #[.bool b', .slice B' m' d']] w (RetPair w (za * zd + zc * zb) (zb * zd)) := by
 go_enter Tryz.func111, Tryz.ntmps111
 go_wp2_with fail
 obtain ⟨k0, k1, k2, k3, k4, k5, hE⟩ := box6 w (.bool a) (.slice A n c) (.bool b) (.slice B m d) (.bool a') (.slice A' n' c') (.bool b') (.slice B' m' d') (.bool false) (.slice none 0 0) (.bool false) (.slice none 0 0) 27
 generalize ((((((w.alloc (.cells #[.bool a, .slice A n c] 27)).alloc (.cells #[.bool b, .slice B m d] 27)).alloc (.cells #[.bool a', .slice A' n' c'] 27)).alloc (.cells #[.bool b', .slice B' m' d'] 27)).alloc (.cells #[.bool false, .slice none 0 0] 27)).alloc (.cells #[.bool false, .slice none 0 0] 27)) = w1 at *
 have K0 := LH (k0.ext (Ext.rfl' (w := w1)).drew)
 have K1 := LH (k1.ext (Ext.rfl' (w := w1)).drew)
 have K2 := LH (k2.ext (Ext.rfl' (w := w1)).drew)
 have K3 := LH (k3.ext (Ext.rfl' (w := w1)).drew)
 have K4 := LH (k4.ext (Ext.rfl' (w := w1)).drew)
 have K5 := LH (k5.ext (Ext.rfl' (w := w1)).drew)
 have HE : Hid (Ext w w1.drew) := hE.drew
 have H0 := LH (h0.ext HE.out)
 have H1 := LH (h1.ext HE.out)
 have H2 := LH (h2.ext HE.out)
 have H3 := LH (h3.ext HE.out)
 clear k0 k1 k2 k3 k4 k5 hE h0 h1 h2 h3
 have hsz2 : w.heap.size + 1 + 1 + 1 + 1 + 1 < w1.drew.heap.size := K5.out.2.2.2.2
 refine wp_region_lex (C := InX w1.drew [w.heap.size + 1 + 1 + 1 + 1, w.heap.size + 1 + 1 + 1 + 1 + 1]) (by kernel_rfl) (by kernel_rfl) (inX_self _ _) ?_
 generalize w1.drew = wd at *
 have x0 := fun y : ExtX wd [w.heap.size + 1 + 1 + 1 + 1, w.heap.size + 1 + 1 + 1 + 1 + 1] => y.cell (p := ⟨w.heap.size, 0, none⟩) K0.out.1 (by simp <;> omega)
 have x1 := fun y : ExtX wd [w.heap.size + 1 + 1 + 1 + 1, w.heap.size + 1 + 1 + 1 + 1 + 1] => y.cell (p := ⟨w.heap.size, 1, none⟩) K0.out.2.1 (by simp <;> omega)
 have x2 := fun y : ExtX wd [w.heap.size + 1 + 1 + 1 + 1, w.heap.size + 1 + 1 + 1 + 1 + 1] => y.cell (p := ⟨w.heap.size + 1, 0, none⟩) K1.out.1 (by simp <;> omega)
 have x3 := fun y : ExtX wd [w.heap.size + 1 + 1 + 1 + 1, w.heap.size + 1 + 1 + 1 + 1 + 1] => y.cell (p := ⟨w.heap.size + 1, 1, none⟩) K1.out.2.1 (by simp <;> omega)
 have x4 := fun y : ExtX wd [w.heap.size + 1 + 1 + 1 + 1, w.heap.size + 1 + 1 + 1 + 1 + 1] => y.cell (p := ⟨w.heap.size + 1 + 1, 0, none⟩) K2.out.1 (by simp <;> omega)
 have x5 := fun y : ExtX wd [w.heap.size + 1 + 1 + 1 + 1, w.heap.size + 1 + 1 + 1 + 1 + 1] => y.cell (p := ⟨w.heap.size + 1 + 1, 1, none⟩) K2.out.2.1 (by simp <;> omega)
 have x6 := fun y : ExtX wd [w.heap.size + 1 + 1 + 1 + 1, w.heap.size + 1 + 1 + 1 + 1 + 1] => y.cell (p := ⟨w.heap.size + 1 + 1 + 1, 0, none⟩) K3.out.1 (by simp <;> omega)
 have x7 := fun y : ExtX wd [w.heap.size + 1 + 1 + 1 + 1, w.heap.size + 1 + 1 + 1 + 1 + 1] => y.cell (p := ⟨w.heap.size + 1 + 1 + 1, 1, none⟩) K3.out.2.1 (by simp <;> omega)
 have HX0 := LH (inX_self wd [w.heap.size + 1 + 1 + 1 + 1, w.heap.size + 1 + 1 + 1 + 1 + 1])
 have HC0 : Hid (Ext wd wd) := Ext.rfl'
 repeat (refine wpLex_still (by rfl) ?_; go_big_quiet_step (fail); refine wpQuiet_nil ?_)
 refine wpLex_move (by rfl) (by rfl) ?_
 go_wp2_with fail
 refine (mul_any a A n c za b' B' m' d' zd wd (H0.out.ext HC0.out) (H3.out.ext HC0.out) (by omega) (by omega)).mono ?_
 rintro e w2 ⟨r0, R0, k0, q0, rfl, hZ, hE⟩
 have hk0 : k0 ≤ n + m' := words_bd hZ (natAbs_mul_lt (natAbs_ZIs (H0.out.ext HC0.out)) (natAbs_ZIs (H3.out.ext HC0.out)))
 have HX1 := LH (inX_ext HX0.out hE)
 have HC1 := LH (ET HC0.out hE)
 have HR0_1 := LH (hZ.base (B' := wd.heap.size) HC0.out.size)
 clear hZ hE
 go_wp2_with fail
 refine And.intro HX1.out ?_
 repeat (refine wpLex_still (by rfl) ?_; go_big_quiet_step (fail); refine wpQuiet_nil ?_)
 refine wpLex_move (by rfl) (by rfl) ?_
 go_wp2_with fail
 refine (mul_any a' A' n' c' zc b B m d zb w2 (H2.out.ext HC1.out) (H1.out.ext HC1.out) (by omega) (by omega)).mono ?_
 rintro e w3 ⟨r1, R1, k1, q1, rfl, hZ, hE⟩
 have hk1 : k1 ≤ n' + m := words_bd hZ (natAbs_mul_lt (natAbs_ZIs (H2.out.ext HC1.out)) (natAbs_ZIs (H1.out.ext HC1.out)))
 have HX2 := LH (inX_ext HX1.out hE)
 have HC2 := LH (ET HC1.out hE)
 have HR0_2 := LH (HR0_1.out.ext hE)
 have HR1_2 := LH (hZ.base (B' := wd.heap.size) HC1.out.size)
 clear hZ hE
 go_wp2_with fail
 refine And.intro HX2.out ?_
 repeat (refine wpLex_still (by rfl) ?_; go_big_quiet_step (fail); refine wpQuiet_nil ?_)
 refine wpLex_move (by rfl) (by rfl) ?_
 go_wp2_with fail
 refine (add_any r0 R0 k0 q0 (za * zd) r1 R1 k1 q1 (zc * zb) w3 HR0_2.out.is HR1_2.out.is (by omega) (by omega)).mono ?_
 rintro e w4 ⟨r2, R2, k2, q2, rfl, hZ, hE⟩
 have hk2 : k2 ≤ k0 + k1 + 1 := words_bd hZ (natAbs_add_lt (natAbs_ZIs HR0_2.out.is) (natAbs_ZIs HR1_2.out.is))
 have HX3 := LH (inX_ext HX2.out hE)
 have HC3 := LH (ET HC2.out hE)
 have HR0_3 := LH (HR0_2.out.ext hE)
 have HR1_3 := LH (HR1_2.out.ext hE)
 have HR2_3 := LH (hZ.base (B' := wd.heap.size) HC2.out.size)
 clear hZ hE
 go_wp2_with fail
 refine And.intro HX3.out ?_
 repeat (refine wpLex_still (by rfl) ?_; go_big_quiet_step (fail); refine wpQuiet_nil ?_)
 refine wpLex_move (by rfl) (by rfl) ?_
 go_wp2_with fail
 refine (mul_any b B m d zb b' B' m' d' zd w4 (H1.out.ext HC3.out) (H3.out.ext HC3.out) (by omega) (by omega)).mono ?_
 rintro e w5 ⟨r3, R3, k3, q3, rfl, hZ, hE⟩
 have hk3 : k3 ≤ m + m' := words_bd hZ (natAbs_mul_lt (natAbs_ZIs (H1.out.ext HC3.out)) (natAbs_ZIs (H3.out.ext HC3.out)))
 have HX4 := LH (inX_ext HX3.out hE)
 have HC4 := LH (ET HC3.out hE)
 have HR0_4 := LH (HR0_3.out.ext hE)
 have HR1_4 := LH (HR1_3.out.ext hE)
 have HR2_4 := LH (HR2_3.out.ext hE)
 have HR3_4 := LH (hZ.base (B' := wd.heap.size) HC3.out.size)
 clear hZ hE
 go_wp2_with fail
 refine And.intro HX4.out ?_
 repeat (refine wpLex_still (by rfl) ?_; go_big_quiet_step (fail); refine wpQuiet_nil ?_)
 obtain ⟨d0, d1, d2, d3, d4⟩ := K4.out.ext HC4.out
 obtain ⟨e0, e1, e2, e3, e4⟩ := K5.out.ext HC4.out
 refine wpLex_move (by rfl) (by rfl) ?_
 go_wp2_with fail
 refine And.intro (inX_put2 HX4.out (by simp) _ _) ?_
 have e0' := put2_cell (w := w5) (r := w.heap.size + 1 + 1 + 1 + 1) (k := w.heap.size + 1 + 1 + 1 + 1 + 1) (.bool r2) (.slice R2 k2 q2) (by omega) e0
 have e1' := put2_cell (w := w5) (r := w.heap.size + 1 + 1 + 1 + 1) (k := w.heap.size + 1 + 1 + 1 + 1 + 1) (.bool r2) (.slice R2 k2 q2) (by omega) e1
 refine wpLex_move (by rfl) (by rfl) ?_
 go_wp2_with fail
 refine And.intro (inX_put2 (inX_put2 HX4.out (by simp) _ _) (by simp) _ _) ?_
 refine wpLex_nil ?_
 go_wp2_with fail
 refine bodyPost_ret (v := .tuple #[.agg #[.bool r2, .slice R2 k2 q2], .agg #[.bool r3, .slice R3 k3 q3]]) (by simp [results, Tryz.results111, go_sem, d0, d1, e0, e1]) rfl ?_
 exact ⟨_, _, _, _, _, _, _, _, rfl, ((HR2_4.out.put2 (by omega) _ _).put2 (by omega) _ _).base (by omega), ((HR3_4.out.put2 (by omega) _ _).put2 (by omega) _ _).base (by omega), by omega, by omega, ext_put2 (ext_put2 (ET HE.out HC4.out) (by omega) _ _) (by omega) _ _⟩
set_option maxRecDepth 100000 in
set_option maxHeartbeats 4000000 in
theorem clos_sub (a : Bool) (A : Option Addr) (n c : Nat) (za : Int) (b : Bool) (B : Option Addr) (m d : Nat) (zb : Int) (a' : Bool) (A' : Option Addr) (n' c' : Nat) (zc : Int) (b' : Bool) (B' : Option Addr) (m' d' : Nat) (zd : Int) (w : World) (h0 : ZIs w a A n c za) (h1 : ZIs w b B m d zb) (h2 : ZIs w a' A' n' c' zc) (h3 : ZIs w b' B' m' d' zd) (l0 : n ≤ 33554432) (l1 : m ≤ 33554432) (l2 : n' ≤ 33554432) (l3 : m' ≤ 33554432) :
  Calls Tryz.prog 113 #[.agg #[.bool a, .slice A n c], .agg #[.bool b, .slice B m d], .agg #[.bool a', .slice A' n' c'], .agg #[.bool b', .slice B' m' d']] w (RetPair w (za * zd - zc * zb) (zb * zd)) := by
 go_enter Tryz.func113, Tryz.ntmps113
 go_wp2_with fail
 obtain ⟨k0, k1, k2, k3, k4, k5, hE⟩ := box6 w (.bool a) (.slice A n c) (.bool b) (.slice B m d) (.bool a') (.slice A' n' c') (.bool b') (.slice B' m' d') (.bool false) (.slice none 0 0) (.bool false) (.slice none 0 0) 27
 generalize ((((((w.alloc (.cells #[.bool a, .slice A n c] 27)).alloc (.cells #[.bool b, .slice B m d] 27)).alloc (.cells #[.bool a', .slice A' n' c'] 27)).alloc (.cells #[.bool b', .slice B' m' d'] 27)).alloc (.cells #[.bool false, .slice none 0 0] 27)).alloc (.cells #[.bool false, .slice none 0 0] 27)) = w1 at *
 have K0 := LH (k0.ext (Ext.rfl' (w := w1)).drew)
 have K1 := LH (k1.ext (Ext.rfl' (w := w1)).drew)
 have K2 := LH (k2.ext (Ext.rfl' (w := w1)).drew)
 have K3 := LH (k3.ext (Ext.rfl' (w := w1)).drew)
 have K4 := LH (k4.ext (Ext.rfl' (w := w1)).drew)
 have K5 := LH (k5.ext (Ext.rfl' (w := w1)).drew)
 have HE : Hid (Ext w w1.drew) := hE.drew
 have H0 := LH (h0.ext HE.out)
 have H1 := LH (h1.ext HE.out)
 have H2 := LH (h2.ext HE.out)
 have H3 := LH (h3.ext HE.out)
 clear k0 k1 k2 k3 k4 k5 hE h0 h1 h2 h3
 have hsz2 : w.heap.size + 1 + 1 + 1 + 1 + 1 < w1.drew.heap.size := K5.out.2.2.2.2
 refine wp_region_lex (C := InX w1.drew [w.heap.size + 1 + 1 + 1 + 1, w.heap.size + 1 + 1 + 1 + 1 + 1]) (by kernel_rfl) (by kernel_rfl) (inX_self _ _) ?_
 generalize w1.drew = wd at *
 have x0 := fun y : ExtX wd [w.heap.size + 1 + 1 + 1 + 1, w.heap.size + 1 + 1 + 1 + 1 + 1] => y.cell (p := ⟨w.heap.size, 0, none⟩) K0.out.1 (by simp <;> omega)
 have x1 := fun y : ExtX wd [w.heap.size + 1 + 1 + 1 + 1, w.heap.size + 1 + 1 + 1 + 1 + 1] => y.cell (p := ⟨w.heap.size, 1, none⟩) K0.out.2.1 (by simp <;> omega)
 have x2 := fun y : ExtX wd [w.heap.size + 1 + 1 + 1 + 1, w.heap.size + 1 + 1 + 1 + 1 + 1] => y.cell (p := ⟨w.heap.size + 1, 0, none⟩) K1.out.1 (by simp <;> omega)
 have x3 := fun y : ExtX wd [w.heap.size + 1 + 1 + 1 + 1, w.heap.size + 1 + 1 + 1 + 1 + 1] => y.cell (p := ⟨w.heap.size + 1, 1, none⟩) K1.out.2.1 (by simp <;> omega)
 have x4 := fun y : ExtX wd [w.heap.size + 1 + 1 + 1 + 1, w.heap.size + 1 + 1 + 1 + 1 + 1] => y.cell (p := ⟨w.heap.size + 1 + 1, 0, none⟩) K2.out.1 (by simp <;> omega)
 have x5 := fun y : ExtX wd [w.heap.size + 1 + 1 + 1 + 1, w.heap.size + 1 + 1 + 1 + 1 + 1] => y.cell (p := ⟨w.heap.size + 1 + 1, 1, none⟩) K2.out.2.1 (by simp <;> omega)
 have x6 := fun y : ExtX wd [w.heap.size + 1 + 1 + 1 + 1, w.heap.size + 1 + 1 + 1 + 1 + 1] => y.cell (p := ⟨w.heap.size + 1 + 1 + 1, 0, none⟩) K3.out.1 (by simp <;> omega)
 have x7 := fun y : ExtX wd [w.heap.size + 1 + 1 + 1 + 1, w.heap.size + 1 + 1 + 1 + 1 + 1] => y.cell (p := ⟨w.heap.size + 1 + 1 + 1, 1, none⟩) K3.out.2.1 (by simp <;> omega)
 have HX0 := LH (inX_self wd [w.heap.size + 1 + 1 + 1 + 1, w.heap.size + 1 + 1 + 1 + 1 + 1])
 have HC0 : Hid (Ext wd wd) := Ext.rfl'
 repeat (refine wpLex_still (by rfl) ?_; go_big_quiet_step (fail); refine wpQuiet_nil ?_)
 refine wpLex_move (by rfl) (by rfl) ?_
 go_wp2_with fail
 refine (mul_any a A n c za b' B' m' d' zd wd (H0.out.ext HC0.out) (H3.out.ext HC0.out) (by omega) (by omega)).mono ?_
 rintro e w2 ⟨r0, R0, k0, q0, rfl, hZ, hE⟩
 have hk0 : k0 ≤ n + m' := words_bd hZ (natAbs_mul_lt (natAbs_ZIs (H0.out.ext HC0.out)) (natAbs_ZIs (H3.out.ext HC0.out)))
 have HX1 := LH (inX_ext HX0.out hE)
 have HC1 := LH (ET HC0.out hE)
 have HR0_1 := LH (hZ.base (B' := wd.heap.size) HC0.out.size)
 clear hZ hE
 go_wp2_with fail
 refine And.intro HX1.out ?_
 repeat (refine wpLex_still (by rfl) ?_; go_big_quiet_step (fail); refine wpQuiet_nil ?_)
 refine wpLex_move (by rfl) (by rfl) ?_
 go_wp2_with fail
 refine (mul_any a' A' n' c' zc b B m d zb w2 (H2.out.ext HC1.out) (H1.out.ext HC1.out) (by omega) (by omega)).mono ?_
 rintro e w3 ⟨r1, R1, k1, q1, rfl, hZ, hE⟩
 have hk1 : k1 ≤ n' + m := words_bd hZ (natAbs_mul_lt (natAbs_ZIs (H2.out.ext HC1.out)) (natAbs_ZIs (H1.out.ext HC1.out)))
 have HX2 := LH (inX_ext HX1.out hE)
 have HC2 := LH (ET HC1.out hE)
 have HR0_2 := LH (HR0_1.out.ext hE)
 have HR1_2 := LH (hZ.base (B' := wd.heap.size) HC1.out.size)
 clear hZ hE
 go_wp2_with fail
 refine And.intro HX2.out ?_
 repeat (refine wpLex_still (by rfl) ?_; go_big_quiet_step (fail); refine wpQuiet_nil ?_)
 refine wpLex_move (by rfl) (by rfl) ?_
 go_wp2_with fail
 refine (sub_any r0 R0 k0 q0 (za * zd) r1 R1 k1 q1 (zc * zb) w3 HR0_2.out.is HR1_2.out.is (by omega) (by omega)).mono ?_
 rintro e w4 ⟨r2, R2, k2, q2, rfl, hZ, hE⟩
 have hk2 : k2 ≤ k0 + k1 + 1 := words_bd hZ (natAbs_sub_lt (natAbs_ZIs HR0_2.out.is) (natAbs_ZIs HR1_2.out.is))
 have HX3 := LH (inX_ext HX2.out hE)
 have HC3 := LH (ET HC2.out hE)
 have HR0_3 := LH (HR0_2.out.ext hE)
 have HR1_3 := LH (HR1_2.out.ext hE)
 have HR2_3 := LH (hZ.base (B' := wd.heap.size) HC2.out.size)
 clear hZ hE
 go_wp2_with fail
 refine And.intro HX3.out ?_
 repeat (refine wpLex_still (by rfl) ?_; go_big_quiet_step (fail); refine wpQuiet_nil ?_)
 refine wpLex_move (by rfl) (by rfl) ?_
 go_wp2_with fail
 refine (mul_any b B m d zb b' B' m' d' zd w4 (H1.out.ext HC3.out) (H3.out.ext HC3.out) (by omega) (by omega)).mono ?_
 rintro e w5 ⟨r3, R3, k3, q3, rfl, hZ, hE⟩
 have hk3 : k3 ≤ m + m' := words_bd hZ (natAbs_mul_lt (natAbs_ZIs (H1.out.ext HC3.out)) (natAbs_ZIs (H3.out.ext HC3.out)))
 have HX4 := LH (inX_ext HX3.out hE)
 have HC4 := LH (ET HC3.out hE)
 have HR0_4 := LH (HR0_3.out.ext hE)
 have HR1_4 := LH (HR1_3.out.ext hE)
 have HR2_4 := LH (HR2_3.out.ext hE)
 have HR3_4 := LH (hZ.base (B' := wd.heap.size) HC3.out.size)
 clear hZ hE
 go_wp2_with fail
 refine And.intro HX4.out ?_
 repeat (refine wpLex_still (by rfl) ?_; go_big_quiet_step (fail); refine wpQuiet_nil ?_)
 obtain ⟨d0, d1, d2, d3, d4⟩ := K4.out.ext HC4.out
 obtain ⟨e0, e1, e2, e3, e4⟩ := K5.out.ext HC4.out
 refine wpLex_move (by rfl) (by rfl) ?_
 go_wp2_with fail
 refine And.intro (inX_put2 HX4.out (by simp) _ _) ?_
 have e0' := put2_cell (w := w5) (r := w.heap.size + 1 + 1 + 1 + 1) (k := w.heap.size + 1 + 1 + 1 + 1 + 1) (.bool r2) (.slice R2 k2 q2) (by omega) e0
 have e1' := put2_cell (w := w5) (r := w.heap.size + 1 + 1 + 1 + 1) (k := w.heap.size + 1 + 1 + 1 + 1 + 1) (.bool r2) (.slice R2 k2 q2) (by omega) e1
 refine wpLex_move (by rfl) (by rfl) ?_
 go_wp2_with fail
 refine And.intro (inX_put2 (inX_put2 HX4.out (by simp) _ _) (by simp) _ _) ?_
 refine wpLex_nil ?_
 go_wp2_with fail
 refine bodyPost_ret (v := .tuple #[.agg #[.bool r2, .slice R2 k2 q2], .agg #[.bool r3, .slice R3 k3 q3]]) (by simp [results, Tryz.results113, go_sem, d0, d1, e0, e1]) rfl ?_
 exact ⟨_, _, _, _, _, _, _, _, rfl, ((HR2_4.out.put2 (by omega) _ _).put2 (by omega) _ _).base (by omega), ((HR3_4.out.put2 (by omega) _ _).put2 (by omega) _ _).base (by omega), by omega, by omega, ext_put2 (ext_put2 (ET HE.out HC4.out) (by omega) _ _) (by omega) _ _⟩
set_option maxRecDepth 100000 in
set_option maxHeartbeats 4000000 in
theorem clos_mul (a : Bool) (A : Option Addr) (n c : Nat) (za : Int) (b : Bool) (B : Option Addr) (m d : Nat) (zb : Int) (a' : Bool) (A' : Option Addr) (n' c' : Nat) (zc : Int) (b' : Bool) (B' : Option Addr) (m' d' : Nat) (zd : Int) (w : World) (h0 : ZIs w a A n c za) (h1 : ZIs w b B m d zb) (h2 : ZIs w a' A' n' c' zc) (h3 : ZIs w b' B' m' d' zd) (l0 : n ≤ 33554432) (l1 : m ≤ 33554432) (l2 : n' ≤ 33554432) (l3 : m' ≤ 33554432) :
  Calls Tryz.prog 115 #[.agg #[.bool a, .slice A n c], .agg #[.bool b, .slice B m d], .agg #[.bool a', .slice A' n' c'], .agg #[.bool b', .slice B' m' d']] w (RetPair w (za * zc) (zb * zd)) := by
 go_enter Tryz.func115, Tryz.ntmps115
 go_wp2_with fail
 obtain ⟨k0, k1, k2, k3, k4, k5, hE⟩ := box6 w (.bool a) (.slice A n c) (.bool b) (.slice B m d) (.bool a') (.slice A' n' c') (.bool b') (.slice B' m' d') (.bool false) (.slice none 0 0) (.bool false) (.slice none 0 0) 27
 generalize ((((((w.alloc (.cells #[.bool a, .slice A n c] 27)).alloc (.cells #[.bool b, .slice B m d] 27)).alloc (.cells #[.bool a', .slice A' n' c'] 27)).alloc (.cells #[.bool b', .slice B' m' d'] 27)).alloc (.cells #[.bool false, .slice none 0 0] 27)).alloc (.cells #[.bool false, .slice none 0 0] 27)) = w1 at *
 have K0 := LH (k0.ext (Ext.rfl' (w := w1)).drew)
 have K1 := LH (k1.ext (Ext.rfl' (w := w1)).drew)
 have K2 := LH (k2.ext (Ext.rfl' (w := w1)).drew)
 have K3 := LH (k3.ext (Ext.rfl' (w := w1)).drew)
 have K4 := LH (k4.ext (Ext.rfl' (w := w1)).drew)
 have K5 := LH (k5.ext (Ext.rfl' (w := w1)).drew)
 have HE : Hid (Ext w w1.drew) := hE.drew
 have H0 := LH (h0.ext HE.out)
 have H1 := LH (h1.ext HE.out)
 have H2 := LH (h2.ext HE.out)
 have H3 := LH (h3.ext HE.out)
 clear k0 k1 k2 k3 k4 k5 hE h0 h1 h2 h3
 have hsz2 : w.heap.size + 1 + 1 + 1 + 1 + 1 < w1.drew.heap.size := K5.out.2.2.2.2
 refine wp_region_lex (C := InX w1.drew [w.heap.size + 1 + 1 + 1 + 1, w.heap.size + 1 + 1 + 1 + 1 + 1]) (by kernel_rfl) (by kernel_rfl) (inX_self _ _) ?_
 generalize w1.drew = wd at *
 have x0 := fun y : ExtX wd [w.heap.size + 1 + 1 + 1 + 1, w.heap.size + 1 + 1 + 1 + 1 + 1] => y.cell (p := ⟨w.heap.size, 0, none⟩) K0.out.1 (by simp <;> omega)
 have x1 := fun y : ExtX wd [w.heap.size + 1 + 1 + 1 + 1, w.heap.size + 1 + 1 + 1 + 1 + 1] => y.cell (p := ⟨w.heap.size, 1, none⟩) K0.out.2.1 (by simp <;> omega)
 have x2 := fun y : ExtX wd [w.heap.size + 1 + 1 + 1 + 1, w.heap.size + 1 + 1 + 1 + 1 + 1] => y.cell (p := ⟨w.heap.size + 1, 0, none⟩) K1.out.1 (by simp <;> omega)
 have x3 := fun y : ExtX wd [w.heap.size + 1 + 1 + 1 + 1, w.heap.size + 1 + 1 + 1 + 1 + 1] => y.cell (p := ⟨w.heap.size + 1, 1, none⟩) K1.out.2.1 (by simp <;> omega)
 have x4 := fun y : ExtX wd [w.heap.size + 1 + 1 + 1 + 1, w.heap.size + 1 + 1 + 1 + 1 + 1] => y.cell (p := ⟨w.heap.size + 1 + 1, 0, none⟩) K2.out.1 (by simp <;> omega)
 have x5 := fun y : ExtX wd [w.heap.size + 1 + 1 + 1 + 1, w.heap.size + 1 + 1 + 1 + 1 + 1] => y.cell (p := ⟨w.heap.size + 1 + 1, 1, none⟩) K2.out.2.1 (by simp <;> omega)
 have x6 := fun y : ExtX wd [w.heap.size + 1 + 1 + 1 + 1, w.heap.size + 1 + 1 + 1 + 1 + 1] => y.cell (p := ⟨w.heap.size + 1 + 1 + 1, 0, none⟩) K3.out.1 (by simp <;> omega)
 have x7 := fun y : ExtX wd [w.heap.size + 1 + 1 + 1 + 1, w.heap.size + 1 + 1 + 1 + 1 + 1] => y.cell (p := ⟨w.heap.size + 1 + 1 + 1, 1, none⟩) K3.out.2.1 (by simp <;> omega)
 have HX0 := LH (inX_self wd [w.heap.size + 1 + 1 + 1 + 1, w.heap.size + 1 + 1 + 1 + 1 + 1])
 have HC0 : Hid (Ext wd wd) := Ext.rfl'
 repeat (refine wpLex_still (by rfl) ?_; go_big_quiet_step (fail); refine wpQuiet_nil ?_)
 refine wpLex_move (by rfl) (by rfl) ?_
 go_wp2_with fail
 refine (mul_any a A n c za a' A' n' c' zc wd (H0.out.ext HC0.out) (H2.out.ext HC0.out) (by omega) (by omega)).mono ?_
 rintro e w2 ⟨r0, R0, k0, q0, rfl, hZ, hE⟩
 have hk0 : k0 ≤ n + n' := words_bd hZ (natAbs_mul_lt (natAbs_ZIs (H0.out.ext HC0.out)) (natAbs_ZIs (H2.out.ext HC0.out)))
 have HX1 := LH (inX_ext HX0.out hE)
 have HC1 := LH (ET HC0.out hE)
 have HR0_1 := LH (hZ.base (B' := wd.heap.size) HC0.out.size)
 clear hZ hE
 go_wp2_with fail
 refine And.intro HX1.out ?_
 repeat (refine wpLex_still (by rfl) ?_; go_big_quiet_step (fail); refine wpQuiet_nil ?_)
 refine wpLex_move (by rfl) (by rfl) ?_
 go_wp2_with fail
 refine (mul_any b B m d zb b' B' m' d' zd w2 (H1.out.ext HC1.out) (H3.out.ext HC1.out) (by omega) (by omega)).mono ?_
 rintro e w3 ⟨r1, R1, k1, q1, rfl, hZ, hE⟩
 have hk1 : k1 ≤ m + m' := words_bd hZ (natAbs_mul_lt (natAbs_ZIs (H1.out.ext HC1.out)) (natAbs_ZIs (H3.out.ext HC1.out)))
 have HX2 := LH (inX_ext HX1.out hE)
 have HC2 := LH (ET HC1.out hE)
 have HR0_2 := LH (HR0_1.out.ext hE)
 have HR1_2 := LH (hZ.base (B' := wd.heap.size) HC1.out.size)
 clear hZ hE
 go_wp2_with fail
 refine And.intro HX2.out ?_
 repeat (refine wpLex_still (by rfl) ?_; go_big_quiet_step (fail); refine wpQuiet_nil ?_)
 obtain ⟨d0, d1, d2, d3, d4⟩ := K4.out.ext HC2.out
 obtain ⟨e0, e1, e2, e3, e4⟩ := K5.out.ext HC2.out
 refine wpLex_move (by rfl) (by rfl) ?_
 go_wp2_with fail
 refine And.intro (inX_put2 HX2.out (by simp) _ _) ?_
 have e0' := put2_cell (w := w3) (r := w.heap.size + 1 + 1 + 1 + 1) (k := w.heap.size + 1 + 1 + 1 + 1 + 1) (.bool r0) (.slice R0 k0 q0) (by omega) e0
 have e1' := put2_cell (w := w3) (r := w.heap.size + 1 + 1 + 1 + 1) (k := w.heap.size + 1 + 1 + 1 + 1 + 1) (.bool r0) (.slice R0 k0 q0) (by omega) e1
 refine wpLex_move (by rfl) (by rfl) ?_
 go_wp2_with fail
 refine And.intro (inX_put2 (inX_put2 HX2.out (by simp) _ _) (by simp) _ _) ?_
 refine wpLex_nil ?_
 go_wp2_with fail
 refine bodyPost_ret (v := .tuple #[.agg #[.bool r0, .slice R0 k0 q0], .agg #[.bool r1, .slice R1 k1 q1]]) (by simp [results, Tryz.results115, go_sem, d0, d1, e0, e1]) rfl ?_
 exact ⟨_, _, _, _, _, _, _, _, rfl, ((HR0_2.out.put2 (by omega) _ _).put2 (by omega) _ _).base (by omega), ((HR1_2.out.put2 (by omega) _ _).put2 (by omega) _ _).base (by omega), by omega, by omega, ext_put2 (ext_put2 (ET HE.out HC2.out) (by omega) _ _) (by omega) _ _⟩
end Go.Proofs.YtjinpfnefeiooaaGreat
namespace Go.Proofs.YtjinpfnefeiooaaGreat
open Go.RowKit

def RV (v : Value) : Option (DataW Value × List MemPlace) := some (.held v, [])
theorem wpList_insert_own {P : Program} (w : World) {ops : Array Oper} {rest : List Oper} {o : Oper} {a : Act} {Q : Exit → Act → World → Prop}
  (hg : o.guard = none) (m x v : Operand) (t : TypeId) (hop : o.op = Op.insert t m x v)
  (k e : TypeId) (K : Go.Maps.Keyed P k) (ht : P.underlying t = some (.map k e)) (b n : Nat) (D : DataW Value)
  (hm : a.eval m = .map (some b)) (hown : w.ownsMap P k RV b n D) (hn : n < maxLen) (key val : Value) (kl : Lit) (hx : a.eval x = key) (hv : a.eval v = val) (hkey : keyOf P k key = some kl)
  (hK : ∀ w', w'.ownsMap P k RV b (n + 1) (D.put kl (.held val)) → w.grownBy w' (some b) → wpList P ops Q rest (a.put o.dst undef) w') :
  wpList P ops Q (o :: rest) a w := by
 refine wpList_plain hg fun K' hK' => ?_
 obtain ⟨w', hrun, r1, r2⟩ := hown.update K ht hn hkey (show RV val = some (.held val, []) from rfl)
 unfold Oper.wp
 simp [execOp, hop, hm, hx, hv, hrun, Result.andThen]
 exact hK' _ _ (hK w' r1 r2)
theorem byteKeyed : Go.Maps.Keyed Tryz.prog 5 := Go.Maps.int_keyed (q := .u8) (by kernel_rfl)
def opAt (f : Nat) : Value := .agg #[.func (.func f) #[] #[]]
set_option maxRecDepth 100000 in
set_option maxHeartbeats 2000000 in
theorem ops_any (w : World) : Calls Tryz.prog 83 #[] w fun e w' => ∃ b, e = .returned (.map (some b)) ∧ Ext w w' ∧ ∃ n, w'.ownsMap Tryz.prog 5 RV b n (((((DataW.map []).put (.int .u8 43) (.held (opAt 111))).put (.int .u8 45) (.held (opAt 113))).put (.int .u8 42) (.held (opAt 115))).put (.int .u8 47) (.held (opAt 116))) := by
 have hmm := @run_makeMap Tryz.prog
 go_enter Tryz.func83, Tryz.ntmps83
 have own0 := World.ownsMap_made w Tryz.prog 5 RV
 have hE0 : Ext w (w.alloc (.map #[] 0)) := Ext.al Ext.rfl' _
 go_wp2_with (refine wpList_insert_own _ rfl _ _ _ 110 rfl 5 109 byteKeyed (by kernel_rfl) _ _ _ rfl own0 (by simp [maxLen]) _ _ (.int .u8 43) rfl rfl (by kernel_rfl) ?_)
 intro w1 own1 hg1
 have hE1 : Ext w w1 := ext_grownW hE0 hg1 (by intro k hk; injection hk with hk; omega)
 clear own0 hg1 hE0
 go_wp2_with (refine wpList_insert_own _ rfl _ _ _ 110 rfl 5 109 byteKeyed (by kernel_rfl) _ _ _ rfl own1 (by simp [maxLen]) _ _ (.int .u8 45) rfl rfl (by kernel_rfl) ?_)
 intro w2 own2 hg2
 have hE2 : Ext w w2 := ext_grownW hE1 hg2 (by intro k hk; injection hk with hk; omega)
 clear own1 hg2 hE1
 go_wp2_with (refine wpList_insert_own _ rfl _ _ _ 110 rfl 5 109 byteKeyed (by kernel_rfl) _ _ _ rfl own2 (by simp [maxLen]) _ _ (.int .u8 42) rfl rfl (by kernel_rfl) ?_)
 intro w3 own3 hg3
 have hE3 : Ext w w3 := ext_grownW hE2 hg3 (by intro k hk; injection hk with hk; omega)
 clear own2 hg3 hE2
 go_wp2_with (refine wpList_insert_own _ rfl _ _ _ 110 rfl 5 109 byteKeyed (by kernel_rfl) _ _ _ rfl own3 (by simp [maxLen]) _ _ (.int .u8 47) rfl rfl (by kernel_rfl) ?_)
 intro w4 own4 hg4
 have hE4 : Ext w w4 := ext_grownW hE3 hg4 (by intro k hk; injection hk with hk; omega)
 clear own3 hg4 hE3
 go_wp2_with fail
 go_ret
 exact ⟨_, rfl, hE4, _, own4⟩
set_option maxRecDepth 100000 in
theorem look_op {w : World} {b n : Nat} {D : DataW Value} (h : w.ownsMap Tryz.prog 5 RV b n D) (key : Int) (kl : Lit) (hkey : keyOf Tryz.prog 5 (.int .u8 key) = some kl) (v : Value) (hv : ∀ zd, D.atKey kl zd = .held v) :
  (Instr.lookup 110 (.map (some b)) (.int .u8 key) false).run Tryz.prog w = .ok v w := by
 obtain ⟨u, ps, h1, h2⟩ := h.lookup (t := 110) (e := 109) byteKeyed (by kernel_rfl) (z := .agg #[.nilFunc]) (by rfl) (show RV _ = some (.held _, []) from rfl) hkey
 rw [hv] at h2
 unfold RV at h2
 injection h2 with h2
 injection h2 with h2 _
 injection h2 with h2
 rw [h1, h2]
abbrev opTab : DataW Value := (((((DataW.map []).put (.int .u8 43) (.held (opAt 111))).put (.int .u8 45) (.held (opAt 113))).put (.int .u8 42) (.held (opAt 115))).put (.int .u8 47) (.held (opAt 116)))
theorem tab_add (zd : DataW Value) : opTab.atKey (.int .u8 43) zd = .held (opAt 111) := by rfl
theorem tab_sub (zd : DataW Value) : opTab.atKey (.int .u8 45) zd = .held (opAt 113) := by rfl
theorem tab_mul (zd : DataW Value) : opTab.atKey (.int .u8 42) zd = .held (opAt 115) := by rfl
end Go.Proofs.YtjinpfnefeiooaaGreat
namespace Go.Proofs.YtjinpfnefeiooaaGreat
open Go.RowKit

theorem boxQ3 (w : World) (v0 v1 v2 v3 u0 u1 u2 u3 : Value) (t : TypeId) :
  Cell4 (((w.alloc (.cells #[v0, v1, v2, v3] t)).alloc (.cells #[u0, u1, u2, u3] t)).alloc (.cells #[.bool false, .slice none 0 0, .bool false, .slice none 0 0] t)) w.heap.size v0 v1 v2 v3 ∧
  Cell4 (((w.alloc (.cells #[v0, v1, v2, v3] t)).alloc (.cells #[u0, u1, u2, u3] t)).alloc (.cells #[.bool false, .slice none 0 0, .bool false, .slice none 0 0] t)) (w.heap.size + 1) u0 u1 u2 u3 ∧
  Cell4 (((w.alloc (.cells #[v0, v1, v2, v3] t)).alloc (.cells #[u0, u1, u2, u3] t)).alloc (.cells #[.bool false, .slice none 0 0, .bool false, .slice none 0 0] t)) (w.heap.size + 1 + 1) (.bool false) (.slice none 0 0) (.bool false) (.slice none 0 0) ∧
  Ext w (((w.alloc (.cells #[v0, v1, v2, v3] t)).alloc (.cells #[u0, u1, u2, u3] t)).alloc (.cells #[.bool false, .slice none 0 0, .bool false, .slice none 0 0] t)) :=
 ⟨((Cell4.new w _ rfl v0 v1 v2 v3 t).ext (Ext.al Ext.rfl' _)).ext (Ext.al Ext.rfl' _), (Cell4.new _ _ (by simp) u0 u1 u2 u3 t).ext (Ext.al Ext.rfl' _), Cell4.new _ _ (by simp) _ _ _ _ t, Ext.al (Ext.al (Ext.al Ext.rfl' _) _) _⟩
theorem two2 (w : World) (v0 v1 u0 u1 : Value) (t : TypeId) :
  Cell2 ((w.alloc (.cells #[v0, v1] t)).alloc (.cells #[u0, u1] t)) w.heap.size v0 v1 ∧ Cell2 ((w.alloc (.cells #[v0, v1] t)).alloc (.cells #[u0, u1] t)) (w.heap.size + 1) u0 u1 ∧ Ext w ((w.alloc (.cells #[v0, v1] t)).alloc (.cells #[u0, u1] t)) :=
 ⟨(Cell2.new w _ rfl v0 v1 t).ext (Ext.al Ext.rfl' _), Cell2.new _ _ (by simp) u0 u1 t, Ext.al (Ext.al Ext.rfl' _) _⟩
theorem divInt_sub' (n₁ n₂ : Int) {d₁ d₂ : Int} (z₁ : 0 < d₁) (z₂ : 0 < d₂) : Rat.divInt n₁ d₁ - Rat.divInt n₂ d₂ = Rat.divInt (n₁ * d₂ - n₂ * d₁) (d₁ * d₂) := Rat.divInt_sub_divInt _ _ (by omega) (by omega)
theorem divInt_add' (n₁ n₂ : Int) {d₁ d₂ : Int} (z₁ : 0 < d₁) (z₂ : 0 < d₂) : Rat.divInt n₁ d₁ + Rat.divInt n₂ d₂ = Rat.divInt (n₁ * d₂ + n₂ * d₁) (d₁ * d₂) := Rat.divInt_add_divInt _ _ (by omega) (by omega)
set_option maxRecDepth 100000 in
set_option maxHeartbeats 4000000 in
theorem calc_add (s1 : Bool) (A1 : Option Addr) (n1 c1 : Nat) (t1 : Bool) (B1 : Option Addr) (m1 d1 : Nat) (p : Rat) (s2 : Bool) (A2 : Option Addr) (n2 c2 : Nat) (t2 : Bool) (B2 : Option Addr) (m2 d2 : Nat) (q : Rat) (w : World) (h1 : QArg w s1 A1 n1 c1 t1 B1 m1 d1 p) (h2 : QArg w s2 A2 n2 c2 t2 B2 m2 d2 q) :
  Calls Tryz.prog 54 #[.int .u8 43, .agg #[.bool s1, .slice A1 n1 c1, .bool t1, .slice B1 m1 d1], .agg #[.bool s2, .slice A2 n2 c2, .bool t2, .slice B2 m2 d2]] w (RetQ w (p + q)) := by
 go_enter Tryz.func54, Tryz.ntmps54
 go_wp2_with fail
 obtain ⟨k1, k2, k3, hE⟩ := boxQ3 w (.bool s1) (.slice A1 n1 c1) (.bool t1) (.slice B1 m1 d1) (.bool s2) (.slice A2 n2 c2) (.bool t2) (.slice B2 m2 d2) 29
 generalize ((w.alloc (.cells #[.bool s1, .slice A1 n1 c1, .bool t1, .slice B1 m1 d1] 29)).alloc (.cells #[.bool s2, .slice A2 n2 c2, .bool t2, .slice B2 m2 d2] 29)).alloc (.cells #[.bool false, .slice none 0 0, .bool false, .slice none 0 0] 29) = w1 at *
 refine (parts_any s1 A1 n1 c1 t1 B1 m1 d1 p w1 (h1.ext hE)).mono ?_
 rintro e w2 ⟨a1, X1, i1, j1, a2, X2, i2, j2, z1, y1, rfl, hz1, hy1, hp1, hq1, hi1, hi2, hE2⟩
 have K2 := LH (k2.ext hE2)
 have K3 := LH (k3.ext hE2)
 have HE2 := LH (ET hE hE2)
 have H2 := LH h2
 have HZ1 := LH hz1
 have HY1 := LH hy1
 have HQ1 := LH hq1
 clear k1 k2 k3 hE hE2 h1 h2 hz1 hy1 hq1
 obtain ⟨⟨g0, g1, g2, g3⟩, _, hl2⟩ := K2.out
 have hl3 : w.heap.size + 1 + 1 < w2.heap.size := K3.out.2.2
 have hl4 : w.heap.size < w2.heap.size := by omega
 go_wp2_with fail
 obtain ⟨c7, c8, hE3⟩ := two2 w2 (.bool a1) (.slice X1 i1 j1) (.bool a2) (.slice X2 i2 j2) 27
 generalize ((w2.alloc (.cells #[.bool a1, .slice X1 i1 j1] 27)).alloc (.cells #[.bool a2, .slice X2 i2 j2] 27)) = w3 at *
 refine (parts_any s2 A2 n2 c2 t2 B2 m2 d2 q w3 (H2.out.ext (ET HE2.out hE3))).mono ?_
 rintro e w4 ⟨b1, Y1, u1, v1, b2, Y2, u2, v2, z2, y2, rfl, hz2, hy2, hp2, hq2, hu1, hu2, hE4⟩
 have hE34 := ET hE3 hE4
 have C7 := LH (c7.ext hE4)
 have C8 := LH (c8.ext hE4)
 have K3' := LH (K3.out.ext hE34)
 have HE4 := LH (ET HE2.out hE34)
 have HZ1' := LH (HZ1.out.ext hE34)
 have HY1' := LH (HY1.out.ext hE34)
 have HZ2 := LH hz2
 have HY2 := LH hy2
 have HQ2 := LH hq2
 have hl7 : w2.heap.size + 1 < w4.heap.size := C8.out.2.2.2.2
 clear c7 c8 hE3 hE4 hE34 hz2 hy2 hq2 HZ1 HY1 K2 K3 g0 g1 g2 g3 HE2 H2
 go_wp2_with fail
 obtain ⟨c9, c10, hE5⟩ := two2 w4 (.bool b1) (.slice Y1 u1 v1) (.bool b2) (.slice Y2 u2 v2) 27
 generalize ((w4.alloc (.cells #[.bool b1, .slice Y1 u1 v1] 27)).alloc (.cells #[.bool b2, .slice Y2 u2 v2] 27)) = w5 at *
 have D7 := LH ((C7.out.ext hE5).ext (Ext.rfl' (w := w5)).drew)
 have D8 := LH ((C8.out.ext hE5).ext (Ext.rfl' (w := w5)).drew)
 have D3 := LH ((K3'.out.ext hE5).ext (Ext.rfl' (w := w5)).drew)
 have D9 := LH (c9.ext (Ext.rfl' (w := w5)).drew)
 have D10 := LH (c10.ext (Ext.rfl' (w := w5)).drew)
 have HE5 : Hid (Ext w w5.drew) := (ET HE4.out hE5).drew
 have G1 := LH ((HZ1'.out.ext hE5).ext (Ext.rfl' (w := w5)).drew)
 have G2 := LH ((HY1'.out.ext hE5).ext (Ext.rfl' (w := w5)).drew)
 have G3 := LH ((HZ2.out.ext hE5).ext (Ext.rfl' (w := w5)).drew)
 have G4 := LH ((HY2.out.ext hE5).ext (Ext.rfl' (w := w5)).drew)
 have hl3' : w.heap.size + 1 + 1 < w5.drew.heap.size := D3.out.2.2
 clear c9 c10 hE5 C7 C8 K3' HE4 HZ1' HY1' HZ2 HY2
 refine wp_region_lex (C := InX w5.drew []) (by kernel_rfl) (by kernel_rfl) (inX_self _ _) ?_
 generalize w5.drew = wd at *
 have x0 := fun y : ExtX wd [] => y.cell (p := ⟨w2.heap.size, 0, none⟩) D7.out.1 (by simp)
 have x1 := fun y : ExtX wd [] => y.cell (p := ⟨w2.heap.size, 1, none⟩) D7.out.2.1 (by simp)
 have x2 := fun y : ExtX wd [] => y.cell (p := ⟨w2.heap.size + 1, 0, none⟩) D8.out.1 (by simp)
 have x3 := fun y : ExtX wd [] => y.cell (p := ⟨w2.heap.size + 1, 1, none⟩) D8.out.2.1 (by simp)
 have x4 := fun y : ExtX wd [] => y.cell (p := ⟨w4.heap.size, 0, none⟩) D9.out.1 (by simp)
 have x5 := fun y : ExtX wd [] => y.cell (p := ⟨w4.heap.size, 1, none⟩) D9.out.2.1 (by simp)
 have x6 := fun y : ExtX wd [] => y.cell (p := ⟨w4.heap.size + 1, 0, none⟩) D10.out.1 (by simp)
 have x7 := fun y : ExtX wd [] => y.cell (p := ⟨w4.heap.size + 1, 1, none⟩) D10.out.2.1 (by simp)
 repeat (refine wpLex_still (by rfl) ?_; go_big_quiet_step (exact ⟨rfl, rfl⟩); refine wpQuiet_nil ?_)
 refine wpLex_move (by rfl) (by rfl) ?_
 go_wp2_with fail
 refine (ops_any wd).mono ?_
 rintro e w6 ⟨bm, rfl, hE6, nm, hown⟩
 have hlook := look_op hown 43 (.int .u8 43) (by kernel_rfl) (opAt 111) tab_add
 unfold opAt at hlook
 clear hown
 go_wp2_with fail
 refine And.intro (inX_of_ext _ hE6) ?_
 repeat (refine wpLex_still (by rfl) ?_; go_big_quiet_step (exact ⟨rfl, rfl⟩); refine wpQuiet_nil ?_)
 refine wpLex_move (by rfl) (by rfl) ?_
 go_wp2_with fail
 refine And.intro (inX_of_ext _ hE6) ?_
 clear hlook
 repeat (refine wpLex_still (by rfl) ?_; go_big_quiet_step (exact ⟨rfl, rfl⟩); refine wpQuiet_nil ?_)
 refine wpLex_move (by rfl) (by rfl) ?_
 go_wp2_with fail
 refine (clos_add a1 X1 i1 j1 z1 a2 X2 i2 j2 y1 b1 Y1 u1 v1 z2 b2 Y2 u2 v2 y2 w6 (G1.out.ext hE6) (G2.out.ext hE6) (G3.out.ext hE6) (G4.out.ext hE6) hi1 hi2 hu1 hu2).mono ?_
 rintro e w7 ⟨r1, R1, k1, l1, r2, R2, k2, l2, rfl, hn7, hd7, hk1, hk2, hE7⟩
 have HN7 := LH hn7
 have HD7 := LH hd7
 have hE67 := ET hE6 hE7
 clear hn7 hd7
 go_wp2_with fail
 refine And.intro (inX_of_ext _ hE67) ?_
 repeat (refine wpLex_still (by rfl) ?_; go_big_quiet_step (exact ⟨rfl, rfl⟩); refine wpQuiet_nil ?_)
 refine wpLex_move (by rfl) (by rfl) ?_
 go_wp2_with fail
 refine (reduce_any r1 R1 k1 l1 _ r2 R2 k2 l2 _ w7 HN7.out.is HD7.out.is hk1 hk2 (Int.mul_pos hp1 hp2)).mono ?_
 rintro e w8 ⟨s, A, n, c, t, B, m, d, rfl, hQ, hE8⟩
 have HQ : Hid (QCan w8 w7.heap.size s A n c t B m d (p + q)) := by
  unfold Hid
  rw [HQ1.out, HQ2.out, divInt_add' _ _ hp1 hp2]
  exact hQ
 have hE68 := ET hE67 hE8
 obtain ⟨⟨e0, e1, e2, e3⟩, ⟨f0, f1, f2, f3⟩, el⟩ := D3.out.ext hE68
 have HE8 := LH (ET HE5.out hE68)
 have HX8 := LH (inX_of_ext [] hE68)
 have hs7 : wd.heap.size ≤ w7.heap.size := hE67.size
 clear hQ hE8 hE67 hE68 hE6 hE7
 go_wp2_with fail
 refine And.intro HX8.out ?_
 refine wpLex_last (by rfl) (by kernel_rfl) (by rfl) ?_
 go_wp2_with fail
 refine And.intro trivial (wpLex_nil ?_)
 go_wp2_with fail
 refine bodyPost_ret (v := .agg #[.bool s, .slice A n c, .bool t, .slice B m d]) (by simp [results, Tryz.results54, go_sem, e0, e1, e2, e3]) rfl ?_
 exact ⟨_, _, _, _, _, _, _, _, rfl, retQ_fill (by omega) (by omega) HQ.out HE8.out _ _ _ _⟩
set_option maxRecDepth 100000 in
set_option maxHeartbeats 4000000 in
theorem calc_sub (s1 : Bool) (A1 : Option Addr) (n1 c1 : Nat) (t1 : Bool) (B1 : Option Addr) (m1 d1 : Nat) (p : Rat) (s2 : Bool) (A2 : Option Addr) (n2 c2 : Nat) (t2 : Bool) (B2 : Option Addr) (m2 d2 : Nat) (q : Rat) (w : World) (h1 : QArg w s1 A1 n1 c1 t1 B1 m1 d1 p) (h2 : QArg w s2 A2 n2 c2 t2 B2 m2 d2 q) :
  Calls Tryz.prog 54 #[.int .u8 45, .agg #[.bool s1, .slice A1 n1 c1, .bool t1, .slice B1 m1 d1], .agg #[.bool s2, .slice A2 n2 c2, .bool t2, .slice B2 m2 d2]] w (RetQ w (p - q)) := by
 go_enter Tryz.func54, Tryz.ntmps54
 go_wp2_with fail
 obtain ⟨k1, k2, k3, hE⟩ := boxQ3 w (.bool s1) (.slice A1 n1 c1) (.bool t1) (.slice B1 m1 d1) (.bool s2) (.slice A2 n2 c2) (.bool t2) (.slice B2 m2 d2) 29
 generalize ((w.alloc (.cells #[.bool s1, .slice A1 n1 c1, .bool t1, .slice B1 m1 d1] 29)).alloc (.cells #[.bool s2, .slice A2 n2 c2, .bool t2, .slice B2 m2 d2] 29)).alloc (.cells #[.bool false, .slice none 0 0, .bool false, .slice none 0 0] 29) = w1 at *
 refine (parts_any s1 A1 n1 c1 t1 B1 m1 d1 p w1 (h1.ext hE)).mono ?_
 rintro e w2 ⟨a1, X1, i1, j1, a2, X2, i2, j2, z1, y1, rfl, hz1, hy1, hp1, hq1, hi1, hi2, hE2⟩
 have K2 := LH (k2.ext hE2)
 have K3 := LH (k3.ext hE2)
 have HE2 := LH (ET hE hE2)
 have H2 := LH h2
 have HZ1 := LH hz1
 have HY1 := LH hy1
 have HQ1 := LH hq1
 clear k1 k2 k3 hE hE2 h1 h2 hz1 hy1 hq1
 obtain ⟨⟨g0, g1, g2, g3⟩, _, hl2⟩ := K2.out
 have hl3 : w.heap.size + 1 + 1 < w2.heap.size := K3.out.2.2
 have hl4 : w.heap.size < w2.heap.size := by omega
 go_wp2_with fail
 obtain ⟨c7, c8, hE3⟩ := two2 w2 (.bool a1) (.slice X1 i1 j1) (.bool a2) (.slice X2 i2 j2) 27
 generalize ((w2.alloc (.cells #[.bool a1, .slice X1 i1 j1] 27)).alloc (.cells #[.bool a2, .slice X2 i2 j2] 27)) = w3 at *
 refine (parts_any s2 A2 n2 c2 t2 B2 m2 d2 q w3 (H2.out.ext (ET HE2.out hE3))).mono ?_
 rintro e w4 ⟨b1, Y1, u1, v1, b2, Y2, u2, v2, z2, y2, rfl, hz2, hy2, hp2, hq2, hu1, hu2, hE4⟩
 have hE34 := ET hE3 hE4
 have C7 := LH (c7.ext hE4)
 have C8 := LH (c8.ext hE4)
 have K3' := LH (K3.out.ext hE34)
 have HE4 := LH (ET HE2.out hE34)
 have HZ1' := LH (HZ1.out.ext hE34)
 have HY1' := LH (HY1.out.ext hE34)
 have HZ2 := LH hz2
 have HY2 := LH hy2
 have HQ2 := LH hq2
 have hl7 : w2.heap.size + 1 < w4.heap.size := C8.out.2.2.2.2
 clear c7 c8 hE3 hE4 hE34 hz2 hy2 hq2 HZ1 HY1 K2 K3 g0 g1 g2 g3 HE2 H2
 go_wp2_with fail
 obtain ⟨c9, c10, hE5⟩ := two2 w4 (.bool b1) (.slice Y1 u1 v1) (.bool b2) (.slice Y2 u2 v2) 27
 generalize ((w4.alloc (.cells #[.bool b1, .slice Y1 u1 v1] 27)).alloc (.cells #[.bool b2, .slice Y2 u2 v2] 27)) = w5 at *
 have D7 := LH ((C7.out.ext hE5).ext (Ext.rfl' (w := w5)).drew)
 have D8 := LH ((C8.out.ext hE5).ext (Ext.rfl' (w := w5)).drew)
 have D3 := LH ((K3'.out.ext hE5).ext (Ext.rfl' (w := w5)).drew)
 have D9 := LH (c9.ext (Ext.rfl' (w := w5)).drew)
 have D10 := LH (c10.ext (Ext.rfl' (w := w5)).drew)
 have HE5 : Hid (Ext w w5.drew) := (ET HE4.out hE5).drew
 have G1 := LH ((HZ1'.out.ext hE5).ext (Ext.rfl' (w := w5)).drew)
 have G2 := LH ((HY1'.out.ext hE5).ext (Ext.rfl' (w := w5)).drew)
 have G3 := LH ((HZ2.out.ext hE5).ext (Ext.rfl' (w := w5)).drew)
 have G4 := LH ((HY2.out.ext hE5).ext (Ext.rfl' (w := w5)).drew)
 have hl3' : w.heap.size + 1 + 1 < w5.drew.heap.size := D3.out.2.2
 clear c9 c10 hE5 C7 C8 K3' HE4 HZ1' HY1' HZ2 HY2
 refine wp_region_lex (C := InX w5.drew []) (by kernel_rfl) (by kernel_rfl) (inX_self _ _) ?_
 generalize w5.drew = wd at *
 have x0 := fun y : ExtX wd [] => y.cell (p := ⟨w2.heap.size, 0, none⟩) D7.out.1 (by simp)
 have x1 := fun y : ExtX wd [] => y.cell (p := ⟨w2.heap.size, 1, none⟩) D7.out.2.1 (by simp)
 have x2 := fun y : ExtX wd [] => y.cell (p := ⟨w2.heap.size + 1, 0, none⟩) D8.out.1 (by simp)
 have x3 := fun y : ExtX wd [] => y.cell (p := ⟨w2.heap.size + 1, 1, none⟩) D8.out.2.1 (by simp)
 have x4 := fun y : ExtX wd [] => y.cell (p := ⟨w4.heap.size, 0, none⟩) D9.out.1 (by simp)
 have x5 := fun y : ExtX wd [] => y.cell (p := ⟨w4.heap.size, 1, none⟩) D9.out.2.1 (by simp)
 have x6 := fun y : ExtX wd [] => y.cell (p := ⟨w4.heap.size + 1, 0, none⟩) D10.out.1 (by simp)
 have x7 := fun y : ExtX wd [] => y.cell (p := ⟨w4.heap.size + 1, 1, none⟩) D10.out.2.1 (by simp)
 repeat (refine wpLex_still (by rfl) ?_; go_big_quiet_step (exact ⟨rfl, rfl⟩); refine wpQuiet_nil ?_)
 refine wpLex_move (by rfl) (by rfl) ?_
 go_wp2_with fail
 refine (ops_any wd).mono ?_
 rintro e w6 ⟨bm, rfl, hE6, nm, hown⟩
 have hlook := look_op hown 45 (.int .u8 45) (by kernel_rfl) (opAt 113) tab_sub
 unfold opAt at hlook
 clear hown
 go_wp2_with fail
 refine And.intro (inX_of_ext _ hE6) ?_
 repeat (refine wpLex_still (by rfl) ?_; go_big_quiet_step (exact ⟨rfl, rfl⟩); refine wpQuiet_nil ?_)
 refine wpLex_move (by rfl) (by rfl) ?_
 go_wp2_with fail
 refine And.intro (inX_of_ext _ hE6) ?_
 clear hlook
 repeat (refine wpLex_still (by rfl) ?_; go_big_quiet_step (exact ⟨rfl, rfl⟩); refine wpQuiet_nil ?_)
 refine wpLex_move (by rfl) (by rfl) ?_
 go_wp2_with fail
 refine (clos_sub a1 X1 i1 j1 z1 a2 X2 i2 j2 y1 b1 Y1 u1 v1 z2 b2 Y2 u2 v2 y2 w6 (G1.out.ext hE6) (G2.out.ext hE6) (G3.out.ext hE6) (G4.out.ext hE6) hi1 hi2 hu1 hu2).mono ?_
 rintro e w7 ⟨r1, R1, k1, l1, r2, R2, k2, l2, rfl, hn7, hd7, hk1, hk2, hE7⟩
 have HN7 := LH hn7
 have HD7 := LH hd7
 have hE67 := ET hE6 hE7
 clear hn7 hd7
 go_wp2_with fail
 refine And.intro (inX_of_ext _ hE67) ?_
 repeat (refine wpLex_still (by rfl) ?_; go_big_quiet_step (exact ⟨rfl, rfl⟩); refine wpQuiet_nil ?_)
 refine wpLex_move (by rfl) (by rfl) ?_
 go_wp2_with fail
 refine (reduce_any r1 R1 k1 l1 _ r2 R2 k2 l2 _ w7 HN7.out.is HD7.out.is hk1 hk2 (Int.mul_pos hp1 hp2)).mono ?_
 rintro e w8 ⟨s, A, n, c, t, B, m, d, rfl, hQ, hE8⟩
 have HQ : Hid (QCan w8 w7.heap.size s A n c t B m d (p - q)) := by
  unfold Hid
  rw [HQ1.out, HQ2.out, divInt_sub' _ _ hp1 hp2]
  exact hQ
 have hE68 := ET hE67 hE8
 obtain ⟨⟨e0, e1, e2, e3⟩, ⟨f0, f1, f2, f3⟩, el⟩ := D3.out.ext hE68
 have HE8 := LH (ET HE5.out hE68)
 have HX8 := LH (inX_of_ext [] hE68)
 have hs7 : wd.heap.size ≤ w7.heap.size := hE67.size
 clear hQ hE8 hE67 hE68 hE6 hE7
 go_wp2_with fail
 refine And.intro HX8.out ?_
 refine wpLex_last (by rfl) (by kernel_rfl) (by rfl) ?_
 go_wp2_with fail
 refine And.intro trivial (wpLex_nil ?_)
 go_wp2_with fail
 refine bodyPost_ret (v := .agg #[.bool s, .slice A n c, .bool t, .slice B m d]) (by simp [results, Tryz.results54, go_sem, e0, e1, e2, e3]) rfl ?_
 exact ⟨_, _, _, _, _, _, _, _, rfl, retQ_fill (by omega) (by omega) HQ.out HE8.out _ _ _ _⟩
set_option maxRecDepth 100000 in
set_option maxHeartbeats 4000000 in
theorem calc_mul (s1 : Bool) (A1 : Option Addr) (n1 c1 : Nat) (t1 : Bool) (B1 : Option Addr) (m1 d1 : Nat) (p : Rat) (s2 : Bool) (A2 : Option Addr) (n2 c2 : Nat) (t2 : Bool) (B2 : Option Addr) (m2 d2 : Nat) (q : Rat) (w : World) (h1 : QArg w s1 A1 n1 c1 t1 B1 m1 d1 p) (h2 : QArg w s2 A2 n2 c2 t2 B2 m2 d2 q) :
  Calls Tryz.prog 54 #[.int .u8 42, .agg #[.bool s1, .slice A1 n1 c1, .bool t1, .slice B1 m1 d1], .agg #[.bool s2, .slice A2 n2 c2, .bool t2, .slice B2 m2 d2]] w (RetQ w (p * q)) := by
 go_enter Tryz.func54, Tryz.ntmps54
 go_wp2_with fail
 obtain ⟨k1, k2, k3, hE⟩ := boxQ3 w (.bool s1) (.slice A1 n1 c1) (.bool t1) (.slice B1 m1 d1) (.bool s2) (.slice A2 n2 c2) (.bool t2) (.slice B2 m2 d2) 29
 generalize ((w.alloc (.cells #[.bool s1, .slice A1 n1 c1, .bool t1, .slice B1 m1 d1] 29)).alloc (.cells #[.bool s2, .slice A2 n2 c2, .bool t2, .slice B2 m2 d2] 29)).alloc (.cells #[.bool false, .slice none 0 0, .bool false, .slice none 0 0] 29) = w1 at *
 refine (parts_any s1 A1 n1 c1 t1 B1 m1 d1 p w1 (h1.ext hE)).mono ?_
 rintro e w2 ⟨a1, X1, i1, j1, a2, X2, i2, j2, z1, y1, rfl, hz1, hy1, hp1, hq1, hi1, hi2, hE2⟩
 have K2 := LH (k2.ext hE2)
 have K3 := LH (k3.ext hE2)
 have HE2 := LH (ET hE hE2)
 have H2 := LH h2
 have HZ1 := LH hz1
 have HY1 := LH hy1
 have HQ1 := LH hq1
 clear k1 k2 k3 hE hE2 h1 h2 hz1 hy1 hq1
 obtain ⟨⟨g0, g1, g2, g3⟩, _, hl2⟩ := K2.out
 have hl3 : w.heap.size + 1 + 1 < w2.heap.size := K3.out.2.2
 have hl4 : w.heap.size < w2.heap.size := by omega
 go_wp2_with fail
 obtain ⟨c7, c8, hE3⟩ := two2 w2 (.bool a1) (.slice X1 i1 j1) (.bool a2) (.slice X2 i2 j2) 27
 generalize ((w2.alloc (.cells #[.bool a1, .slice X1 i1 j1] 27)).alloc (.cells #[.bool a2, .slice X2 i2 j2] 27)) = w3 at *
 refine (parts_any s2 A2 n2 c2 t2 B2 m2 d2 q w3 (H2.out.ext (ET HE2.out hE3))).mono ?_
 rintro e w4 ⟨b1, Y1, u1, v1, b2, Y2, u2, v2, z2, y2, rfl, hz2, hy2, hp2, hq2, hu1, hu2, hE4⟩
 have hE34 := ET hE3 hE4
 have C7 := LH (c7.ext hE4)
 have C8 := LH (c8.ext hE4)
 have K3' := LH (K3.out.ext hE34)
 have HE4 := LH (ET HE2.out hE34)
 have HZ1' := LH (HZ1.out.ext hE34)
 have HY1' := LH (HY1.out.ext hE34)
 have HZ2 := LH hz2
 have HY2 := LH hy2
 have HQ2 := LH hq2
 have hl7 : w2.heap.size + 1 < w4.heap.size := C8.out.2.2.2.2
 clear c7 c8 hE3 hE4 hE34 hz2 hy2 hq2 HZ1 HY1 K2 K3 g0 g1 g2 g3 HE2 H2
 go_wp2_with fail
 obtain ⟨c9, c10, hE5⟩ := two2 w4 (.bool b1) (.slice Y1 u1 v1) (.bool b2) (.slice Y2 u2 v2) 27
 generalize ((w4.alloc (.cells #[.bool b1, .slice Y1 u1 v1] 27)).alloc (.cells #[.bool b2, .slice Y2 u2 v2] 27)) = w5 at *
 have D7 := LH ((C7.out.ext hE5).ext (Ext.rfl' (w := w5)).drew)
 have D8 := LH ((C8.out.ext hE5).ext (Ext.rfl' (w := w5)).drew)
 have D3 := LH ((K3'.out.ext hE5).ext (Ext.rfl' (w := w5)).drew)
 have D9 := LH (c9.ext (Ext.rfl' (w := w5)).drew)
 have D10 := LH (c10.ext (Ext.rfl' (w := w5)).drew)
 have HE5 : Hid (Ext w w5.drew) := (ET HE4.out hE5).drew
 have G1 := LH ((HZ1'.out.ext hE5).ext (Ext.rfl' (w := w5)).drew)
 have G2 := LH ((HY1'.out.ext hE5).ext (Ext.rfl' (w := w5)).drew)
 have G3 := LH ((HZ2.out.ext hE5).ext (Ext.rfl' (w := w5)).drew)
 have G4 := LH ((HY2.out.ext hE5).ext (Ext.rfl' (w := w5)).drew)
 have hl3' : w.heap.size + 1 + 1 < w5.drew.heap.size := D3.out.2.2
 clear c9 c10 hE5 C7 C8 K3' HE4 HZ1' HY1' HZ2 HY2
 refine wp_region_lex (C := InX w5.drew []) (by kernel_rfl) (by kernel_rfl) (inX_self _ _) ?_
 generalize w5.drew = wd at *
 have x0 := fun y : ExtX wd [] => y.cell (p := ⟨w2.heap.size, 0, none⟩) D7.out.1 (by simp)
 have x1 := fun y : ExtX wd [] => y.cell (p := ⟨w2.heap.size, 1, none⟩) D7.out.2.1 (by simp)
 have x2 := fun y : ExtX wd [] => y.cell (p := ⟨w2.heap.size + 1, 0, none⟩) D8.out.1 (by simp)
 have x3 := fun y : ExtX wd [] => y.cell (p := ⟨w2.heap.size + 1, 1, none⟩) D8.out.2.1 (by simp)
 have x4 := fun y : ExtX wd [] => y.cell (p := ⟨w4.heap.size, 0, none⟩) D9.out.1 (by simp)
 have x5 := fun y : ExtX wd [] => y.cell (p := ⟨w4.heap.size, 1, none⟩) D9.out.2.1 (by simp)
 have x6 := fun y : ExtX wd [] => y.cell (p := ⟨w4.heap.size + 1, 0, none⟩) D10.out.1 (by simp)
 have x7 := fun y : ExtX wd [] => y.cell (p := ⟨w4.heap.size + 1, 1, none⟩) D10.out.2.1 (by simp)
 repeat (refine wpLex_still (by rfl) ?_; go_big_quiet_step (exact ⟨rfl, rfl⟩); refine wpQuiet_nil ?_)
 refine wpLex_move (by rfl) (by rfl) ?_
 go_wp2_with fail
 refine (ops_any wd).mono ?_
 rintro e w6 ⟨bm, rfl, hE6, nm, hown⟩
 have hlook := look_op hown 42 (.int .u8 42) (by kernel_rfl) (opAt 115) tab_mul
 unfold opAt at hlook
 clear hown
 go_wp2_with fail
 refine And.intro (inX_of_ext _ hE6) ?_
 repeat (refine wpLex_still (by rfl) ?_; go_big_quiet_step (exact ⟨rfl, rfl⟩); refine wpQuiet_nil ?_)
 refine wpLex_move (by rfl) (by rfl) ?_
 go_wp2_with fail
 refine And.intro (inX_of_ext _ hE6) ?_
 clear hlook
 repeat (refine wpLex_still (by rfl) ?_; go_big_quiet_step (exact ⟨rfl, rfl⟩); refine wpQuiet_nil ?_)
 refine wpLex_move (by rfl) (by rfl) ?_
 go_wp2_with fail
 refine (clos_mul a1 X1 i1 j1 z1 a2 X2 i2 j2 y1 b1 Y1 u1 v1 z2 b2 Y2 u2 v2 y2 w6 (G1.out.ext hE6) (G2.out.ext hE6) (G3.out.ext hE6) (G4.out.ext hE6) hi1 hi2 hu1 hu2).mono ?_
 rintro e w7 ⟨r1, R1, k1, l1, r2, R2, k2, l2, rfl, hn7, hd7, hk1, hk2, hE7⟩
 have HN7 := LH hn7
 have HD7 := LH hd7
 have hE67 := ET hE6 hE7
 clear hn7 hd7
 go_wp2_with fail
 refine And.intro (inX_of_ext _ hE67) ?_
 repeat (refine wpLex_still (by rfl) ?_; go_big_quiet_step (exact ⟨rfl, rfl⟩); refine wpQuiet_nil ?_)
 refine wpLex_move (by rfl) (by rfl) ?_
 go_wp2_with fail
 refine (reduce_any r1 R1 k1 l1 _ r2 R2 k2 l2 _ w7 HN7.out.is HD7.out.is hk1 hk2 (Int.mul_pos hp1 hp2)).mono ?_
 rintro e w8 ⟨s, A, n, c, t, B, m, d, rfl, hQ, hE8⟩
 have HQ : Hid (QCan w8 w7.heap.size s A n c t B m d (p * q)) := by
  unfold Hid
  rw [HQ1.out, HQ2.out, Rat.divInt_mul_divInt]
  exact hQ
 have hE68 := ET hE67 hE8
 obtain ⟨⟨e0, e1, e2, e3⟩, ⟨f0, f1, f2, f3⟩, el⟩ := D3.out.ext hE68
 have HE8 := LH (ET HE5.out hE68)
 have HX8 := LH (inX_of_ext [] hE68)
 have hs7 : wd.heap.size ≤ w7.heap.size := hE67.size
 clear hQ hE8 hE67 hE68 hE6 hE7
 go_wp2_with fail
 refine And.intro HX8.out ?_
 refine wpLex_last (by rfl) (by kernel_rfl) (by rfl) ?_
 go_wp2_with fail
 refine And.intro trivial (wpLex_nil ?_)
 go_wp2_with fail
 refine bodyPost_ret (v := .agg #[.bool s, .slice A n c, .bool t, .slice B m d]) (by simp [results, Tryz.results54, go_sem, e0, e1, e2, e3]) rfl ?_
 exact ⟨_, _, _, _, _, _, _, _, rfl, retQ_fill (by omega) (by omega) HQ.out HE8.out _ _ _ _⟩
end Go.Proofs.YtjinpfnefeiooaaGreat
