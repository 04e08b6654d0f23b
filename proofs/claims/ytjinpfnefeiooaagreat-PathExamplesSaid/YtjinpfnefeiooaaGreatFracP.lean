/- A part of the proof. -/
import Derived.Test.YtjinpfnefeiooaaGreatFracQ
namespace Go.Proofs.YtjinpfnefeiooaaGreat
open Go.RowKit

def RetParts (w : World) (q : Rat) (e : Ending) (w' : World) : Prop := ∃ (s : Bool) (A : Option Addr) (n c : Nat) (t : Bool) (B : Option Addr) (m d : Nat) (z y : Int), e = .returned (.tuple #[.agg #[.bool s, .slice A n c], .agg #[.bool t, .slice B m d]]) ∧ ZIs w' s A n c z ∧ ZIs w' t B m d y ∧ 0 < y ∧ q = Rat.divInt z y ∧ n ≤ 33554432 ∧ m ≤ 33554432 ∧ Ext w w'
theorem inX_put2 {w0 w1 : World} {X : List Nat} (h : InX w0 X w1) {r : Nat} (hp : r ∈ X) (v0 v1 : Value) : InX w0 X ((w1.setCell ⟨r, 0, none⟩ v0).setCell ⟨r, 1, none⟩ v1) := inX_put (inX_put h (p := ⟨r, 0, none⟩) (Or.inl hp) v0) (p := ⟨r, 1, none⟩) (Or.inl hp) v1
theorem put2_cell {w : World} {r k o : Nat} (v0 v1 : Value) (h : r ≠ k) {u : Value} (hc : w.cell? ⟨k, o, none⟩ = some u) : ((w.setCell ⟨r, 0, none⟩ v0).setCell ⟨r, 1, none⟩ v1).cell? ⟨k, o, none⟩ = some u := by
 rw [World.cell?_setCell_other _ _ _ _ (by intro hh; injection hh; omega), World.cell?_setCell_other _ _ _ _ (by intro hh; injection hh; omega), hc]
theorem Cell2.far {w : World} {r k : Nat} {u0 u1 : Value} (h : Cell2 w k u0 u1) (hr : r ≠ k) (v0 v1 : Value) : Cell2 ((w.setCell ⟨r, 0, none⟩ v0).setCell ⟨r, 1, none⟩ v1) k u0 u1 :=
 ⟨put2_cell v0 v1 hr h.1, put2_cell v0 v1 hr h.2.1, by rw [World.frozen?_setCell, World.frozen?_setCell]; exact h.2.2.1, by rw [World.frozen?_setCell, World.frozen?_setCell]; exact h.2.2.2.1, by simpa [World.setCell] using h.2.2.2.2⟩
theorem Cell2.put {w : World} {k : Nat} {u0 u1 : Value} (h : Cell2 w k u0 u1) (v0 v1 : Value) : Cell2 ((w.setCell ⟨k, 0, none⟩ v0).setCell ⟨k, 1, none⟩ v1) k v0 v1 :=
  ⟨by rw [World.cell?_setCell_other _ _ _ _ (by intro hh; injection hh; omega)]; exact World.cell?_setCell_same' _ _ _ (by rw [h.1]; rfl),
   World.cell?_setCell_same' _ _ _ (by rw [World.cell?_setCell_other _ _ _ _ (by intro hh; injection hh; omega), h.2.1]; rfl), by rw [World.frozen?_setCell, World.frozen?_setCell]; exact h.2.2.1, by rw [World.frozen?_setCell, World.frozen?_setCell]; exact h.2.2.2.1, by simpa [World.setCell] using h.2.2.2.2⟩
theorem ext_put2 {w w1 : World} (h : Ext w w1) {r : Nat} (hr : w.heap.size ≤ r) (v0 v1 : Value) : Ext w ((w1.setCell ⟨r, 0, none⟩ v0).setCell ⟨r, 1, none⟩ v1) := Below.setCell (Below.setCell h (p := ⟨r, 0, none⟩) hr v0) (p := ⟨r, 1, none⟩) hr v1
theorem ZCan.put2 {w : World} {B : Nat} {b : Bool} {A : Option Addr} {n c : Nat} {z : Int} (h : ZCan w B b A n c z) {r : Nat} (hr : r < B) (v0 v1 : Value) : ZCan ((w.setCell ⟨r, 0, none⟩ v0).setCell ⟨r, 1, none⟩ v1) B b A n c z := (h.put (p := ⟨r, 0, none⟩) hr v0).put (p := ⟨r, 1, none⟩) hr v1
set_option maxRecDepth 100000 in
set_option maxHeartbeats 4000000 in
theorem parts_any (s : Bool) (A : Option Addr) (n c : Nat) (t : Bool) (B : Option Addr) (m d : Nat) (q : Rat) (w : World) (h : QArg w s A n c t B m d q) :
  Calls Tryz.prog 71 #[.agg #[.bool s, .slice A n c, .bool t, .slice B m d]] w (RetParts w q) := by
 obtain ⟨⟨z, y, h1, h2, hq⟩, hn, hm⟩ := h
 have HQ := LH hq
 have H1 := LH h1
 have H2 := LH h2
 clear hq
 go_enter Tryz.func71, Tryz.ntmps71
 go_wp2_with fail
 have k0 := ((Cell4.new w _ rfl (.bool s) (.slice A n c) (.bool t) (.slice B m d) 29).ext (Ext.al Ext.rfl' (.cells #[.bool false, .slice none 0 0] 27))).ext (Ext.al Ext.rfl' (.cells #[.bool false, .slice none 0 0] 27))
 have k1 := (Cell2.new (w.alloc (.cells #[.bool s, .slice A n c, .bool t, .slice B m d] 29)) (w.heap.size + 1) (by simp) (.bool false) (.slice none 0 0) 27).ext (Ext.al Ext.rfl' (.cells #[.bool false, .slice none 0 0] 27))
 have k2 := Cell2.new ((w.alloc (.cells #[.bool s, .slice A n c, .bool t, .slice B m d] 29)).alloc (.cells #[.bool false, .slice none 0 0] 27)) (w.heap.size + 1 + 1) (by simp) (.bool false) (.slice none 0 0) 27
 have hE : Ext w (((w.alloc (.cells #[.bool s, .slice A n c, .bool t, .slice B m d] 29)).alloc (.cells #[.bool false, .slice none 0 0] 27)).alloc (.cells #[.bool false, .slice none 0 0] 27)) := Ext.al (Ext.al (Ext.al Ext.rfl' _) _) _
 generalize (((w.alloc (.cells #[.bool s, .slice A n c, .bool t, .slice B m d] 29)).alloc (.cells #[.bool false, .slice none 0 0] 27)).alloc (.cells #[.bool false, .slice none 0 0] 27)) = w1 at *
 refine (sign_any t B m d y w1 (h2.ext hE)).mono ?_
 rintro e w2 ⟨rfl, hE2⟩
 have K0 := LH (k0.ext hE2.drew)
 have K1 := LH (k1.ext hE2.drew)
 have K2 := LH (k2.ext hE2.drew)
 have HE := LH (ET hE hE2.drew)
 clear k0 k1 k2 hE hE2 h1 h2
 have hsz2 : w.heap.size + 1 + 1 < w2.drew.heap.size := K2.out.2.2.2.2
 have x0 := fun y : ExtX w2.drew [w.heap.size + 1, w.heap.size + 1 + 1] => y.cell (p := ⟨w.heap.size, 0, none⟩) K0.out.1.1 (by simp; omega)
 have x1 := fun y : ExtX w2.drew [w.heap.size + 1, w.heap.size + 1 + 1] => y.cell (p := ⟨w.heap.size, 1, none⟩) K0.out.1.2.1 (by simp; omega)
 have x2 := fun y : ExtX w2.drew [w.heap.size + 1, w.heap.size + 1 + 1] => y.cell (p := ⟨w.heap.size, 2, none⟩) K0.out.1.2.2.1 (by simp; omega)
 have x3 := fun y : ExtX w2.drew [w.heap.size + 1, w.heap.size + 1 + 1] => y.cell (p := ⟨w.heap.size, 3, none⟩) K0.out.1.2.2.2 (by simp; omega)
 rcases sign3 y with ⟨hy, e⟩ | ⟨hy, e⟩ | ⟨hy, e⟩
 ·rw [e]
  have HR : Hid (q = Rat.divInt (-z) (-y)) := HQ.out.trans (qOf_neg hy)
  go_wp2_with fail
  refine wp_region_lex (C := InX w2.drew [w.heap.size + 1, w.heap.size + 1 + 1]) (by kernel_rfl) (by kernel_rfl) (inX_self _ _) ?_
  repeat (refine wpLex_still (by rfl) ?_; go_big_quiet_step (fail); refine wpQuiet_nil ?_)
  refine wpLex_move (by rfl) (by rfl) ?_
  go_wp2_with fail
  refine (neg_any s A n c z w2.drew (H1.out.ext HE.out) (by omega)).mono ?_
  rintro e w3 ⟨b3, A3, n3, c3, rfl, hZ3, hE3⟩
  go_wp2_with fail
  refine And.intro (inX_ext (inX_self _ _) hE3) ?_
  repeat (refine wpLex_still (by rfl) ?_; go_big_quiet_step (fail); refine wpQuiet_nil ?_)
  refine wpLex_move (by rfl) (by rfl) ?_
  go_wp2_with fail
  refine (neg_any t B m d y w3 (H2.out.ext (ET HE.out hE3)) (by omega)).mono ?_
  rintro e w4 ⟨b4, A4, n4, c4, rfl, hZ4, hE4⟩
  have HC := LH (ET hE3 hE4)
  have HX := LH (inX_ext (inX_ext (inX_self w2.drew [w.heap.size + 1, w.heap.size + 1 + 1]) hE3) hE4)
  have HZ3 := LH (hZ3.ext hE4)
  have HZ4 := LH (hZ4.base (B' := w2.drew.heap.size) hE3.size)
  have hl3 : n3 ≤ n := words_bd hZ3 (by rw [Int.natAbs_neg]; exact natAbs_ZIs H1.out)
  have hl4 : n4 ≤ m := words_bd hZ4 (by rw [Int.natAbs_neg]; exact natAbs_ZIs H2.out)
  clear hE3 hE4 hZ3 hZ4
  go_wp2_with fail
  refine And.intro HX.out ?_
  repeat (refine wpLex_still (by rfl) ?_; go_big_quiet_step (fail); refine wpQuiet_nil ?_)
  obtain ⟨d0, d1, d2, d3, d4⟩ := K1.out.ext HC.out
  obtain ⟨e0, e1, e2, e3, e4⟩ := K2.out.ext HC.out
  refine wpLex_move (by rfl) (by rfl) ?_
  go_wp2_with fail
  refine And.intro (inX_put2 HX.out (by simp) _ _) ?_
  have e0' := put2_cell (w := w4) (r := w.heap.size + 1) (k := w.heap.size + 1 + 1) (.bool b3) (.slice A3 n3 c3) (by omega) e0
  have e1' := put2_cell (w := w4) (r := w.heap.size + 1) (k := w.heap.size + 1 + 1) (.bool b3) (.slice A3 n3 c3) (by omega) e1
  refine wpLex_move (by rfl) (by rfl) ?_
  go_wp2_with fail
  refine And.intro (inX_put2 (inX_put2 HX.out (by simp) _ _) (by simp) _ _) ?_
  refine wpLex_nil ?_
  go_wp2_with fail
  refine bodyPost_ret (v := .tuple #[.agg #[.bool b3, .slice A3 n3 c3], .agg #[.bool b4, .slice A4 n4 c4]]) (by simp [results, Tryz.results71, go_sem, d0, d1, e0, e1]) rfl ?_
  exact ⟨_, _, _, _, _, _, _, _, -z, -y, rfl, ((HZ3.out.put2 (by omega) _ _).put2 (by omega) _ _).is, ((HZ4.out.put2 (by omega) _ _).put2 (by omega) _ _).is, by omega, HR.out, by omega, by omega, ext_put2 (ext_put2 (ET HE.out HC.out) (by omega) _ _) (by omega) _ _⟩
 ·rw [e]
  have HR : Hid (q = Rat.divInt z 1) := HQ.out.trans (by rw [hy, qOf_zero, divInt_one])
  clear hy
  go_wp2_with fail
  refine wp_region_lex (C := InX w2.drew [w.heap.size + 1, w.heap.size + 1 + 1]) (by kernel_rfl) (by kernel_rfl) (inX_self _ _) ?_
  repeat (refine wpLex_still (by rfl) ?_; go_big_quiet_step (fail); refine wpQuiet_nil ?_)
  refine wpLex_move (by rfl) (by rfl) ?_
  go_wp2_with fail
  refine (fromInt_any 1 w2.drew ⟨by omega, by omega⟩).mono ?_
  rintro e w4 ⟨b4, A4, n4, c4, rfl, hZ4, hE4⟩
  have HC := LH hE4
  have HX := LH (inX_ext (inX_self w2.drew [w.heap.size + 1, w.heap.size + 1 + 1]) hE4)
  have HZ4 := LH hZ4
  have hl4 : n4 ≤ 1 := words_bd hZ4 (by decide)
  clear hE4 hZ4
  go_wp2_with fail
  refine And.intro HX.out ?_
  repeat (refine wpLex_still (by rfl) ?_; go_big_quiet_step (fail); refine wpQuiet_nil ?_)
  obtain ⟨d0, d1, d2, d3, d4⟩ := K1.out.ext HC.out
  obtain ⟨e0, e1, e2, e3, e4⟩ := K2.out.ext HC.out
  refine wpLex_move (by rfl) (by rfl) ?_
  go_wp2_with fail
  refine And.intro (inX_put2 HX.out (by simp) _ _) ?_
  have e0' := put2_cell (w := w4) (r := w.heap.size + 1) (k := w.heap.size + 1 + 1) (.bool s) (.slice A n c) (by omega) e0
  have e1' := put2_cell (w := w4) (r := w.heap.size + 1) (k := w.heap.size + 1 + 1) (.bool s) (.slice A n c) (by omega) e1
  refine wpLex_move (by rfl) (by rfl) ?_
  go_wp2_with fail
  refine And.intro (inX_put2 (inX_put2 HX.out (by simp) _ _) (by simp) _ _) ?_
  refine wpLex_nil ?_
  go_wp2_with fail
  refine bodyPost_ret (v := .tuple #[.agg #[.bool s, .slice A n c], .agg #[.bool b4, .slice A4 n4 c4]]) (by simp [results, Tryz.results71, go_sem, d0, d1, e0, e1]) rfl ?_
  have hE9 := ext_put2 (ext_put2 (ET HE.out HC.out) (r := w.heap.size + 1) (by omega) (.bool s) (.slice A n c)) (r := w.heap.size + 1 + 1) (by omega) (.bool b4) (.slice A4 n4 c4)
  exact ⟨_, _, _, _, _, _, _, _, z, 1, rfl, H1.out.ext hE9, ((HZ4.out.put2 (by omega) _ _).put2 (by omega) _ _).is, by omega, HR.out, by omega, by omega, hE9⟩
 ·rw [e]
  have HR : Hid (q = Rat.divInt z y) := HQ.out.trans (qOf_pos hy)
  go_wp2_with fail
  refine wp_region_lex (C := InX w2.drew [w.heap.size + 1, w.heap.size + 1 + 1]) (by kernel_rfl) (by kernel_rfl) (inX_self _ _) ?_
  repeat (refine wpLex_still (by rfl) ?_; go_big_quiet_step (fail); refine wpQuiet_nil ?_)
  generalize w2.drew = wd at *
  have HX := LH (inX_self wd [w.heap.size + 1, w.heap.size + 1 + 1])
  obtain ⟨d0, d1, d2, d3, d4⟩ := K1.out
  obtain ⟨e0, e1, e2, e3, e4⟩ := K2.out
  refine wpLex_move (by rfl) (by rfl) ?_
  go_wp2_with fail
  refine And.intro (inX_put2 HX.out (by simp) _ _) ?_
  have e0' := put2_cell (w := wd) (r := w.heap.size + 1) (k := w.heap.size + 1 + 1) (.bool s) (.slice A n c) (by omega) e0
  have e1' := put2_cell (w := wd) (r := w.heap.size + 1) (k := w.heap.size + 1 + 1) (.bool s) (.slice A n c) (by omega) e1
  refine wpLex_move (by rfl) (by rfl) ?_
  go_wp2_with fail
  refine And.intro (inX_put2 (inX_put2 HX.out (by simp) _ _) (by simp) _ _) ?_
  refine wpLex_nil ?_
  go_wp2_with fail
  refine bodyPost_ret (v := .tuple #[.agg #[.bool s, .slice A n c], .agg #[.bool t, .slice B m d]]) (by simp [results, Tryz.results71, go_sem, d0, d1, e0, e1]) rfl ?_
  have hE9 := ext_put2 (ext_put2 HE.out (r := w.heap.size + 1) (by omega) (.bool s) (.slice A n c)) (r := w.heap.size + 1 + 1) (by omega) (.bool t) (.slice B m d)
  exact ⟨_, _, _, _, _, _, _, _, z, y, rfl, H1.out.ext hE9, H2.out.ext hE9, hy, HR.out, by omega, by omega, hE9⟩
end Go.Proofs.YtjinpfnefeiooaaGreat
namespace Go.Proofs.YtjinpfnefeiooaaGreat
open Go.RowKit

theorem Cell4.far {w : World} {r k : Nat} {u0 u1 u2 u3 : Value} (h : Cell4 w k u0 u1 u2 u3) (hr : r ≠ k) (v0 v1 : Value) : Cell4 ((w.setCell ⟨r, 0, none⟩ v0).setCell ⟨r, 1, none⟩ v1) k u0 u1 u2 u3 :=
  ⟨⟨put2_cell v0 v1 hr h.1.1, put2_cell v0 v1 hr h.1.2.1, put2_cell v0 v1 hr h.1.2.2.1, put2_cell v0 v1 hr h.1.2.2.2⟩,
   ⟨by rw [World.frozen?_setCell, World.frozen?_setCell]; exact h.2.1.1, by rw [World.frozen?_setCell, World.frozen?_setCell]; exact h.2.1.2.1, by rw [World.frozen?_setCell, World.frozen?_setCell]; exact h.2.1.2.2.1, by rw [World.frozen?_setCell, World.frozen?_setCell]; exact h.2.1.2.2.2⟩, by simpa [World.setCell] using h.2.2⟩
theorem size_put2 (w : World) (r : Nat) (v0 v1 : Value) : ((w.setCell ⟨r, 0, none⟩ v0).setCell ⟨r, 1, none⟩ v1).heap.size = w.heap.size := by simp [World.setCell]
theorem i64_one (v : Int) : (i64B v = true ∧ i64V v = 1) ↔ v = 1 := by
 unfold i64V i64B
 constructor
 ·rintro ⟨h1, h2⟩
  rw [h1] at h2
  exact h2
 ·rintro rfl
  exact ⟨rfl, rfl⟩
set_option maxRecDepth 100000 in
set_option maxHeartbeats 4000000 in
theorem reduce_any (s : Bool) (A : Option Addr) (n c : Nat) (z : Int) (t : Bool) (B : Option Addr) (m d : Nat) (y : Int) (w : World) (h1 : ZIs w s A n c z) (h2 : ZIs w t B m d y) (hn : n ≤ 268435456) (hm : m ≤ 268435456) (hy : 0 < y) :
  Calls Tryz.prog 70 #[.agg #[.bool s, .slice A n c], .agg #[.bool t, .slice B m d]] w (RetQ w (Rat.divInt z y)) := by
 have HNU : Hid ((Rat.divInt z y).num = z / (Int.gcd z y : Nat)) := num_red hy
 have HDE : Hid (denOf (Rat.divInt z y) = if y / (Int.gcd z y : Nat) = 1 then 0 else y / (Int.gcd z y : Nat)) := by
  unfold Hid denOf
  have := den_red (z := z) hy
  by_cases e : (Rat.divInt z y).den = 1
  ·rw [if_pos e, if_pos (by omega)]
  ·rw [if_neg e, if_neg (by omega), this]
 have HGZ : Hid (((Int.gcd z y : Nat) : Int) ≠ 0 ∧ ((Int.gcd z y : Nat) : Int) ∣ z ∧ ((Int.gcd z y : Nat) : Int) ∣ y) := by
  refine ⟨?_, Int.gcd_dvd_left .., Int.gcd_dvd_right ..⟩
  intro e
  have := (Int.gcd_eq_zero_iff.1 (Int.ofNat.inj e)).2
  omega
 have HSY : Hid (y.sign = 1) := Int.sign_eq_one_of_pos hy
 have H1 := LH h1
 have H2 := LH h2
 clear h1 h2
 go_enter Tryz.func70, Tryz.ntmps70
 go_wp2_with fail
 have k0 := ((Cell2.new w _ rfl (.bool s) (.slice A n c) 27).ext (Ext.al Ext.rfl' (.cells #[.bool t, .slice B m d] 27))).ext (Ext.al Ext.rfl' (.cells #[.bool false, .slice none 0 0, .bool false, .slice none 0 0] 29))
 have k1 := (Cell2.new (w.alloc (.cells #[.bool s, .slice A n c] 27)) (w.heap.size + 1) (by simp) (.bool t) (.slice B m d) 27).ext (Ext.al Ext.rfl' (.cells #[.bool false, .slice none 0 0, .bool false, .slice none 0 0] 29))
 have k2 := Cell4.new ((w.alloc (.cells #[.bool s, .slice A n c] 27)).alloc (.cells #[.bool t, .slice B m d] 27)) (w.heap.size + 1 + 1) (by simp) (.bool false) (.slice none 0 0) (.bool false) (.slice none 0 0) 29
 have hE : Ext w (((w.alloc (.cells #[.bool s, .slice A n c] 27)).alloc (.cells #[.bool t, .slice B m d] 27)).alloc (.cells #[.bool false, .slice none 0 0, .bool false, .slice none 0 0] 29)) := Ext.al (Ext.al (Ext.al Ext.rfl' _) _) _
 generalize (((w.alloc (.cells #[.bool s, .slice A n c] 27)).alloc (.cells #[.bool t, .slice B m d] 27)).alloc (.cells #[.bool false, .slice none 0 0, .bool false, .slice none 0 0] 29)) = w1 at *
 refine (sign_any t B m d y w1 (H2.out.ext hE)).mono ?_
 rintro e w2 ⟨rfl, hE2⟩
 rw [HSY.out]
 have K0 := LH (k0.ext hE2)
 have K1 := LH (k1.ext hE2)
 have K2 := LH (k2.ext hE2)
 have HE := LH (ET hE hE2)
 clear k0 k1 k2 hE hE2 HSY
 obtain ⟨a0, a1, _, _, _⟩ := K0.out
 obtain ⟨b0, b1, _, _, _⟩ := K1.out
 go_wp2_with fail
 refine (gcd_any s A n c z t B m d y w2 (H1.out.ext HE.out) (H2.out.ext HE.out) (by omega) (by omega)).mono ?_
 rintro e w3 ⟨b3, A3, n3, c3, rfl, hZ3, hE3⟩
 generalize Int.gcd z y = g at *
 have L0 := LH (K0.out.ext hE3)
 have L1 := LH (K1.out.ext hE3)
 have L2 := LH (K2.out.ext hE3)
 have HE3 := LH (ET HE.out hE3)
 clear a0 a1 b0 b1 K0 K1 K2 HE hE3
 obtain ⟨a0, a1, _, _, hl0⟩ := L0.out
 go_wp2_with fail
 have M5 := Cell2.new w3 _ rfl (.bool b3) (.slice A3 n3 c3) 27
 have hE4 : Ext w3 (w3.alloc (.cells #[.bool b3, .slice A3 n3 c3] 27)) := Ext.al Ext.rfl' _
 generalize w3.alloc (.cells #[.bool b3, .slice A3 n3 c3] 27) = w4 at *
 have N0 := LH (L0.out.ext hE4)
 have N1 := LH (L1.out.ext hE4)
 have N2 := LH (L2.out.ext hE4)
 have N5 := LH M5
 have HZ3 := LH (hZ3.ext hE4)
 have HE4 := LH (ET HE3.out hE4)
 have hl1 : w.heap.size + 1 + 1 < w3.heap.size := L2.out.2.2
 have hl5 : w3.heap.size < w4.heap.size := M5.2.2.2.2
 clear a0 a1 hE4 M5 hZ3 L0 L1 L2 HE3
 refine (divExact_any s A n c z b3 A3 n3 c3 g w4 (H1.out.ext HE4.out) HZ3.out.is (by omega) HGZ.out.1 HGZ.out.2.1).mono ?_
 rintro e w5 ⟨b5, A5, n5, c5, v5, rfl, hZ5, hE5⟩
 have L0 := LH (N0.out.ext hE5)
 have L1 := LH (N1.out.ext hE5)
 have L2 := LH (N2.out.ext hE5)
 have L5 := LH (N5.out.ext hE5)
 have HE5 := LH (ET HE4.out hE5)
 have HZG := LH (HZ3.out.ext hE5)
 have HZN := LH hZ5
 have hl6 : w4.heap.size ≤ w5.heap.size := hE5.size
 clear hE5 hZ5 N0 N1 N2 N5 HZ3 HE4
 obtain ⟨a0, a1, a2, a3, _⟩ := L0.out
 obtain ⟨b0, b1, _, _, _⟩ := L1.out
 obtain ⟨g0, g1, _, _, _⟩ := L5.out
 go_wp2_with fail
 have N0 := LH (L0.out.put (.bool b5) (.slice A5 n5 c5))
 have N1 := LH (L1.out.far (r := w.heap.size) (by omega) (.bool b5) (.slice A5 n5 c5))
 have N2 := LH (L2.out.far (r := w.heap.size) (by omega) (.bool b5) (.slice A5 n5 c5))
 have N5 := LH (L5.out.far (r := w.heap.size) (by omega) (.bool b5) (.slice A5 n5 c5))
 have HE6 := LH (ext_put2 HE5.out (r := w.heap.size) (by omega) (.bool b5) (.slice A5 n5 c5))
 have hs6 := size_put2 w5 w.heap.size (.bool b5) (.slice A5 n5 c5)
 have HZN2 := LH (HZN.out.put2 (r := w.heap.size) (by omega) (.bool b5) (.slice A5 n5 c5))
 have HZG2 : Hid (ZIs ((w5.setCell ⟨w.heap.size, 0, none⟩ (.bool b5)).setCell ⟨w.heap.size, 1, none⟩ (.slice A5 n5 c5)) b3 A3 n3 c3 g) := (HZG.out.put2 (r := w.heap.size) (by omega) (.bool b5) (.slice A5 n5 c5)).is
 generalize ((w5.setCell ⟨w.heap.size, 0, none⟩ (.bool b5)).setCell ⟨w.heap.size, 1, none⟩ (.slice A5 n5 c5)) = w6 at *
 clear L0 L1 L2 L5 HE5 HZG HZN a0 a1 a2 a3 b0 b1 g0 g1
 refine (divExact_any t B m d y b3 A3 n3 c3 g w6 (H2.out.ext HE6.out) HZG2.out (by omega) HGZ.out.1 HGZ.out.2.2).mono ?_
 rintro e w7 ⟨b7, A7, n7, c7, v7, rfl, hZ7, hE7⟩
 have L0 := LH (N0.out.ext hE7)
 have L1 := LH (N1.out.ext hE7)
 have L2 := LH (N2.out.ext hE7)
 have HE7 := LH (ET HE6.out hE7)
 have HZN := LH (HZN2.out.ext hE7)
 have HZD := LH hZ7
 have hl8 : w6.heap.size ≤ w7.heap.size := hE7.size
 clear hE7 hZ7 N0 N1 N2 N5 HZN2 HZG2 HE6
 obtain ⟨b0, b1, b2, b3', _⟩ := L1.out
 go_wp2_with fail
 have N0 := LH (L0.out.far (r := w.heap.size + 1) (by omega) (.bool b7) (.slice A7 n7 c7))
 have N1 := LH (L1.out.put (.bool b7) (.slice A7 n7 c7))
 have N2 := LH (L2.out.far (r := w.heap.size + 1) (by omega) (.bool b7) (.slice A7 n7 c7))
 have HE8 := LH (ext_put2 HE7.out (r := w.heap.size + 1) (by omega) (.bool b7) (.slice A7 n7 c7))
 have hs8 := size_put2 w7 (w.heap.size + 1) (.bool b7) (.slice A7 n7 c7)
 have HZN2 := LH (HZN.out.put2 (r := w.heap.size + 1) (by omega) (.bool b7) (.slice A7 n7 c7))
 have HZD2 := LH (HZD.out.put2 (r := w.heap.size + 1) (by omega) (.bool b7) (.slice A7 n7 c7))
 generalize ((w7.setCell ⟨w.heap.size + 1, 0, none⟩ (.bool b7)).setCell ⟨w.heap.size + 1, 1, none⟩ (.slice A7 n7 c7)) = w8 at *
 clear L0 L1 L2 HE7 HZN HZD b0 b1 b2 b3'
 refine (int64_any b7 A7 n7 c7 _ w8 HZD2.out.is).mono ?_
 rintro e w9 ⟨rfl, hE9⟩
 have HI := LH (i64_one (y / (g : Int)))
 obtain ⟨iv, hiv⟩ : ∃ v, i64V (y / (g : Int)) = v := ⟨_, rfl⟩
 obtain ⟨ib, hib⟩ : ∃ v, i64B (y / (g : Int)) = v := ⟨_, rfl⟩
 rw [hiv, hib] at HI
 rw [hiv, hib]
 clear hiv hib
 have L0 := LH (N0.out.ext hE9)
 have L1 := LH (N1.out.ext hE9)
 have L2 := LH (N2.out.ext hE9)
 have HE9 := LH (ET HE8.out hE9)
 have HZN := LH (HZN2.out.ext hE9)
 have HZD := LH (HZD2.out.ext hE9)
 clear hE9 N0 N1 N2 HZN2 HZD2 HE8
 obtain ⟨a0, a1, a2, a3, al⟩ := L0.out
 obtain ⟨b0, b1, b2, b3', bl⟩ := L1.out
 obtain ⟨⟨e0, e1, e2, e3⟩, ⟨f0, f1, f2, f3⟩, el⟩ := L2.out
 by_cases hone : ib = true ∧ iv = 1
 ·have HD0 : Hid (denOf (Rat.divInt z y) = 0) := by unfold Hid; rw [HDE.out, if_pos (HI.out.1 hone)]
  obtain ⟨rfl, rfl⟩ := hone
  clear HI
  go_wp2_with fail
  refine bodyPost_ret (v := .agg #[.bool b5, .slice A5 n5 c5, .bool false, .slice none 0 0]) (by simp [results, Tryz.results70, go_sem, e0, e1, e2, e3]) rfl ?_
  have hq : QCan ((w9.setCell ⟨w.heap.size + 1, 0, none⟩ (.bool false)).setCell ⟨w.heap.size + 1, 1, none⟩ (.slice none 0 0)) w4.heap.size b5 A5 n5 c5 false none 0 0 (Rat.divInt z y) := ⟨by rw [HNU.out]; exact HZN.out.put2 (by omega) _ _, by rw [HD0.out]; exact zcan_zero _ _⟩
  exact ⟨_, _, _, _, _, _, _, _, rfl, retQ_fill (by omega) (by omega) hq (ext_put2 HE9.out (by omega) _ _) _ _ _ _⟩
 ·have HD0 : Hid (denOf (Rat.divInt z y) = y / (g : Int)) := by unfold Hid; rw [HDE.out, if_neg (fun e => hone (HI.out.2 e))]
  have hb : ib = false ∨ (ib = true ∧ (iv == 1) = false) := by
   cases ib
   ·exact .inl rfl
   ·exact .inr ⟨rfl, by simp; intro e; exact hone ⟨rfl, e⟩⟩
  clear HI hone
  rcases hb with rfl | ⟨rfl, hb⟩
  all_goals
   go_wp2_with fail
   refine bodyPost_ret (v := .agg #[.bool b5, .slice A5 n5 c5, .bool b7, .slice A7 n7 c7]) (by simp [results, Tryz.results70, go_sem, e0, e1, e2, e3]) rfl ?_
   have hq : QCan w9 w4.heap.size b5 A5 n5 c5 b7 A7 n7 c7 (Rat.divInt z y) := ⟨by rw [HNU.out]; exact HZN.out, by rw [HD0.out]; exact HZD.out.base (by omega)⟩
   exact ⟨_, _, _, _, _, _, _, _, rfl, retQ_fill (by omega) (by omega) hq HE9.out _ _ _ _⟩
end Go.Proofs.YtjinpfnefeiooaaGreat
