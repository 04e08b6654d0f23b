/- A part of the proof. -/
import Derived.Test.YtjinpfnefeiooaaGreatRefDH
import Derived.Test.YtjinpfnefeiooaaGreatHalve
namespace Go.Proofs.YtjinpfnefeiooaaGreat
open Go.RowKit

theorem ZIs.parts {w : World} {b : Bool} {A : Option Addr} {n c : Nat} {z : Int} (h : ZIs w b A n c z) (hn : n ≤ 536870912) : ∃ m : Nat, z = sgn b m ∧ (halfOf m).length ≤ 2 * n ∧ (∀ w', Ext w w' → Calls Tryz.prog 100 #[.slice A n c] w' (RetH w' m)) := by
 obtain ⟨xs, h1, h2, h3, rfl⟩ := h
 refine ⟨natOf xs, rfl, ?_, fun w' hE => ?_⟩
 ·have := half_len_le h1.2.1
  rw [h1.1] at this
  exact this
 ·exact halves_any A n c xs w' (h1.below hE) (by omega)
theorem sgn_sign (b : Bool) {m : Nat} (h : m ≠ 0) : (sgn b m).sign = if b then -1 else 1 := by
 unfold sgn
 cases b
 ·simp; omega
 ·simp; omega
theorem sgn_not (b : Bool) (m : Nat) : sgn (!b) m = -sgn b m := by unfold sgn; cases b <;> simp
theorem sgn_false (m : Nat) : sgn false m = (m : Int) := rfl
theorem cmp_geP {a b : Nat} (h : b ≤ a) : decide (0 ≤ cmpN a b) = true := by
 unfold cmpN
 rw [if_neg (by omega)]
 split <;> rfl
theorem cmp_ltP {a b : Nat} (h : a < b) : decide (0 ≤ cmpN a b) = false := by
 unfold cmpN
 rw [if_pos h]
 rfl
theorem half_inj {w : World} {A : Option Addr} {n X Y : Nat} (hx : HalfAt w A n (halfOf X)) (hy : HalfAt w A n (halfOf Y)) : X = Y := by
 have e : halfOf X = halfOf Y := by
  refine List.ext_getElem (by rw [hx.1, hy.1]) fun i h1 h2 => ?_
  have hn : 0 < n := by rw [hx.1] at h1; omega
  obtain ⟨b, off, hA, hl, hc⟩ := hx.2.2 hn
  obtain ⟨b', off', hA', hl', hc'⟩ := hy.2.2 hn
  rw [hA] at hA'
  injection hA' with hA'
  injection hA' with e1 e2
  subst e1 e2
  have := (hc i (by rw [hx.1] at h1; exact h1)).symm.trans (hc' i (by rw [hx.1] at h1; exact h1))
  injection this with this
  injection this with _ this
  simp only [List.getD, List.getElem?_eq_getElem h1, List.getElem?_eq_getElem h2, Option.getD_some] at this
  omega
 rw [← hOf_halfOf X, e, hOf_halfOf]
open Classical in
noncomputable def hvalOf (w : World) (v : Value) : Nat := if h : ∃ (Y : Nat) (A : Option Addr) (n c : Nat), v = .slice A n c ∧ HalfAt w A n (halfOf Y) then h.choose else 0
theorem hvalOf_eq {w : World} {A : Option Addr} {n Y : Nat} (h : HalfAt w A n (halfOf Y)) (c : Nat) : hvalOf w (.slice A n c) = Y := by
 have he : ∃ (Y : Nat) (A' : Option Addr) (n' c' : Nat), Value.slice A n c = .slice A' n' c' ∧ HalfAt w A' n' (halfOf Y) := ⟨Y, A, n, c, rfl, h⟩
 unfold hvalOf
 rw [dif_pos he]
 obtain ⟨A', n', c', e, h'⟩ := he.choose_spec
 injection e with e1 e2 e3
 subst e1 e2
 exact half_inj h' h
def RetDX (w : World) (z : Int) (e : Ending) (w' : World) : Prop := ∃ b A n c b2 A2 n2 c2, e = .returned (.tuple #[.agg #[.bool b, .slice A n c], .agg #[.bool b2, .slice A2 n2 c2], .int .i64 0]) ∧ ZCan w' w.heap.size b A n c z ∧ Ext w w'
set_option maxRecDepth 100000 in
set_option maxHeartbeats 4000000 in
theorem rsign_any (sa : Bool) (Aa : Option Addr) (na ca : Nat) (z : Int) (w : World) (h : ZIs w sa Aa na ca z) (hna : na ≤ 536870912) :
  Calls Tryz.prog 90 #[.agg #[.bool sa, .slice Aa na ca]] w fun e w' => e = .returned (.int .i64 z.sign) ∧ Ext w w' := by
 obtain ⟨m, rfl, hlm, CHm⟩ := h.parts (by omega)
 have HCm := LH CHm
 clear CHm h
 go_enter Tryz.func90, Tryz.ntmps90
 go_wp2_with fail
 have k0 := Cell2.new (w) (w.heap.size) rfl (.bool sa) (.slice Aa na ca) 27
 have hE : Ext w ((w).alloc (.cells #[.bool sa, .slice Aa na ca] 27)) := (Ext.al Ext.rfl' _)
 generalize (w).alloc (.cells #[.bool sa, .slice Aa na ca] 27) = w1 at *
 have Ew1 := LH hE
 clear hE
 have Ka := LH k0
 clear k0
 refine (HCm.out w1 Ew1.out).mono ?_
 rintro e w2 ⟨Ah, ch, rfl, h1, h2, h3, hE⟩
 have Ew2 := LH hE
 clear hE
 have Hh := LH h1
 have Lh := LH (And.intro h2 h3)
 clear h1 h2 h3
 by_cases hm0 : m = 0
 ·subst hm0
  rw [halfOf_zero, List.length_nil]
  go_wp2_with fail
  go_ret
  exact ⟨ret_i (by rw [sgn_zero]; rfl), (ET Ew1.out Ew2.out)⟩
 ·have HS := LH (fun b => sgn_sign b hm0)
  have hN1 := halfOf_length_pos hm0
  clear hm0
  obtain ⟨N, hN⟩ : ∃ N, (halfOf m).length = N := ⟨_, rfl⟩
  rw [hN] at Hh hN1 ⊢
  clear hN
  have hb1 : ((N : Int) == 0) = false := by simp; omega
  have hb2 : (N == 0) = false := by simp; omega
  obtain ⟨xa0, xa1, -, -, za⟩ := (Ka.out.ext Ew2.out)
  cases sa
  ·go_wp2_with fail
   go_ret
   exact ⟨ret_i (by rw [HS.out]; rfl), (ET Ew1.out Ew2.out)⟩
  ·go_wp2_with fail
   go_ret
   exact ⟨ret_i (by rw [HS.out]; rfl), (ET Ew1.out Ew2.out)⟩
set_option maxRecDepth 100000 in
set_option maxHeartbeats 4000000 in
theorem rneg_any (sa : Bool) (Aa : Option Addr) (na ca : Nat) (z : Int) (w : World) (h : ZIs w sa Aa na ca z) (hna : na ≤ 536870912) :
  Calls Tryz.prog 105 #[.agg #[.bool sa, .slice Aa na ca]] w (RetZ w (-z)) := by
 obtain ⟨m, rfl, hlm, CHm⟩ := h.parts (by omega)
 have HCm := LH CHm
 clear CHm h
 go_enter Tryz.func105, Tryz.ntmps105
 go_wp2_with fail
 have k0 := Cell2.new (w) (w.heap.size) rfl (.bool sa) (.slice Aa na ca) 27
 have k1 := Cell2.new ((w).alloc (.cells #[.bool sa, .slice Aa na ca] 27)) (w.heap.size + 1) (by simp) (.bool false) (.slice none 0 0) 27
 have hE : Ext w (((w).alloc (.cells #[.bool sa, .slice Aa na ca] 27)).alloc (.cells #[.bool false, .slice none 0 0] 27)) := (Ext.al (Ext.al Ext.rfl' _) _)
 have k0 := k0.ext (show Ext ((w).alloc (.cells #[.bool sa, .slice Aa na ca] 27)) (((w).alloc (.cells #[.bool sa, .slice Aa na ca] 27)).alloc (.cells #[.bool false, .slice none 0 0] 27)) from (Ext.al Ext.rfl' _))
 generalize ((w).alloc (.cells #[.bool sa, .slice Aa na ca] 27)).alloc (.cells #[.bool false, .slice none 0 0] 27) = w1 at *
 have Ew1 := LH hE
 clear hE
 have Ka := LH k0
 clear k0
 have Kr := LH k1
 clear k1
 refine wp_region_lexS (C := InX w1.drew []) (by kernel_rfl) (by kernel_rfl) (inX_self _ _) ?_
 have hE : Ext w1 w1.drew := Ext.rfl'.drew
 generalize w1.drew = w2 at *
 have Ew2 := LH hE
 clear hE
 have fa0 := fun z : ExtX w2 [] => z.cell (p := ⟨w.heap.size, 0, none⟩) (Ka.out.ext Ew2.out).1 (by simp)
 have fa1 := fun z : ExtX w2 [] => z.cell (p := ⟨w.heap.size, 1, none⟩) (Ka.out.ext Ew2.out).2.1 (by simp)
 repeat (refine lexAt_still (by rfl) ?_; go_big_quiet_step (fail); refine wpQuiet_nil ?_)
 refine lexAt_move (by rfl) (by kernel_rfl) ?_
 go_wp2_with fail
 refine (HCm.out w2 (ET Ew1.out Ew2.out)).mono ?_
 rintro e w3 ⟨Ah, ch, rfl, h1, h2, h3, hE⟩
 have Ew3 := LH hE
 clear hE
 have Hh := LH h1
 have Lh := LH (And.intro h2 h3)
 clear h1 h2 h3
 go_wp2_with fail
 refine And.intro (inX_of_ext _ Ew3.out) ?_
 repeat (refine lexAt_still (by rfl) ?_; go_big_quiet_step (fail); refine wpQuiet_nil ?_)
 refine lexAt_move (by rfl) (by kernel_rfl) ?_
 go_wp2_with fail
 refine (of_any (!sa) Ah _ ch _ w3 Hh.out Lh.out.1 Lh.out.2 (by omega)).mono ?_
 rintro e w4 ⟨so, Ao, no, co, rfl, hZ, hE⟩
 have Ew4 := LH hE
 clear hE
 rw [hOf_halfOf, sgn_not] at hZ
 have Zo := LH hZ
 clear hZ
 have HXe := LH (inX_of_ext [] (ET Ew3.out Ew4.out))
 clear fa0 fa1
 obtain ⟨e0, e1, f0, f1, el⟩ := (Kr.out.ext (ET Ew2.out (ET Ew3.out Ew4.out)))
 go_wp2_with fail
 refine And.intro HXe.out ?_
 refine lexAt_last (by rfl) (by kernel_rfl) (by kernel_rfl) ?_
 go_wp2_with fail
 refine And.intro trivial (lexAt_nil ?_)
 go_wp2_with fail
 refine bodyPost_ret (v := .agg #[.bool so, .slice Ao no co]) (by simp [results, Tryz.results105, go_sem, e0, e1]) rfl ?_
 exact ⟨_, _, _, _, rfl, retZ_fill (by omega) (Nat.lt_of_lt_of_le Kr.out.2.2.2.2 (Nat.le_trans Ew2.out.size Ew3.out.size)) Zo.out (ET Ew1.out (ET Ew2.out (ET Ew3.out Ew4.out))) _ _⟩
set_option maxRecDepth 100000 in
set_option maxHeartbeats 4000000 in
theorem rabs_any (sa : Bool) (Aa : Option Addr) (na ca : Nat) (z : Int) (w : World) (h : ZIs w sa Aa na ca z) (hna : na ≤ 536870912) :
  Calls Tryz.prog 106 #[.agg #[.bool sa, .slice Aa na ca]] w (RetZ w (z.natAbs : Nat)) := by
 obtain ⟨m, rfl, hlm, CHm⟩ := h.parts (by omega)
 have HCm := LH CHm
 clear CHm h
 rw [sgn_abs]
 go_enter Tryz.func106, Tryz.ntmps106
 go_wp2_with fail
 have k0 := Cell2.new (w) (w.heap.size) rfl (.bool sa) (.slice Aa na ca) 27
 have k1 := Cell2.new ((w).alloc (.cells #[.bool sa, .slice Aa na ca] 27)) (w.heap.size + 1) (by simp) (.bool false) (.slice none 0 0) 27
 have hE : Ext w (((w).alloc (.cells #[.bool sa, .slice Aa na ca] 27)).alloc (.cells #[.bool false, .slice none 0 0] 27)) := (Ext.al (Ext.al Ext.rfl' _) _)
 have k0 := k0.ext (show Ext ((w).alloc (.cells #[.bool sa, .slice Aa na ca] 27)) (((w).alloc (.cells #[.bool sa, .slice Aa na ca] 27)).alloc (.cells #[.bool false, .slice none 0 0] 27)) from (Ext.al Ext.rfl' _))
 generalize ((w).alloc (.cells #[.bool sa, .slice Aa na ca] 27)).alloc (.cells #[.bool false, .slice none 0 0] 27) = w1 at *
 have Ew1 := LH hE
 clear hE
 have Ka := LH k0
 clear k0
 have Kr := LH k1
 clear k1
 refine (HCm.out w1 Ew1.out).mono ?_
 rintro e w2 ⟨Ah, ch, rfl, h1, h2, h3, hE⟩
 have Ew2 := LH hE
 clear hE
 have Hh := LH h1
 have Lh := LH (And.intro h2 h3)
 clear h1 h2 h3
 go_wp2_with fail
 refine (of_any false Ah _ ch _ w2 Hh.out Lh.out.1 Lh.out.2 (by omega)).mono ?_
 rintro e w3 ⟨so, Ao, no, co, rfl, hZ, hE⟩
 have Ew3 := LH hE
 clear hE
 rw [hOf_halfOf, sgn_false] at hZ
 have Zo := LH hZ
 clear hZ
 obtain ⟨e0, e1, f0, f1, el⟩ := (Kr.out.ext (ET Ew2.out Ew3.out))
 go_wp2_with fail
 refine bodyPost_ret (v := .agg #[.bool so, .slice Ao no co]) (by simp [results, Tryz.results106, go_sem, e0, e1]) rfl ?_
 exact ⟨_, _, _, _, rfl, retZ_fill (by omega) (Nat.lt_of_lt_of_le Kr.out.2.2.2.2 Ew2.out.size) Zo.out (ET Ew1.out (ET Ew2.out Ew3.out)) _ _⟩
theorem sum_hlen {x u k : Nat} (hx : (halfOf x).length ≤ k) (hu : (halfOf u).length ≤ k) : (halfOf (x + u)).length ≤ k + 1 := by
 rw [halfOf_len] at hx hu ⊢
 rw [Nat.pow_succ]
 omega
set_option maxRecDepth 100000 in
set_option maxHeartbeats 4000000 in
theorem rzadd_any (sa : Bool) (Aa : Option Addr) (na ca : Nat) (y : Int) (sb : Bool) (Ab : Option Addr) (nb cb : Nat) (z : Int) (w : World) (h1 : ZIs w sa Aa na ca y) (h2 : ZIs w sb Ab nb cb z) (hna : na ≤ 200000) (hnb : nb ≤ 200000) :
  Calls Tryz.prog 91 #[.agg #[.bool sa, .slice Aa na ca], .agg #[.bool sb, .slice Ab nb cb]] w (RetZ w (y + z)) := by
 obtain ⟨x, rfl, hlx, CHx⟩ := h1.parts (by omega)
 have HCx := LH CHx
 clear CHx h1
 obtain ⟨u, rfl, hlu, CHu⟩ := h2.parts (by omega)
 have HCu := LH CHu
 clear CHu h2
 have HLS : Hid ((halfOf (hOf (halfOf x) + hOf (halfOf u))).length ≤ 400001) := by
  unfold Hid
  rw [hOf_halfOf, hOf_halfOf]
  exact sum_hlen (by omega) (by omega)
 go_enter Tryz.func91, Tryz.ntmps91
 go_wp2_with fail
 have k0 := Cell2.new (w) (w.heap.size) rfl (.bool sa) (.slice Aa na ca) 27
 have k1 := Cell2.new ((w).alloc (.cells #[.bool sa, .slice Aa na ca] 27)) (w.heap.size + 1) (by simp) (.bool sb) (.slice Ab nb cb) 27
 have k2 := Cell2.new (((w).alloc (.cells #[.bool sa, .slice Aa na ca] 27)).alloc (.cells #[.bool sb, .slice Ab nb cb] 27)) (w.heap.size + 1 + 1) (by simp) (.bool false) (.slice none 0 0) 27
 have hE : Ext w ((((w).alloc (.cells #[.bool sa, .slice Aa na ca] 27)).alloc (.cells #[.bool sb, .slice Ab nb cb] 27)).alloc (.cells #[.bool false, .slice none 0 0] 27)) := (Ext.al (Ext.al (Ext.al Ext.rfl' _) _) _)
 have k0 := k0.ext (show Ext ((w).alloc (.cells #[.bool sa, .slice Aa na ca] 27)) ((((w).alloc (.cells #[.bool sa, .slice Aa na ca] 27)).alloc (.cells #[.bool sb, .slice Ab nb cb] 27)).alloc (.cells #[.bool false, .slice none 0 0] 27)) from (Ext.al (Ext.al Ext.rfl' _) _))
 have k1 := k1.ext (show Ext (((w).alloc (.cells #[.bool sa, .slice Aa na ca] 27)).alloc (.cells #[.bool sb, .slice Ab nb cb] 27)) ((((w).alloc (.cells #[.bool sa, .slice Aa na ca] 27)).alloc (.cells #[.bool sb, .slice Ab nb cb] 27)).alloc (.cells #[.bool false, .slice none 0 0] 27)) from (Ext.al Ext.rfl' _))
 generalize (((w).alloc (.cells #[.bool sa, .slice Aa na ca] 27)).alloc (.cells #[.bool sb, .slice Ab nb cb] 27)).alloc (.cells #[.bool false, .slice none 0 0] 27) = w1 at *
 have Ew1 := LH hE
 clear hE
 have Ka := LH k0
 clear k0
 have Kb := LH k1
 clear k1
 have Kr := LH k2
 clear k2
 refine wp_region_lexS (C := InX w1.drew []) (by kernel_rfl) (by kernel_rfl) (inX_self _ _) ?_
 have hE : Ext w1 w1.drew := Ext.rfl'.drew
 generalize w1.drew = w2 at *
 have Ew2 := LH hE
 clear hE
 have fa0 := fun z : ExtX w2 [] => z.cell (p := ⟨w.heap.size, 0, none⟩) (Ka.out.ext Ew2.out).1 (by simp)
 have fa1 := fun z : ExtX w2 [] => z.cell (p := ⟨w.heap.size, 1, none⟩) (Ka.out.ext Ew2.out).2.1 (by simp)
 have fb0 := fun z : ExtX w2 [] => z.cell (p := ⟨w.heap.size + 1, 0, none⟩) (Kb.out.ext Ew2.out).1 (by simp)
 have fb1 := fun z : ExtX w2 [] => z.cell (p := ⟨w.heap.size + 1, 1, none⟩) (Kb.out.ext Ew2.out).2.1 (by simp)
 repeat (refine lexAt_still (by rfl) ?_; go_big_quiet_step (fail); refine wpQuiet_nil ?_)
 refine lexAt_move (by rfl) (by kernel_rfl) ?_
 go_wp2_with fail
 refine (HCx.out w2 (ET Ew1.out Ew2.out)).mono ?_
 rintro e w3 ⟨Ah, ch, rfl, h1, h2, h3, hE⟩
 have Ew3 := LH hE
 clear hE
 have Hh := LH h1
 have Lh := LH (And.intro h2 h3)
 clear h1 h2 h3
 go_wp2_with fail
 refine And.intro (inX_of_ext _ Ew3.out) ?_
 repeat (refine lexAt_still (by rfl) ?_; go_big_quiet_step (fail); refine wpQuiet_nil ?_)
 refine lexAt_move (by rfl) (by kernel_rfl) ?_
 go_wp2_with fail
 refine (HCu.out w3 (ET Ew1.out (ET Ew2.out Ew3.out))).mono ?_
 rintro e w4 ⟨Ak, ck, rfl, h1, h2, h3, hE⟩
 have Ew4 := LH hE
 clear hE
 have Hk := LH h1
 have Lk := LH (And.intro h2 h3)
 clear h1 h2 h3
 go_wp2_with fail
 refine And.intro (inX_of_ext _ (ET Ew3.out Ew4.out)) ?_
 repeat (refine lexAt_still (by rfl) ?_; go_big_quiet_step (fail); refine wpQuiet_nil ?_)
 refine lexAt_nil ?_
 clear fa0 fa1 fb0 fb1
 by_cases hab : sa = sb
 ·subst hab
  have HS := LH (sgn_add_same sa x u)
  have hb0 : (sa == sa) = true := by simp
  obtain ⟨xa0, xa1, -, -, za⟩ := (Ka.out.ext (ET Ew2.out (ET Ew3.out Ew4.out)))
  obtain ⟨xb0, xb1, -, -, zb⟩ := (Kb.out.ext (ET Ew2.out (ET Ew3.out Ew4.out)))
  go_wp2_with fail
  clear xa0 xa1 za xb0 xb1 zb
  refine wp_region_lexS (C := InX w4.drew []) (by kernel_rfl) (by kernel_rfl) (inX_self _ _) ?_
  have hE : Ext w4 w4.drew := Ext.rfl'.drew
  generalize w4.drew = w5 at *
  have Ew5 := LH hE
  clear hE
  have fa0 := fun z : ExtX w5 [] => z.cell (p := ⟨w.heap.size, 0, none⟩) (Ka.out.ext (ET Ew2.out (ET Ew3.out (ET Ew4.out Ew5.out)))).1 (by simp)
  have fa1 := fun z : ExtX w5 [] => z.cell (p := ⟨w.heap.size, 1, none⟩) (Ka.out.ext (ET Ew2.out (ET Ew3.out (ET Ew4.out Ew5.out)))).2.1 (by simp)
  have fb0 := fun z : ExtX w5 [] => z.cell (p := ⟨w.heap.size + 1, 0, none⟩) (Kb.out.ext (ET Ew2.out (ET Ew3.out (ET Ew4.out Ew5.out)))).1 (by simp)
  have fb1 := fun z : ExtX w5 [] => z.cell (p := ⟨w.heap.size + 1, 1, none⟩) (Kb.out.ext (ET Ew2.out (ET Ew3.out (ET Ew4.out Ew5.out)))).2.1 (by simp)
  repeat (refine lexAt_still (by rfl) ?_; go_big_quiet_step (fail); refine wpQuiet_nil ?_)
  refine lexAt_move (by rfl) (by kernel_rfl) ?_
  go_wp2_with fail
  refine (radd_any Ah _ ch _ Ak _ ck _ w5 (Hh.out.below (ET Ew4.out Ew5.out)) (Hk.out.below Ew5.out) (by omega) (by omega)).mono ?_
  rintro e w6 ⟨As, cs, rfl, h1, h2, h3, hE⟩
  have Ew6 := LH hE
  clear hE
  have Hs := LH h1
  have Ls := LH (And.intro h2 h3)
  clear h1 h2 h3
  go_wp2_with fail
  refine And.intro (inX_of_ext _ Ew6.out) ?_
  repeat (refine lexAt_still (by rfl) ?_; go_big_quiet_step (fail); refine wpQuiet_nil ?_)
  refine lexAt_move (by rfl) (by kernel_rfl) ?_
  go_wp2_with fail
  refine (of_any sa As _ cs _ w6 Hs.out Ls.out.1 Ls.out.2 (by have := HLS.out; omega)).mono ?_
  rintro e w7 ⟨so, Ao, no, co, rfl, hZ, hE⟩
  have Ew7 := LH hE
  clear hE
  rw [hOf_halfOf, hOf_halfOf, hOf_halfOf, HS.out] at hZ
  have Zo := LH hZ
  clear hZ
  have HXe := LH (inX_of_ext [] (ET Ew6.out Ew7.out))
  clear fa0 fa1 fb0 fb1
  obtain ⟨e0, e1, f0, f1, el⟩ := (Kr.out.ext (ET Ew2.out (ET Ew3.out (ET Ew4.out (ET Ew5.out (ET Ew6.out Ew7.out))))))
  go_wp2_with fail
  refine And.intro HXe.out ?_
  refine lexAt_last (by rfl) (by kernel_rfl) (by kernel_rfl) ?_
  go_wp2_with fail
  refine And.intro trivial (lexAt_nil ?_)
  go_wp2_with fail
  refine bodyPost_ret (v := .agg #[.bool so, .slice Ao no co]) (by simp [results, Tryz.results91, go_sem, e0, e1]) rfl ?_
  exact ⟨_, _, _, _, rfl, retZ_fill (by omega) (Nat.lt_of_lt_of_le Kr.out.2.2.2.2 (Nat.le_trans Ew2.out.size (Nat.le_trans Ew3.out.size (Nat.le_trans Ew4.out.size (Nat.le_trans Ew5.out.size Ew6.out.size))))) Zo.out (ET Ew1.out (ET Ew2.out (ET Ew3.out (ET Ew4.out (ET Ew5.out (ET Ew6.out Ew7.out)))))) _ _⟩
 ·have hb0 : (sa == sb) = false := by simp [hab]
  have HS := LH (fun h => sgn_add_ge (a := sa) (b := sb) (x := x) (y := u) hab h)
  have HS2 := LH (fun h => sgn_add_lt (a := sa) (b := sb) (x := x) (y := u) hab h)
  clear hab
  obtain ⟨xa0, xa1, -, -, za⟩ := (Ka.out.ext (ET Ew2.out (ET Ew3.out Ew4.out)))
  obtain ⟨xb0, xb1, -, -, zb⟩ := (Kb.out.ext (ET Ew2.out (ET Ew3.out Ew4.out)))
  go_wp2_with fail
  refine (rcmp_any Ah _ ch _ Ak _ ck _ w4 (Hh.out.below Ew4.out) Hk.out (by omega) (by omega)).mono ?_
  rintro e w8 ⟨rfl, hE⟩
  have Ew8 := LH hE
  clear hE
  clear xa0 xa1 za xb0 xb1 zb
  rw [hOf_halfOf, hOf_halfOf]
  by_cases hle : u ≤ x
  ·have hb1 := cmp_geP hle
   have HLE := LH hle
   clear hle
   generalize cmpN x u = v at *
   go_wp2_with fail
   refine wp_region_lexS (C := InX w8.drew []) (by kernel_rfl) (by kernel_rfl) (inX_self _ _) ?_
   have hE : Ext w8 w8.drew := Ext.rfl'.drew
   generalize w8.drew = w9 at *
   have Ew9 := LH hE
   clear hE
   have fa0 := fun z : ExtX w9 [] => z.cell (p := ⟨w.heap.size, 0, none⟩) (Ka.out.ext (ET Ew2.out (ET Ew3.out (ET Ew4.out (ET Ew8.out Ew9.out))))).1 (by simp)
   have fa1 := fun z : ExtX w9 [] => z.cell (p := ⟨w.heap.size, 1, none⟩) (Ka.out.ext (ET Ew2.out (ET Ew3.out (ET Ew4.out (ET Ew8.out Ew9.out))))).2.1 (by simp)
   have fb0 := fun z : ExtX w9 [] => z.cell (p := ⟨w.heap.size + 1, 0, none⟩) (Kb.out.ext (ET Ew2.out (ET Ew3.out (ET Ew4.out (ET Ew8.out Ew9.out))))).1 (by simp)
   have fb1 := fun z : ExtX w9 [] => z.cell (p := ⟨w.heap.size + 1, 1, none⟩) (Kb.out.ext (ET Ew2.out (ET Ew3.out (ET Ew4.out (ET Ew8.out Ew9.out))))).2.1 (by simp)
   repeat (refine lexAt_still (by rfl) ?_; go_big_quiet_step (fail); refine wpQuiet_nil ?_)
   refine lexAt_move (by rfl) (by kernel_rfl) ?_
   go_wp2_with fail
   refine (rsub_any Ah _ ch _ Ak _ ck _ w9 (Hh.out.below (ET Ew4.out (ET Ew8.out Ew9.out))) (Hk.out.below (ET Ew8.out Ew9.out)) (by omega) (by omega) (by rw [hOf_halfOf, hOf_halfOf]; have := HLE.out; omega)).mono ?_
   rintro e w10 ⟨As, cs, rfl, h1, h2, h3, hE⟩
   have Ew10 := LH hE
   clear hE
   have Hs := LH h1
   have Ls := LH (And.intro h2 h3)
   clear h1 h2 h3
   go_wp2_with fail
   refine And.intro (inX_of_ext _ Ew10.out) ?_
   repeat (refine lexAt_still (by rfl) ?_; go_big_quiet_step (fail); refine wpQuiet_nil ?_)
   refine lexAt_move (by rfl) (by kernel_rfl) ?_
   go_wp2_with fail
   refine (of_any sa As _ cs _ w10 Hs.out Ls.out.1 Ls.out.2 (Nat.le_trans (halfOf_mono (by rw [hOf_halfOf, hOf_halfOf]; exact Nat.sub_le _ _)) (by omega))).mono ?_
   rintro e w11 ⟨so, Ao, no, co, rfl, hZ, hE⟩
   have Ew11 := LH hE
   clear hE
   rw [hOf_halfOf, hOf_halfOf, hOf_halfOf, HS.out HLE.out] at hZ
   have Zo := LH hZ
   clear hZ
   have HXe := LH (inX_of_ext [] (ET Ew10.out Ew11.out))
   clear fa0 fa1 fb0 fb1
   obtain ⟨e0, e1, f0, f1, el⟩ := (Kr.out.ext (ET Ew2.out (ET Ew3.out (ET Ew4.out (ET Ew8.out (ET Ew9.out (ET Ew10.out Ew11.out)))))))
   go_wp2_with fail
   refine And.intro HXe.out ?_
   refine lexAt_last (by rfl) (by kernel_rfl) (by kernel_rfl) ?_
   go_wp2_with fail
   refine And.intro trivial (lexAt_nil ?_)
   go_wp2_with fail
   refine bodyPost_ret (v := .agg #[.bool so, .slice Ao no co]) (by simp [results, Tryz.results91, go_sem, e0, e1]) rfl ?_
   exact ⟨_, _, _, _, rfl, retZ_fill (by omega) (Nat.lt_of_lt_of_le Kr.out.2.2.2.2 (Nat.le_trans Ew2.out.size (Nat.le_trans Ew3.out.size (Nat.le_trans Ew4.out.size (Nat.le_trans Ew8.out.size (Nat.le_trans Ew9.out.size Ew10.out.size)))))) Zo.out (ET Ew1.out (ET Ew2.out (ET Ew3.out (ET Ew4.out (ET Ew8.out (ET Ew9.out (ET Ew10.out Ew11.out))))))) _ _⟩
  ·have hb1 := cmp_ltP (Nat.lt_of_not_le hle)
   have HLE : Hid (x < u) := Nat.lt_of_not_le hle
   clear hle
   generalize cmpN x u = v at *
   go_wp2_with fail
   refine wp_region_lexS (C := InX w8.drew []) (by kernel_rfl) (by kernel_rfl) (inX_self _ _) ?_
   have hE : Ext w8 w8.drew := Ext.rfl'.drew
   generalize w8.drew = w12 at *
   have Ew12 := LH hE
   clear hE
   have fa0 := fun z : ExtX w12 [] => z.cell (p := ⟨w.heap.size, 0, none⟩) (Ka.out.ext (ET Ew2.out (ET Ew3.out (ET Ew4.out (ET Ew8.out Ew12.out))))).1 (by simp)
   have fa1 := fun z : ExtX w12 [] => z.cell (p := ⟨w.heap.size, 1, none⟩) (Ka.out.ext (ET Ew2.out (ET Ew3.out (ET Ew4.out (ET Ew8.out Ew12.out))))).2.1 (by simp)
   have fb0 := fun z : ExtX w12 [] => z.cell (p := ⟨w.heap.size + 1, 0, none⟩) (Kb.out.ext (ET Ew2.out (ET Ew3.out (ET Ew4.out (ET Ew8.out Ew12.out))))).1 (by simp)
   have fb1 := fun z : ExtX w12 [] => z.cell (p := ⟨w.heap.size + 1, 1, none⟩) (Kb.out.ext (ET Ew2.out (ET Ew3.out (ET Ew4.out (ET Ew8.out Ew12.out))))).2.1 (by simp)
   repeat (refine lexAt_still (by rfl) ?_; go_big_quiet_step (fail); refine wpQuiet_nil ?_)
   refine lexAt_move (by rfl) (by kernel_rfl) ?_
   go_wp2_with fail
   refine (rsub_any Ak _ ck _ Ah _ ch _ w12 (Hk.out.below (ET Ew8.out Ew12.out)) (Hh.out.below (ET Ew4.out (ET Ew8.out Ew12.out))) (by omega) (by omega) (by rw [hOf_halfOf, hOf_halfOf]; have := HLE.out; omega)).mono ?_
   rintro e w13 ⟨As, cs, rfl, h1, h2, h3, hE⟩
   have Ew13 := LH hE
   clear hE
   have Hs := LH h1
   have Ls := LH (And.intro h2 h3)
   clear h1 h2 h3
   go_wp2_with fail
   refine And.intro (inX_of_ext _ Ew13.out) ?_
   repeat (refine lexAt_still (by rfl) ?_; go_big_quiet_step (fail); refine wpQuiet_nil ?_)
   refine lexAt_move (by rfl) (by kernel_rfl) ?_
   go_wp2_with fail
   refine (of_any sb As _ cs _ w13 Hs.out Ls.out.1 Ls.out.2 (Nat.le_trans (halfOf_mono (by rw [hOf_halfOf, hOf_halfOf]; exact Nat.sub_le _ _)) (by omega))).mono ?_
   rintro e w14 ⟨so, Ao, no, co, rfl, hZ, hE⟩
   have Ew14 := LH hE
   clear hE
   rw [hOf_halfOf, hOf_halfOf, hOf_halfOf, HS2.out HLE.out] at hZ
   have Zo := LH hZ
   clear hZ
   have HXe := LH (inX_of_ext [] (ET Ew13.out Ew14.out))
   clear fa0 fa1 fb0 fb1
   obtain ⟨e0, e1, f0, f1, el⟩ := (Kr.out.ext (ET Ew2.out (ET Ew3.out (ET Ew4.out (ET Ew8.out (ET Ew12.out (ET Ew13.out Ew14.out)))))))
   go_wp2_with fail
   refine And.intro HXe.out ?_
   refine lexAt_last (by rfl) (by kernel_rfl) (by kernel_rfl) ?_
   go_wp2_with fail
   refine And.intro trivial (lexAt_nil ?_)
   go_wp2_with fail
   refine bodyPost_ret (v := .agg #[.bool so, .slice Ao no co]) (by simp [results, Tryz.results91, go_sem, e0, e1]) rfl ?_
   exact ⟨_, _, _, _, rfl, retZ_fill (by omega) (Nat.lt_of_lt_of_le Kr.out.2.2.2.2 (Nat.le_trans Ew2.out.size (Nat.le_trans Ew3.out.size (Nat.le_trans Ew4.out.size (Nat.le_trans Ew8.out.size (Nat.le_trans Ew12.out.size Ew13.out.size)))))) Zo.out (ET Ew1.out (ET Ew2.out (ET Ew3.out (ET Ew4.out (ET Ew8.out (ET Ew12.out (ET Ew13.out Ew14.out))))))) _ _⟩
theorem sgn_dvd {b : Bool} {x : Nat} {u : Nat} (h : (u : Int) ∣ sgn b x) : x % u = 0 := by
 have h1 : (u : Int) ∣ ((sgn b x).natAbs : Nat) := Int.dvd_natAbs.2 h
 rw [sgn_abs] at h1
 exact Nat.mod_eq_zero_of_dvd (Int.natCast_dvd_natCast.1 h1)
theorem sgn_divP (b : Bool) {x u : Nat} (h : x % u = 0) : sgn b (x / u) = sgn b x / (u : Int) := by
 unfold sgn
 cases b
 ·simp
 ·simp only [if_true]
  rw [Int.neg_ediv_of_dvd (Int.natCast_dvd_natCast.2 (Nat.dvd_of_mod_eq_zero h))]
  simp
set_option maxRecDepth 100000 in
set_option maxHeartbeats 4000000 in
theorem rzdiv_any (sa : Bool) (Aa : Option Addr) (na ca : Nat) (y : Int) (sb : Bool) (Ab : Option Addr) (nb cb : Nat) (z : Int) (w : World) (h1 : ZIs w sa Aa na ca y) (h2 : ZIs w sb Ab nb cb z) (hna : na ≤ 200000) (hnb : nb ≤ 200000) (h0 : 0 < z) (hd : z ∣ y) :
  Calls Tryz.prog 102 #[.agg #[.bool sa, .slice Aa na ca], .agg #[.bool sb, .slice Ab nb cb]] w (RetDX w (y / z)) := by
 have HDV := LH hd
 clear hd
 obtain ⟨x, rfl, hlx, CHx⟩ := h1.parts (by omega)
 have HCx := LH CHx
 clear CHx h1
 obtain ⟨u, rfl, hlu, CHu⟩ := h2.parts (by omega)
 have HCu := LH CHu
 clear CHu h2
 obtain ⟨rfl, hu0⟩ : sb = false ∧ 0 < u := by
  unfold sgn at h0
  cases sb
  ·exact ⟨rfl, by simpa using h0⟩
  ·simp at h0; omega
 have HM : Hid (x % u = 0) := sgn_dvd HDV.out
 have hku := halfOf_length_pos (show u ≠ 0 by omega)
 have HV := LH (fun b => sgn_divP b HM.out)
 clear HDV h0
 cases sa
 ·skip
  go_enter Tryz.func102, Tryz.ntmps102
  go_wp2_with fail
  have k0 := Cell2.new (w) (w.heap.size) rfl (.bool false) (.slice Aa na ca) 27
  have k1 := Cell2.new ((w).alloc (.cells #[.bool false, .slice Aa na ca] 27)) (w.heap.size + 1) (by simp) (.bool false) (.slice Ab nb cb) 27
  have k2 := Cell2.new (((w).alloc (.cells #[.bool false, .slice Aa na ca] 27)).alloc (.cells #[.bool false, .slice Ab nb cb] 27)) (w.heap.size + 1 + 1) (by simp) (.bool false) (.slice none 0 0) 27
  have k3 := Cell2.new ((((w).alloc (.cells #[.bool false, .slice Aa na ca] 27)).alloc (.cells #[.bool false, .slice Ab nb cb] 27)).alloc (.cells #[.bool false, .slice none 0 0] 27)) (w.heap.size + 1 + 1 + 1) (by simp) (.bool false) (.slice none 0 0) 27
  have hE : Ext w (((((w).alloc (.cells #[.bool false, .slice Aa na ca] 27)).alloc (.cells #[.bool false, .slice Ab nb cb] 27)).alloc (.cells #[.bool false, .slice none 0 0] 27)).alloc (.cells #[.bool false, .slice none 0 0] 27)) := (Ext.al (Ext.al (Ext.al (Ext.al Ext.rfl' _) _) _) _)
  have k0 := k0.ext (show Ext ((w).alloc (.cells #[.bool false, .slice Aa na ca] 27)) (((((w).alloc (.cells #[.bool false, .slice Aa na ca] 27)).alloc (.cells #[.bool false, .slice Ab nb cb] 27)).alloc (.cells #[.bool false, .slice none 0 0] 27)).alloc (.cells #[.bool false, .slice none 0 0] 27)) from (Ext.al (Ext.al (Ext.al Ext.rfl' _) _) _))
  have k1 := k1.ext (show Ext (((w).alloc (.cells #[.bool false, .slice Aa na ca] 27)).alloc (.cells #[.bool false, .slice Ab nb cb] 27)) (((((w).alloc (.cells #[.bool false, .slice Aa na ca] 27)).alloc (.cells #[.bool false, .slice Ab nb cb] 27)).alloc (.cells #[.bool false, .slice none 0 0] 27)).alloc (.cells #[.bool false, .slice none 0 0] 27)) from (Ext.al (Ext.al Ext.rfl' _) _))
  have k2 := k2.ext (show Ext ((((w).alloc (.cells #[.bool false, .slice Aa na ca] 27)).alloc (.cells #[.bool false, .slice Ab nb cb] 27)).alloc (.cells #[.bool false, .slice none 0 0] 27)) (((((w).alloc (.cells #[.bool false, .slice Aa na ca] 27)).alloc (.cells #[.bool false, .slice Ab nb cb] 27)).alloc (.cells #[.bool false, .slice none 0 0] 27)).alloc (.cells #[.bool false, .slice none 0 0] 27)) from (Ext.al Ext.rfl' _))
  generalize ((((w).alloc (.cells #[.bool false, .slice Aa na ca] 27)).alloc (.cells #[.bool false, .slice Ab nb cb] 27)).alloc (.cells #[.bool false, .slice none 0 0] 27)).alloc (.cells #[.bool false, .slice none 0 0] 27) = w1 at *
  have Ew1 := LH hE
  clear hE
  have Ka := LH k0
  clear k0
  have Kb := LH k1
  clear k1
  have Kr := LH k2
  clear k2
  have Kt := LH k3
  clear k3
  refine wp_region_lexS (C := InX w1.drew []) (by kernel_rfl) (by kernel_rfl) (inX_self _ _) ?_
  have hE : Ext w1 w1.drew := Ext.rfl'.drew
  generalize w1.drew = w2 at *
  have Ew2 := LH hE
  clear hE
  have fa0 := fun z : ExtX w2 [] => z.cell (p := ⟨w.heap.size, 0, none⟩) (Ka.out.ext Ew2.out).1 (by simp)
  have fa1 := fun z : ExtX w2 [] => z.cell (p := ⟨w.heap.size, 1, none⟩) (Ka.out.ext Ew2.out).2.1 (by simp)
  have fb0 := fun z : ExtX w2 [] => z.cell (p := ⟨w.heap.size + 1, 0, none⟩) (Kb.out.ext Ew2.out).1 (by simp)
  have fb1 := fun z : ExtX w2 [] => z.cell (p := ⟨w.heap.size + 1, 1, none⟩) (Kb.out.ext Ew2.out).2.1 (by simp)
  repeat (refine lexAt_still (by rfl) ?_; go_big_quiet_step (fail); refine wpQuiet_nil ?_)
  refine lexAt_move (by rfl) (by kernel_rfl) ?_
  go_wp2_with fail
  refine (HCx.out w2 (ET Ew1.out Ew2.out)).mono ?_
  rintro e w3 ⟨Ah, ch, rfl, h1, h2, h3, hE⟩
  have Ew3 := LH hE
  clear hE
  have Hh := LH h1
  have Lh := LH (And.intro h2 h3)
  clear h1 h2 h3
  go_wp2_with fail
  refine And.intro (inX_of_ext _ Ew3.out) ?_
  repeat (refine lexAt_still (by rfl) ?_; go_big_quiet_step (fail); refine wpQuiet_nil ?_)
  refine lexAt_move (by rfl) (by kernel_rfl) ?_
  go_wp2_with fail
  refine (HCu.out w3 (ET Ew1.out (ET Ew2.out Ew3.out))).mono ?_
  rintro e w4 ⟨Ak, ck, rfl, h1, h2, h3, hE⟩
  have Ew4 := LH hE
  clear hE
  have Hk := LH h1
  have Lk := LH (And.intro h2 h3)
  clear h1 h2 h3
  go_wp2_with fail
  refine And.intro (inX_of_ext _ (ET Ew3.out Ew4.out)) ?_
  repeat (refine lexAt_still (by rfl) ?_; go_big_quiet_step (fail); refine wpQuiet_nil ?_)
  refine lexAt_nil ?_
  clear fa0 fa1 fb0 fb1
  obtain ⟨U, hU⟩ : ∃ U, (halfOf u).length = U := ⟨_, rfl⟩
  rw [hU] at hku hlu Hk Lk ⊢
  have hb1 : ((U : Int) == 0) = false := by simp; omega
  have hb2 : (U == 0) = false := by simp; omega
  obtain ⟨xa0, xa1, -, -, za⟩ := (Ka.out.ext (ET Ew2.out (ET Ew3.out Ew4.out)))
  obtain ⟨xb0, xb1, -, -, zb⟩ := (Kb.out.ext (ET Ew2.out (ET Ew3.out Ew4.out)))
  go_wp2_with fail
  refine (rdiv_any Ah _ ch _ Ak _ ck _ w4 (Hh.out.below Ew4.out) Hk.out (by omega) (by omega) (by rw [hOf_halfOf]; omega) (by rw [hOf_halfOf])).mono ?_
  rintro e w5 ⟨Aq, cq, As, cs, rfl, h1, h2, h3, h4, h5, h6, hE⟩
  have Ew5 := LH hE
  clear hE
  rw [hOf_halfOf, hOf_halfOf] at h1 h2 h4 h5
  rw [HM.out] at h4 h5
  have Hq := LH h1
  have Lq := LH (And.intro h2 h3)
  have Hs := LH h4
  have Ls := LH (And.intro h5 h6)
  clear h1 h2 h3 h4 h5 h6
  rw [hOf_halfOf, hOf_halfOf, HM.out]
  rw [halfOf_zero, List.length_nil] at Hs Ls ⊢
  clear xa0 xa1 za xb0 xb1 zb
  obtain ⟨xa0, xa1, -, -, za⟩ := (Ka.out.ext (ET Ew2.out (ET Ew3.out (ET Ew4.out Ew5.out))))
  obtain ⟨xb0, xb1, -, -, zb⟩ := (Kb.out.ext (ET Ew2.out (ET Ew3.out (ET Ew4.out Ew5.out))))
  go_wp2_with fail
  refine (of_any false Aq _ cq _ w5 Hq.out Lq.out.1 Lq.out.2 (Nat.le_trans (halfOf_mono (Nat.div_le_self _ _)) (by omega))).mono ?_
  rintro e w6 ⟨so, Ao, no, co, rfl, hZ, hE⟩
  have Ew6 := LH hE
  clear hE
  rw [hOf_halfOf, HV.out] at hZ
  have Zo := LH hZ
  clear hZ
  clear xa0 xa1 za xb0 xb1 zb
  obtain ⟨xa0, xa1, -, -, za⟩ := (Ka.out.ext (ET Ew2.out (ET Ew3.out (ET Ew4.out (ET Ew5.out Ew6.out)))))
  obtain ⟨xb0, xb1, -, -, zb⟩ := (Kb.out.ext (ET Ew2.out (ET Ew3.out (ET Ew4.out (ET Ew5.out Ew6.out)))))
  go_wp2_with fail
  refine (of_any false As _ cs _ w6 (Hs.out.below Ew6.out) Ls.out.1 Ls.out.2 (by omega)).mono ?_
  rintro e w7 ⟨sp, Ap, np, cp, rfl, hZ, hE⟩
  have Ew7 := LH hE
  clear hE
  have Zp := LH hZ
  clear hZ
  clear xa0 xa1 za xb0 xb1 zb
  obtain ⟨e0, e1, f0, f1, el⟩ := (Kr.out.ext (ET Ew2.out (ET Ew3.out (ET Ew4.out (ET Ew5.out (ET Ew6.out Ew7.out))))))
  obtain ⟨g0, g1, i0, i1, gl⟩ := (Kt.out.ext (ET Ew2.out (ET Ew3.out (ET Ew4.out (ET Ew5.out (ET Ew6.out Ew7.out))))))
  go_wp2_with fail
  refine bodyPost_ret (v := .tuple #[.agg #[.bool so, .slice Ao no co], .agg #[.bool sp, .slice Ap np cp], .int .i64 0]) (by simp [results, Tryz.results102, go_sem, e0, e1, g0, g1]) rfl ?_
  have hs0 := Nat.lt_of_lt_of_le Kt.out.2.2.2.2 (Nat.le_trans Ew2.out.size (Nat.le_trans Ew3.out.size (Nat.le_trans Ew4.out.size Ew5.out.size)))
  refine ⟨_, _, _, _, _, _, _, _, rfl, (((((Zo.out.ext Ew7.out).put ?_ _).put ?_ _).put ?_ _).put ?_ _).base ?_, Below.setCell (Below.setCell (Below.setCell (Below.setCell (ET Ew1.out (ET Ew2.out (ET Ew3.out (ET Ew4.out (ET Ew5.out (ET Ew6.out Ew7.out)))))) ?_ _) ?_ _) ?_ _) ?_ _⟩
  all_goals first | omega | (simp; done) | (simp; omega)
 ·skip
  go_enter Tryz.func102, Tryz.ntmps102
  go_wp2_with fail
  have k0 := Cell2.new (w) (w.heap.size) rfl (.bool true) (.slice Aa na ca) 27
  have k1 := Cell2.new ((w).alloc (.cells #[.bool true, .slice Aa na ca] 27)) (w.heap.size + 1) (by simp) (.bool false) (.slice Ab nb cb) 27
  have k2 := Cell2.new (((w).alloc (.cells #[.bool true, .slice Aa na ca] 27)).alloc (.cells #[.bool false, .slice Ab nb cb] 27)) (w.heap.size + 1 + 1) (by simp) (.bool false) (.slice none 0 0) 27
  have k3 := Cell2.new ((((w).alloc (.cells #[.bool true, .slice Aa na ca] 27)).alloc (.cells #[.bool false, .slice Ab nb cb] 27)).alloc (.cells #[.bool false, .slice none 0 0] 27)) (w.heap.size + 1 + 1 + 1) (by simp) (.bool false) (.slice none 0 0) 27
  have hE : Ext w (((((w).alloc (.cells #[.bool true, .slice Aa na ca] 27)).alloc (.cells #[.bool false, .slice Ab nb cb] 27)).alloc (.cells #[.bool false, .slice none 0 0] 27)).alloc (.cells #[.bool false, .slice none 0 0] 27)) := (Ext.al (Ext.al (Ext.al (Ext.al Ext.rfl' _) _) _) _)
  have k0 := k0.ext (show Ext ((w).alloc (.cells #[.bool true, .slice Aa na ca] 27)) (((((w).alloc (.cells #[.bool true, .slice Aa na ca] 27)).alloc (.cells #[.bool false, .slice Ab nb cb] 27)).alloc (.cells #[.bool false, .slice none 0 0] 27)).alloc (.cells #[.bool false, .slice none 0 0] 27)) from (Ext.al (Ext.al (Ext.al Ext.rfl' _) _) _))
  have k1 := k1.ext (show Ext (((w).alloc (.cells #[.bool true, .slice Aa na ca] 27)).alloc (.cells #[.bool false, .slice Ab nb cb] 27)) (((((w).alloc (.cells #[.bool true, .slice Aa na ca] 27)).alloc (.cells #[.bool false, .slice Ab nb cb] 27)).alloc (.cells #[.bool false, .slice none 0 0] 27)).alloc (.cells #[.bool false, .slice none 0 0] 27)) from (Ext.al (Ext.al Ext.rfl' _) _))
  have k2 := k2.ext (show Ext ((((w).alloc (.cells #[.bool true, .slice Aa na ca] 27)).alloc (.cells #[.bool false, .slice Ab nb cb] 27)).alloc (.cells #[.bool false, .slice none 0 0] 27)) (((((w).alloc (.cells #[.bool true, .slice Aa na ca] 27)).alloc (.cells #[.bool false, .slice Ab nb cb] 27)).alloc (.cells #[.bool false, .slice none 0 0] 27)).alloc (.cells #[.bool false, .slice none 0 0] 27)) from (Ext.al Ext.rfl' _))
  generalize ((((w).alloc (.cells #[.bool true, .slice Aa na ca] 27)).alloc (.cells #[.bool false, .slice Ab nb cb] 27)).alloc (.cells #[.bool false, .slice none 0 0] 27)).alloc (.cells #[.bool false, .slice none 0 0] 27) = w1 at *
  have Ew1 := LH hE
  clear hE
  have Ka := LH k0
  clear k0
  have Kb := LH k1
  clear k1
  have Kr := LH k2
  clear k2
  have Kt := LH k3
  clear k3
  refine wp_region_lexS (C := InX w1.drew []) (by kernel_rfl) (by kernel_rfl) (inX_self _ _) ?_
  have hE : Ext w1 w1.drew := Ext.rfl'.drew
  generalize w1.drew = w2 at *
  have Ew2 := LH hE
  clear hE
  have fa0 := fun z : ExtX w2 [] => z.cell (p := ⟨w.heap.size, 0, none⟩) (Ka.out.ext Ew2.out).1 (by simp)
  have fa1 := fun z : ExtX w2 [] => z.cell (p := ⟨w.heap.size, 1, none⟩) (Ka.out.ext Ew2.out).2.1 (by simp)
  have fb0 := fun z : ExtX w2 [] => z.cell (p := ⟨w.heap.size + 1, 0, none⟩) (Kb.out.ext Ew2.out).1 (by simp)
  have fb1 := fun z : ExtX w2 [] => z.cell (p := ⟨w.heap.size + 1, 1, none⟩) (Kb.out.ext Ew2.out).2.1 (by simp)
  repeat (refine lexAt_still (by rfl) ?_; go_big_quiet_step (fail); refine wpQuiet_nil ?_)
  refine lexAt_move (by rfl) (by kernel_rfl) ?_
  go_wp2_with fail
  refine (HCx.out w2 (ET Ew1.out Ew2.out)).mono ?_
  rintro e w3 ⟨Ah, ch, rfl, h1, h2, h3, hE⟩
  have Ew3 := LH hE
  clear hE
  have Hh := LH h1
  have Lh := LH (And.intro h2 h3)
  clear h1 h2 h3
  go_wp2_with fail
  refine And.intro (inX_of_ext _ Ew3.out) ?_
  repeat (refine lexAt_still (by rfl) ?_; go_big_quiet_step (fail); refine wpQuiet_nil ?_)
  refine lexAt_move (by rfl) (by kernel_rfl) ?_
  go_wp2_with fail
  refine (HCu.out w3 (ET Ew1.out (ET Ew2.out Ew3.out))).mono ?_
  rintro e w4 ⟨Ak, ck, rfl, h1, h2, h3, hE⟩
  have Ew4 := LH hE
  clear hE
  have Hk := LH h1
  have Lk := LH (And.intro h2 h3)
  clear h1 h2 h3
  go_wp2_with fail
  refine And.intro (inX_of_ext _ (ET Ew3.out Ew4.out)) ?_
  repeat (refine lexAt_still (by rfl) ?_; go_big_quiet_step (fail); refine wpQuiet_nil ?_)
  refine lexAt_nil ?_
  clear fa0 fa1 fb0 fb1
  obtain ⟨U, hU⟩ : ∃ U, (halfOf u).length = U := ⟨_, rfl⟩
  rw [hU] at hku hlu Hk Lk ⊢
  have hb1 : ((U : Int) == 0) = false := by simp; omega
  have hb2 : (U == 0) = false := by simp; omega
  obtain ⟨xa0, xa1, -, -, za⟩ := (Ka.out.ext (ET Ew2.out (ET Ew3.out Ew4.out)))
  obtain ⟨xb0, xb1, -, -, zb⟩ := (Kb.out.ext (ET Ew2.out (ET Ew3.out Ew4.out)))
  go_wp2_with fail
  refine (rdiv_any Ah _ ch _ Ak _ ck _ w4 (Hh.out.below Ew4.out) Hk.out (by omega) (by omega) (by rw [hOf_halfOf]; omega) (by rw [hOf_halfOf])).mono ?_
  rintro e w5 ⟨Aq, cq, As, cs, rfl, h1, h2, h3, h4, h5, h6, hE⟩
  have Ew5 := LH hE
  clear hE
  rw [hOf_halfOf, hOf_halfOf] at h1 h2 h4 h5
  rw [HM.out] at h4 h5
  have Hq := LH h1
  have Lq := LH (And.intro h2 h3)
  have Hs := LH h4
  have Ls := LH (And.intro h5 h6)
  clear h1 h2 h3 h4 h5 h6
  rw [hOf_halfOf, hOf_halfOf, HM.out]
  rw [halfOf_zero, List.length_nil] at Hs Ls ⊢
  clear xa0 xa1 za xb0 xb1 zb
  obtain ⟨xa0, xa1, -, -, za⟩ := (Ka.out.ext (ET Ew2.out (ET Ew3.out (ET Ew4.out Ew5.out))))
  obtain ⟨xb0, xb1, -, -, zb⟩ := (Kb.out.ext (ET Ew2.out (ET Ew3.out (ET Ew4.out Ew5.out))))
  go_wp2_with fail
  refine (of_any true Aq _ cq _ w5 Hq.out Lq.out.1 Lq.out.2 (Nat.le_trans (halfOf_mono (Nat.div_le_self _ _)) (by omega))).mono ?_
  rintro e w6 ⟨so, Ao, no, co, rfl, hZ, hE⟩
  have Ew6 := LH hE
  clear hE
  rw [hOf_halfOf, HV.out] at hZ
  have Zo := LH hZ
  clear hZ
  clear xa0 xa1 za xb0 xb1 zb
  obtain ⟨xa0, xa1, -, -, za⟩ := (Ka.out.ext (ET Ew2.out (ET Ew3.out (ET Ew4.out (ET Ew5.out Ew6.out)))))
  obtain ⟨xb0, xb1, -, -, zb⟩ := (Kb.out.ext (ET Ew2.out (ET Ew3.out (ET Ew4.out (ET Ew5.out Ew6.out)))))
  go_wp2_with fail
  refine (of_any false As _ cs _ w6 (Hs.out.below Ew6.out) Ls.out.1 Ls.out.2 (by omega)).mono ?_
  rintro e w7 ⟨sp, Ap, np, cp, rfl, hZ, hE⟩
  have Ew7 := LH hE
  clear hE
  have Zp := LH hZ
  clear hZ
  clear xa0 xa1 za xb0 xb1 zb
  obtain ⟨e0, e1, f0, f1, el⟩ := (Kr.out.ext (ET Ew2.out (ET Ew3.out (ET Ew4.out (ET Ew5.out (ET Ew6.out Ew7.out))))))
  obtain ⟨g0, g1, i0, i1, gl⟩ := (Kt.out.ext (ET Ew2.out (ET Ew3.out (ET Ew4.out (ET Ew5.out (ET Ew6.out Ew7.out))))))
  go_wp2_with fail
  refine bodyPost_ret (v := .tuple #[.agg #[.bool so, .slice Ao no co], .agg #[.bool sp, .slice Ap np cp], .int .i64 0]) (by simp [results, Tryz.results102, go_sem, e0, e1, g0, g1]) rfl ?_
  have hs0 := Nat.lt_of_lt_of_le Kt.out.2.2.2.2 (Nat.le_trans Ew2.out.size (Nat.le_trans Ew3.out.size (Nat.le_trans Ew4.out.size Ew5.out.size)))
  refine ⟨_, _, _, _, _, _, _, _, rfl, (((((Zo.out.ext Ew7.out).put ?_ _).put ?_ _).put ?_ _).put ?_ _).base ?_, Below.setCell (Below.setCell (Below.setCell (Below.setCell (ET Ew1.out (ET Ew2.out (ET Ew3.out (ET Ew4.out (ET Ew5.out (ET Ew6.out Ew7.out)))))) ?_ _) ?_ _) ?_ _) ?_ _⟩
  all_goals first | omega | (simp; done) | (simp; omega)
set_option maxRecDepth 100000 in
set_option maxHeartbeats 4000000 in
theorem rgcd_any (sa : Bool) (Aa : Option Addr) (na ca : Nat) (y : Int) (sb : Bool) (Ab : Option Addr) (nb cb : Nat) (z : Int) (w : World) (h1 : ZIs w sa Aa na ca y) (h2 : ZIs w sb Ab nb cb z) (hna : na ≤ 200000) (hnb : nb ≤ 200000) :
  Calls Tryz.prog 101 #[.agg #[.bool sa, .slice Aa na ca], .agg #[.bool sb, .slice Ab nb cb]] w (RetZ w (Int.gcd y z : Nat)) := by
 obtain ⟨x, rfl, hlx, CHx⟩ := h1.parts (by omega)
 have HCx := LH CHx
 clear CHx h1
 obtain ⟨u, rfl, hlu, CHu⟩ := h2.parts (by omega)
 have HCu := LH CHu
 clear CHu h2
 have HG : Hid (Int.gcd (sgn sa x) (sgn sb u) = Nat.gcd x u) := by unfold Hid Int.gcd; rw [sgn_abs, sgn_abs]
 rw [HG.out]
 clear HG
 go_enter Tryz.func101, Tryz.ntmps101
 go_wp2_with fail
 have k0 := Cell2.new (w) (w.heap.size) rfl (.bool sa) (.slice Aa na ca) 27
 have k1 := Cell2.new ((w).alloc (.cells #[.bool sa, .slice Aa na ca] 27)) (w.heap.size + 1) (by simp) (.bool sb) (.slice Ab nb cb) 27
 have k2 := Cell2.new (((w).alloc (.cells #[.bool sa, .slice Aa na ca] 27)).alloc (.cells #[.bool sb, .slice Ab nb cb] 27)) (w.heap.size + 1 + 1) (by simp) (.bool false) (.slice none 0 0) 27
 have hE : Ext w ((((w).alloc (.cells #[.bool sa, .slice Aa na ca] 27)).alloc (.cells #[.bool sb, .slice Ab nb cb] 27)).alloc (.cells #[.bool false, .slice none 0 0] 27)) := (Ext.al (Ext.al (Ext.al Ext.rfl' _) _) _)
 have k0 := k0.ext (show Ext ((w).alloc (.cells #[.bool sa, .slice Aa na ca] 27)) ((((w).alloc (.cells #[.bool sa, .slice Aa na ca] 27)).alloc (.cells #[.bool sb, .slice Ab nb cb] 27)).alloc (.cells #[.bool false, .slice none 0 0] 27)) from (Ext.al (Ext.al Ext.rfl' _) _))
 have k1 := k1.ext (show Ext (((w).alloc (.cells #[.bool sa, .slice Aa na ca] 27)).alloc (.cells #[.bool sb, .slice Ab nb cb] 27)) ((((w).alloc (.cells #[.bool sa, .slice Aa na ca] 27)).alloc (.cells #[.bool sb, .slice Ab nb cb] 27)).alloc (.cells #[.bool false, .slice none 0 0] 27)) from (Ext.al Ext.rfl' _))
 generalize (((w).alloc (.cells #[.bool sa, .slice Aa na ca] 27)).alloc (.cells #[.bool sb, .slice Ab nb cb] 27)).alloc (.cells #[.bool false, .slice none 0 0] 27) = w1 at *
 have Ew1 := LH hE
 clear hE
 have Ka := LH k0
 clear k0
 have Kb := LH k1
 clear k1
 have Kr := LH k2
 clear k2
 refine wp_region_lexS (C := InX w1.drew []) (by kernel_rfl) (by kernel_rfl) (inX_self _ _) ?_
 have hE : Ext w1 w1.drew := Ext.rfl'.drew
 generalize w1.drew = w2 at *
 have Ew2 := LH hE
 clear hE
 have fa0 := fun z : ExtX w2 [] => z.cell (p := ⟨w.heap.size, 0, none⟩) (Ka.out.ext Ew2.out).1 (by simp)
 have fa1 := fun z : ExtX w2 [] => z.cell (p := ⟨w.heap.size, 1, none⟩) (Ka.out.ext Ew2.out).2.1 (by simp)
 have fb0 := fun z : ExtX w2 [] => z.cell (p := ⟨w.heap.size + 1, 0, none⟩) (Kb.out.ext Ew2.out).1 (by simp)
 have fb1 := fun z : ExtX w2 [] => z.cell (p := ⟨w.heap.size + 1, 1, none⟩) (Kb.out.ext Ew2.out).2.1 (by simp)
 repeat (refine lexAt_still (by rfl) ?_; go_big_quiet_step (fail); refine wpQuiet_nil ?_)
 refine lexAt_move (by rfl) (by kernel_rfl) ?_
 go_wp2_with fail
 refine (HCx.out w2 (ET Ew1.out Ew2.out)).mono ?_
 rintro e w3 ⟨Ah, ch, rfl, h1, h2, h3, hE⟩
 have Ew3 := LH hE
 clear hE
 have Hh := LH h1
 have Lh := LH (And.intro h2 h3)
 clear h1 h2 h3
 go_wp2_with fail
 refine And.intro (inX_of_ext _ Ew3.out) ?_
 repeat (refine lexAt_still (by rfl) ?_; go_big_quiet_step (fail); refine wpQuiet_nil ?_)
 refine lexAt_move (by rfl) (by kernel_rfl) ?_
 go_wp2_with fail
 refine (HCu.out w3 (ET Ew1.out (ET Ew2.out Ew3.out))).mono ?_
 rintro e w4 ⟨Ak, ck, rfl, h1, h2, h3, hE⟩
 have Ew4 := LH hE
 clear hE
 have Hk := LH h1
 have Lk := LH (And.intro h2 h3)
 clear h1 h2 h3
 go_wp2_with fail
 refine And.intro (inX_of_ext _ (ET Ew3.out Ew4.out)) ?_
 repeat (refine lexAt_still (by rfl) ?_; go_big_quiet_step (fail); refine wpQuiet_nil ?_)
 refine lexAt_nil ?_
 clear fa0 fa1 fb0 fb1
 obtain ⟨g, hg⟩ : ∃ g, Nat.gcd x u = g := ⟨_, rfl⟩
 rw [hg]
 have HGG := LH hg
 clear hg HCx HCu
 generalize (halfOf x).length = k1 at *
 generalize (halfOf u).length = k2 at *
 go_wp2_with fail
 go_loopw [5, 6] (fun vx vy wr => ∃ (A' : Option Addr) (kx cx X : Nat) (B' : Option Addr) (ky cy Y : Nat), vx = .slice A' kx cx ∧ vy = .slice B' ky cy ∧ kx ≤ 400000 ∧ ky ≤ 400000 ∧ Hid (HalfAt wr A' kx (halfOf X) ∧ HalfAt wr B' ky (halfOf Y) ∧ (kx ≤ cx ∧ cx ≤ maxLen ∧ ky ≤ cy ∧ cy ≤ maxLen) ∧ Nat.gcd X Y = g ∧ Ext w4 wr)) (fun _ vy wr => hvalOf wr vy)
 case atStart => exact ⟨_, _, _, x, _, _, _, u, rfl, rfl, by omega, by omega, (Hh.out.below Ew4.out), Hk.out, ⟨Lh.out.1, Lh.out.2, Lk.out.1, Lk.out.2⟩, HGG.out, (Ext.rfl' (w := w4))⟩
 case round =>
  obtain ⟨A', kx, cx, X, B', ky, cy, Y, rfl, rfl, hkx, hky, HI⟩ := hrel
  have HEX := LH HI.out.2.2.2.2
  by_cases h0 : ky = 0
  ·subst h0
   have HX0 : Hid (X = g) := by
    have h1 := halfOf_eq_nil.1 HI.out.2.1.1
    have h2 := HI.out.2.2.2.1
    rw [h1, Nat.gcd_zero_right] at h2
    exact h2
   go_wp2_with fail
   refine (of_any false A' kx cx _ wr HI.out.1 HI.out.2.2.1.1 HI.out.2.2.1.2.1 (by omega)).mono ?_
   rintro e w5 ⟨so, Ao, no, co, rfl, hZ, hE⟩
   have Ew5 := LH hE
   clear hE
   rw [hOf_halfOf, HX0.out, ← HGG.out, sgn_false] at hZ
   have Zo := LH hZ
   clear hZ
   obtain ⟨e0, e1, f0, f1, el⟩ := (Kr.out.ext (ET Ew2.out (ET Ew3.out (ET Ew4.out (ET HEX.out Ew5.out)))))
   go_wp2_with fail
   refine bodyPost_ret (v := .agg #[.bool so, .slice Ao no co]) (by simp [results, Tryz.results101, go_sem, e0, e1]) rfl ?_
   exact ⟨_, _, _, _, rfl, retZ_fill (by omega) (Nat.lt_of_lt_of_le Kr.out.2.2.2.2 (Nat.le_trans Ew2.out.size (Nat.le_trans Ew3.out.size (Nat.le_trans Ew4.out.size HEX.out.size)))) Zo.out (ET Ew1.out (ET Ew2.out (ET Ew3.out (ET Ew4.out (ET HEX.out Ew5.out))))) _ _⟩
  ·have hb0 : decide ((0 : Int) < (ky : Int)) = true := by simp; omega
   have hb1 : decide (0 < ky) = true := by simp; omega
   have hY0 : 0 < Y := by
    rcases Nat.eq_zero_or_pos Y with h | h
    ·have := HI.out.2.1.1
     rw [h, halfOf_zero] at this
     exact absurd this.symm h0
    ·exact h
   have hv := hvalOf_eq HI.out.2.1 cy
   have HVV := LH hv
   clear hv
   go_wp2_with fail
   refine (rdiv_any A' kx cx _ B' ky cy _ wr HI.out.1 HI.out.2.1 hkx hky (by rw [hOf_halfOf]; omega) (by rw [hOf_halfOf])).mono ?_
   rintro e w4 ⟨Aq, cq, As, cs, rfl, h1, h2, h3, h4, h5, h6, hE⟩
   rw [hOf_halfOf, hOf_halfOf] at h4 h5
   rw [hOf_halfOf, hOf_halfOf]
   have HT := LH h4
   have HM : Hid (hvalOf w4 (.slice As (halfOf (X % Y)).length cs) < hvalOf wr (.slice B' ky cy)) := by
    unfold Hid
    rw [HVV.out, hvalOf_eq HT.out]
    exact Nat.mod_lt _ hY0
   have HK : Hid (Nat.gcd Y (X % Y) = g) := by
    unfold Hid
    rw [gcd_step, HI.out.2.2.2.1]
   have hkr : (halfOf (X % Y)).length ≤ ky := by
    have := halfOf_mono (Nat.le_of_lt (Nat.mod_lt X hY0))
    rw [HI.out.2.1.1] at this
    exact this
   have HB2 := LH (HI.out.2.1.below hE)
   have HC2 : Hid ((halfOf (X % Y)).length ≤ cs ∧ cs ≤ maxLen) := ⟨h5, h6⟩
   have HEX2 := LH (ET HEX.out hE)
   clear h1 h2 h3 h4 h5 h6 hE
   generalize (halfOf (X % Y)).length = kk at *
   go_wp2_with fail
   go_roundw
   case rel => exact ⟨_, _, _, Y, _, _, _, X % Y, rfl, rfl, hky, by omega, HB2.out, HT.out, ⟨HI.out.2.2.1.2.2.1, HI.out.2.2.1.2.2.2, HC2.out.1, HC2.out.2⟩, HK.out, HEX2.out⟩
   case measure => exact HM.out
end Go.Proofs.YtjinpfnefeiooaaGreat
