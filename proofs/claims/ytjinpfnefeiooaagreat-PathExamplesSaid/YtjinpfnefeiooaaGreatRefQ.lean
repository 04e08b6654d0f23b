/- A part of the proof. -/
import Derived.Test.YtjinpfnefeiooaaGreatRefI
import Derived.Test.YtjinpfnefeiooaaGreatVarT
namespace Go.Proofs.YtjinpfnefeiooaaGreat
open Go.RowKit

theorem cmpZ_lt {y z : Int} (h : y < z) : cmpZ y z = -1 := by unfold cmpZ; rw [if_pos h]
theorem cmpZ_gt {y z : Int} (h : z < y) : cmpZ y z = 1 := by unfold cmpZ; rw [if_neg (by omega), if_pos h]
theorem sign_lt {y z : Int} (h : y.sign < z.sign) : y < z := by
 rcases sign3 y with ⟨a, b⟩ | ⟨a, b⟩ | ⟨a, b⟩ <;> rcases sign3 z with ⟨c, d⟩ | ⟨c, d⟩ | ⟨c, d⟩ <;> omega
theorem cmpZ_neg {y z : Int} (h : y.sign = z.sign) (hn : y.sign < 0) : cmpZ y z = -cmpN y.natAbs z.natAbs := by
 have h1 : y < 0 := by rcases sign3 y with ⟨a, b⟩ | ⟨a, b⟩ | ⟨a, b⟩ <;> omega
 have h2 : z < 0 := by rcases sign3 z with ⟨a, b⟩ | ⟨a, b⟩ | ⟨a, b⟩ <;> omega
 unfold cmpZ cmpN
 repeat' split
 all_goals first | rfl | omega
theorem cmpZ_pos {y z : Int} (h : y.sign = z.sign) (hn : ¬ y.sign < 0) : cmpZ y z = cmpN y.natAbs z.natAbs := by
 have h1 : 0 ≤ y := by rcases sign3 y with ⟨a, b⟩ | ⟨a, b⟩ | ⟨a, b⟩ <;> omega
 have h2 : 0 ≤ z := by rcases sign3 z with ⟨a, b⟩ | ⟨a, b⟩ | ⟨a, b⟩ <;> omega
 unfold cmpZ cmpN
 repeat' split
 all_goals first | rfl | omega
theorem cmpN_bd (a b : Nat) : -1 ≤ cmpN a b ∧ cmpN a b ≤ 1 := by
 unfold cmpN
 repeat' split
 all_goals omega
theorem cmpZ_zero (y z : Int) : (cmpZ y z == 0) = decide (y = z) := by
 unfold cmpZ
 by_cases h : y = z
 ·rw [if_neg (by omega), if_neg (by omega), decide_eq_true h]; rfl
 ·rw [decide_eq_false h]
  split
  ·rfl
  ·rw [if_pos (by omega)]; rfl
def numV (z y : Int) : Int := if y < 0 then -z else z
def denV (y : Int) : Int := if y = 0 then 1 else (y.natAbs : Nat)
theorem numV_neg {y : Int} (h : y < 0) (z : Int) : numV z y = -z := if_pos h
theorem numV_pos {y : Int} (h : ¬ y < 0) (z : Int) : numV z y = z := if_neg h
theorem denV_zero : denV 0 = 1 := rfl
theorem denV_ne {y : Int} (h : y ≠ 0) : denV y = (y.natAbs : Nat) := if_neg h
theorem denV_pos (y : Int) : 0 < denV y := by unfold denV; split <;> omega
theorem qOf_parts (z y : Int) : qOf z y = Rat.divInt (numV z y) (denV y) := by
 rcases Int.lt_trichotomy y 0 with h | h | h
 ·rw [qOf_neg h, numV_neg h, denV_ne (by omega)]
  congr 1
  omega
 ·subst h
  rw [qOf_zero, denV_zero, numV_pos (by omega), divInt_one]
 ·rw [qOf_pos h, numV_pos (by omega), denV_ne (by omega)]
  congr 1
  omega
theorem numV_abs (z y : Int) : (numV z y).natAbs = z.natAbs := by unfold numV; split <;> omega
theorem denV_lt {y : Int} {k : Nat} (h : y.natAbs < 4294967296 ^ k) : (denV y).natAbs < 4294967296 ^ (k + 1) := by
 have h1 : 4294967296 ^ k ≤ 4294967296 ^ (k + 1) := pow_le (by omega)
 have h2 : 4294967296 ^ 1 ≤ 4294967296 ^ (k + 1) := pow_le (by omega)
 generalize 4294967296 ^ (k + 1) = P at *
 unfold denV
 split <;> omega
def RArg (K : Nat) (w : World) (s : Bool) (A : Option Addr) (n c : Nat) (t : Bool) (B : Option Addr) (m d : Nat) (q : Rat) : Prop := ∃ z y, ZIs w s A n c z ∧ ZIs w t B m d y ∧ q = Rat.divInt (numV z y) (denV y) ∧ n ≤ K ∧ m ≤ K
theorem QIs.rarg {w : World} {s : Bool} {A : Option Addr} {n c : Nat} {t : Bool} {B : Option Addr} {m d : Nat} {q : Rat} (h : QIs w s A n c t B m d q) {K : Nat} (hn : n ≤ K) (hm : m ≤ K) : RArg K w s A n c t B m d q := by
 obtain ⟨z, y, h1, h2, h3⟩ := h
 exact ⟨z, y, h1, h2, by rw [h3, qOf_parts], hn, hm⟩
theorem RArg.ext {K : Nat} {w w' : World} {s : Bool} {A : Option Addr} {n c : Nat} {t : Bool} {B : Option Addr} {m d : Nat} {q : Rat} (h : RArg K w s A n c t B m d q) (hb : Ext w w') : RArg K w' s A n c t B m d q := by
 obtain ⟨z, y, h1, h2, h3⟩ := h
 exact ⟨z, y, h1.ext hb, h2.ext hb, h3⟩
theorem QCan.rarg {w : World} {B0 : Nat} {s : Bool} {A : Option Addr} {n c : Nat} {t : Bool} {B : Option Addr} {m d : Nat} {q : Rat} (h : QCan w B0 s A n c t B m d q) {k K : Nat} (hk : Sz k q) (hK : k ≤ K) : RArg K w s A n c t B m d q :=
 h.is.rarg (Nat.le_trans (h.len hk).1 hK) (Nat.le_trans (h.len hk).2 hK)
theorem RArg.sz {K : Nat} {w : World} {s : Bool} {A : Option Addr} {n c : Nat} {t : Bool} {B : Option Addr} {m d : Nat} {q : Rat} (h : RArg K w s A n c t B m d q) : Sz (K + 1) q := by
 obtain ⟨z, y, h1, h2, rfl, h3, h4⟩ := h
 refine sz_divInt (denV_pos y) ?_ ?_
 ·rw [numV_abs]
  exact Nat.lt_of_lt_of_le (natAbs_ZIs h1) (pow_le (by omega))
 ·exact Nat.lt_of_lt_of_le (denV_lt (natAbs_ZIs h2)) (pow_le (by omega))
theorem Cell2.of_blk {w : World} {g : Nat} {t : TypeId} {v0 v1 : Value} (h : w.heap[g]? = some (.cells #[v0, v1] t (0, 0))) : Cell2 w g v0 v1 := by
 have hb : Blk w g t #[v0, v1] := h
 exact ⟨by rw [hb.cell]; rfl, by rw [hb.cell]; rfl, hb.frozen 0, hb.frozen 1, hb.lt⟩
theorem ZCan.span {w w' : World} {b : Bool} {A : Option Addr} {n c : Nat} {z : Int} (h : ZCan w' w.heap.size b A n c z) {g : Nat} (hg : g < w.heap.size ∨ w'.heap.size ≤ g) : Away g (g + 1) A n := fun hn ad ha => by
 have h1 := h.2.2.2.2.away g n hn ad ha
 have h2 := h.2.1.away (g + 1) hn ad ha
 omega
set_option maxRecDepth 100000 in
set_option maxHeartbeats 4000000 in
theorem rzcmp_any (sa : Bool) (Aa : Option Addr) (na ca : Nat) (y : Int) (sb : Bool) (Ab : Option Addr) (nb cb : Nat) (z : Int) (w : World) (h1 : ZIs w sa Aa na ca y) (h2 : ZIs w sb Ab nb cb z) (hna : na ≤ 200000) (hnb : nb ≤ 200000) :
  Calls Tryz.prog 103 #[.agg #[.bool sa, .slice Aa na ca], .agg #[.bool sb, .slice Ab nb cb]] w fun e w' => e = .returned (.int .i64 (cmpZ y z)) ∧ Ext w w' := by
 have H1 := LH h1
 have H2 := LH h2
 clear h1 h2
 go_enter Tryz.func103, Tryz.ntmps103
 go_wp2_with fail
 have k0 := Cell2.new (w) (w.heap.size) rfl (.bool sa) (.slice Aa na ca) 27
 have k1 := Cell2.new ((w).alloc (.cells #[.bool sa, .slice Aa na ca] 27)) (w.heap.size + 1) (by simp) (.bool sb) (.slice Ab nb cb) 27
 have hE : Ext w (((w).alloc (.cells #[.bool sa, .slice Aa na ca] 27)).alloc (.cells #[.bool sb, .slice Ab nb cb] 27)) := (Ext.al (Ext.al Ext.rfl' _) _)
 have k0 := k0.ext (show Ext ((w).alloc (.cells #[.bool sa, .slice Aa na ca] 27)) (((w).alloc (.cells #[.bool sa, .slice Aa na ca] 27)).alloc (.cells #[.bool sb, .slice Ab nb cb] 27)) from (Ext.al Ext.rfl' _))
 generalize ((w).alloc (.cells #[.bool sa, .slice Aa na ca] 27)).alloc (.cells #[.bool sb, .slice Ab nb cb] 27) = w1 at *
 have Ew1 := LH hE
 clear hE
 have Ka := LH k0
 clear k0
 have Kb := LH k1
 clear k1
 obtain ⟨s1, hs1⟩ : ∃ v, y.sign = v := ⟨_, rfl⟩
 obtain ⟨s2, hs2⟩ : ∃ v, z.sign = v := ⟨_, rfl⟩
 have HS1 := LH hs1
 have HS2 := LH hs2
 clear hs1 hs2
 by_cases hne : s1 = s2
 ·subst hne
  have hb0 : (s1 != s1) = false := by simp
  have hb0' : (s1 == s1) = true := by simp
  refine wp_region_lexS (C := InX w1.drew []) (by kernel_rfl) (by kernel_rfl) (inX_self _ _) ?_
  have hE : Ext w1 w1.drew := Ext.rfl'.drew
  generalize w1.drew = w2 at *
  have Ew2 := LH hE
  clear hE
  have fa0 := fun z : ExtX w2 [] => z.cell (p := ⟨w.heap.size, 0, none⟩) (Ka.out.ext Ew2.out).1 (by simp)
  have fa1 := fun z : ExtX w2 [] => z.cell (p := ⟨w.heap.size, 1, none⟩) (Ka.out.ext Ew2.out).2.1 (by simp)
  have fb0 := fun z : ExtX w2 [] => z.cell (p := ⟨w.heap.size + 1, 0, none⟩) (Kb.out.ext Ew2.out).1 (by simp)
  have fb1 := fun z : ExtX w2 [] => z.cell (p := ⟨w.heap.size + 1, 1, none⟩) (Kb.out.ext Ew2.out).2.1 (by simp)
  repeat (refine lexAt_still (by rfl) ?_; go_big_quiet_step (fail); refine wpQuiet_nil ?_)
  refine lexAt_move (by rfl) (by kernel_rfl) ?_
  go_wp2_with fail
  refine (rsign_any sa Aa na ca _ w2 (H1.out.ext (ET Ew1.out Ew2.out)) (by omega)).mono ?_
  rintro e w3 ⟨rfl, hE⟩
  have Ew3 := LH hE
  clear hE
  rw [HS1.out]
  go_wp2_with fail
  refine And.intro (inX_of_ext _ Ew3.out) ?_
  repeat (refine lexAt_still (by rfl) ?_; go_big_quiet_step (fail); refine wpQuiet_nil ?_)
  refine lexAt_move (by rfl) (by kernel_rfl) ?_
  go_wp2_with fail
  refine (rsign_any sb Ab nb cb _ w3 (H2.out.ext (ET Ew1.out (ET Ew2.out Ew3.out))) (by omega)).mono ?_
  rintro e w4 ⟨rfl, hE⟩
  have Ew4 := LH hE
  clear hE
  rw [HS2.out]
  go_wp2_with fail
  refine And.intro (inX_of_ext _ (ET Ew3.out Ew4.out)) ?_
  repeat (refine lexAt_still (by rfl) ?_; go_big_quiet_step (fail); refine wpQuiet_nil ?_)
  refine lexAt_nil ?_
  clear fa0 fa1 fb0 fb1
  go_wp2_with fail
  refine wp_region_lexS (C := InX w4.drew []) (by kernel_rfl) (by kernel_rfl) (inX_self _ _) ?_
  have hE : Ext w4 w4.drew := Ext.rfl'.drew
  generalize w4.drew = w5 at *
  have Ew5 := LH hE
  clear hE
  have fa0 := fun z : ExtX w5 [] => z.cell (p := ⟨w.heap.size, 0, none⟩) (Ka.out.ext (ET Ew2.out (ET Ew3.out (ET Ew4.out Ew5.out)))).1 (by simp)
  have fa1 := fun z : ExtX w5 [] => z.cell (p := ⟨w.heap.size, 1, none⟩) (Ka.out.ext (ET Ew2.out (ET Ew3.out (ET Ew4.out Ew5.out)))).2.1 (by simp)
  have fb0 := fun z : ExtX w5 [] => z.cell (p := ⟨w.heap.size + 1, 0, none⟩) (Kb.out.ext (ET Ew2.out (ET Ew3.out (ET Ew4.out Ew5.out)))).1 (by simp)
  have fb1 := fun z : ExtX w5 [] => z.cell (p := ⟨w.heap.size + 1, 1, none⟩) (Kb.out.ext (ET Ew2.out (ET Ew3.out (ET Ew4.out Ew5.out)))).2.1 (by simp)
  repeat (refine lexAt_still (by rfl) ?_; go_big_quiet_step (fail); refine wpQuiet_nil ?_)
  have HEQ : Hid (y.sign = z.sign) := by unfold Hid; rw [HS1.out, HS2.out]
  obtain ⟨x, hyx, hlx, CHx⟩ := H1.out.parts (by omega)
  obtain ⟨u, hzu, hlu, CHu⟩ := H2.out.parts (by omega)
  have HCx := LH CHx
  have HCu := LH CHu
  have HNX : Hid (y.natAbs = x ∧ z.natAbs = u) := by unfold Hid; rw [hyx, hzu, sgn_abs, sgn_abs]; exact ⟨rfl, rfl⟩
  clear CHx CHu hyx hzu
  refine lexAt_move (by rfl) (by kernel_rfl) ?_
  go_wp2_with fail
  refine (HCx.out w5 (ET Ew1.out (ET Ew2.out (ET Ew3.out (ET Ew4.out Ew5.out))))).mono ?_
  rintro e w6 ⟨Ah, ch, rfl, h1, h2, h3, hE⟩
  have Ew6 := LH hE
  clear hE
  have Hh := LH h1
  have Lh := LH (And.intro h2 h3)
  clear h1 h2 h3
  go_wp2_with fail
  refine And.intro (inX_of_ext _ Ew6.out) ?_
  repeat (refine lexAt_still (by rfl) ?_; go_big_quiet_step (fail); refine wpQuiet_nil ?_)
  refine lexAt_move (by rfl) (by kernel_rfl) ?_
  go_wp2_with fail
  refine (HCu.out w6 (ET Ew1.out (ET Ew2.out (ET Ew3.out (ET Ew4.out (ET Ew5.out Ew6.out)))))).mono ?_
  rintro e w7 ⟨Ak, ck, rfl, h1, h2, h3, hE⟩
  have Ew7 := LH hE
  clear hE
  have Hk := LH h1
  have Lk := LH (And.intro h2 h3)
  clear h1 h2 h3
  go_wp2_with fail
  refine And.intro (inX_of_ext _ (ET Ew6.out Ew7.out)) ?_
  repeat (refine lexAt_still (by rfl) ?_; go_big_quiet_step (fail); refine wpQuiet_nil ?_)
  refine lexAt_move (by rfl) (by kernel_rfl) ?_
  go_wp2_with fail
  refine (rcmp_any Ah _ ch _ Ak _ ck _ w7 (Hh.out.below Ew7.out) Hk.out (by omega) (by omega)).mono ?_
  rintro e w8 ⟨rfl, hE⟩
  have Ew8 := LH hE
  clear hE
  rw [hOf_halfOf, hOf_halfOf]
  go_wp2_with fail
  refine And.intro (inX_of_ext _ (ET Ew6.out (ET Ew7.out Ew8.out))) ?_
  repeat (refine lexAt_still (by rfl) ?_; go_big_quiet_step (fail); refine wpQuiet_nil ?_)
  refine lexAt_nil ?_
  clear fa0 fa1 fb0 fb1
  obtain ⟨xa0, xa1, -, -, za⟩ := (Ka.out.ext (ET Ew2.out (ET Ew3.out (ET Ew4.out (ET Ew5.out (ET Ew6.out (ET Ew7.out Ew8.out)))))))
  obtain ⟨xb0, xb1, -, -, zb⟩ := (Kb.out.ext (ET Ew2.out (ET Ew3.out (ET Ew4.out (ET Ew5.out (ET Ew6.out (ET Ew7.out Ew8.out)))))))
  go_wp2_with fail
  refine (rsign_any sa Aa na ca _ w8 (H1.out.ext (ET Ew1.out (ET Ew2.out (ET Ew3.out (ET Ew4.out (ET Ew5.out (ET Ew6.out (ET Ew7.out Ew8.out)))))))) (by omega)).mono ?_
  rintro e w9 ⟨rfl, hE⟩
  have Ew9 := LH hE
  clear hE
  rw [HS1.out]
  clear xa0 xa1 za xb0 xb1 zb
  by_cases hng : s1 < 0
  ·have hb1 : decide (s1 < 0) = true := decide_eq_true hng
   have HV : Hid (-cmpN x u = cmpZ y z) := by unfold Hid; rw [← HNX.out.1, ← HNX.out.2]; exact (cmpZ_neg HEQ.out (by rw [HS1.out]; exact hng)).symm
   have hv1 := cmpN_bd x u
   generalize cmpN x u = v at *
   go_wp2_with fail
   go_ret
   exact ⟨ret_i (by rw [← HV.out]), (ET Ew1.out (ET Ew2.out (ET Ew3.out (ET Ew4.out (ET Ew5.out (ET Ew6.out (ET Ew7.out (ET Ew8.out Ew9.out))))))))⟩
  ·have hb1 : decide (s1 < 0) = false := decide_eq_false hng
   have HV : Hid (cmpN x u = cmpZ y z) := by unfold Hid; rw [← HNX.out.1, ← HNX.out.2]; exact (cmpZ_pos HEQ.out (by rw [HS1.out]; exact hng)).symm
   go_wp2_with fail
   go_ret
   exact ⟨ret_i (by rw [← HV.out]), (ET Ew1.out (ET Ew2.out (ET Ew3.out (ET Ew4.out (ET Ew5.out (ET Ew6.out (ET Ew7.out (ET Ew8.out Ew9.out))))))))⟩
 ·have hb0 : (s1 != s2) = true := by simp [hne]
  have hb0' : (s1 == s2) = false := by simp [hne]
  refine wp_region_lexS (C := InX w1.drew []) (by kernel_rfl) (by kernel_rfl) (inX_self _ _) ?_
  have hE : Ext w1 w1.drew := Ext.rfl'.drew
  generalize w1.drew = w10 at *
  have Ew10 := LH hE
  clear hE
  have fa0 := fun z : ExtX w10 [] => z.cell (p := ⟨w.heap.size, 0, none⟩) (Ka.out.ext Ew10.out).1 (by simp)
  have fa1 := fun z : ExtX w10 [] => z.cell (p := ⟨w.heap.size, 1, none⟩) (Ka.out.ext Ew10.out).2.1 (by simp)
  have fb0 := fun z : ExtX w10 [] => z.cell (p := ⟨w.heap.size + 1, 0, none⟩) (Kb.out.ext Ew10.out).1 (by simp)
  have fb1 := fun z : ExtX w10 [] => z.cell (p := ⟨w.heap.size + 1, 1, none⟩) (Kb.out.ext Ew10.out).2.1 (by simp)
  repeat (refine lexAt_still (by rfl) ?_; go_big_quiet_step (fail); refine wpQuiet_nil ?_)
  refine lexAt_move (by rfl) (by kernel_rfl) ?_
  go_wp2_with fail
  refine (rsign_any sa Aa na ca _ w10 (H1.out.ext (ET Ew1.out Ew10.out)) (by omega)).mono ?_
  rintro e w11 ⟨rfl, hE⟩
  have Ew11 := LH hE
  clear hE
  rw [HS1.out]
  go_wp2_with fail
  refine And.intro (inX_of_ext _ Ew11.out) ?_
  repeat (refine lexAt_still (by rfl) ?_; go_big_quiet_step (fail); refine wpQuiet_nil ?_)
  refine lexAt_move (by rfl) (by kernel_rfl) ?_
  go_wp2_with fail
  refine (rsign_any sb Ab nb cb _ w11 (H2.out.ext (ET Ew1.out (ET Ew10.out Ew11.out))) (by omega)).mono ?_
  rintro e w12 ⟨rfl, hE⟩
  have Ew12 := LH hE
  clear hE
  rw [HS2.out]
  go_wp2_with fail
  refine And.intro (inX_of_ext _ (ET Ew11.out Ew12.out)) ?_
  repeat (refine lexAt_still (by rfl) ?_; go_big_quiet_step (fail); refine wpQuiet_nil ?_)
  refine lexAt_nil ?_
  clear fa0 fa1 fb0 fb1
  go_wp2_with fail
  refine wp_region_lexS (C := InX w12.drew []) (by kernel_rfl) (by kernel_rfl) (inX_self _ _) ?_
  have hE : Ext w12 w12.drew := Ext.rfl'.drew
  generalize w12.drew = w13 at *
  have Ew13 := LH hE
  clear hE
  have fa0 := fun z : ExtX w13 [] => z.cell (p := ⟨w.heap.size, 0, none⟩) (Ka.out.ext (ET Ew10.out (ET Ew11.out (ET Ew12.out Ew13.out)))).1 (by simp)
  have fa1 := fun z : ExtX w13 [] => z.cell (p := ⟨w.heap.size, 1, none⟩) (Ka.out.ext (ET Ew10.out (ET Ew11.out (ET Ew12.out Ew13.out)))).2.1 (by simp)
  have fb0 := fun z : ExtX w13 [] => z.cell (p := ⟨w.heap.size + 1, 0, none⟩) (Kb.out.ext (ET Ew10.out (ET Ew11.out (ET Ew12.out Ew13.out)))).1 (by simp)
  have fb1 := fun z : ExtX w13 [] => z.cell (p := ⟨w.heap.size + 1, 1, none⟩) (Kb.out.ext (ET Ew10.out (ET Ew11.out (ET Ew12.out Ew13.out)))).2.1 (by simp)
  repeat (refine lexAt_still (by rfl) ?_; go_big_quiet_step (fail); refine wpQuiet_nil ?_)
  refine lexAt_move (by rfl) (by kernel_rfl) ?_
  go_wp2_with fail
  refine (rsign_any sa Aa na ca _ w13 (H1.out.ext (ET Ew1.out (ET Ew10.out (ET Ew11.out (ET Ew12.out Ew13.out))))) (by omega)).mono ?_
  rintro e w14 ⟨rfl, hE⟩
  have Ew14 := LH hE
  clear hE
  rw [HS1.out]
  go_wp2_with fail
  refine And.intro (inX_of_ext _ Ew14.out) ?_
  repeat (refine lexAt_still (by rfl) ?_; go_big_quiet_step (fail); refine wpQuiet_nil ?_)
  refine lexAt_move (by rfl) (by kernel_rfl) ?_
  go_wp2_with fail
  refine (rsign_any sb Ab nb cb _ w14 (H2.out.ext (ET Ew1.out (ET Ew10.out (ET Ew11.out (ET Ew12.out (ET Ew13.out Ew14.out)))))) (by omega)).mono ?_
  rintro e w15 ⟨rfl, hE⟩
  have Ew15 := LH hE
  clear hE
  rw [HS2.out]
  go_wp2_with fail
  refine And.intro (inX_of_ext _ (ET Ew14.out Ew15.out)) ?_
  repeat (refine lexAt_still (by rfl) ?_; go_big_quiet_step (fail); refine wpQuiet_nil ?_)
  refine lexAt_nil ?_
  clear fa0 fa1 fb0 fb1
  by_cases hlt : s1 < s2
  ·have hb1 : decide (s1 < s2) = true := decide_eq_true hlt
   have HV : Hid (-1 = cmpZ y z) := by unfold Hid; exact (cmpZ_lt (sign_lt (by rw [HS1.out, HS2.out]; exact hlt))).symm
   go_wp2_with fail
   go_ret
   exact ⟨ret_i (by rw [← HV.out]), (ET Ew1.out (ET Ew10.out (ET Ew11.out (ET Ew12.out (ET Ew13.out (ET Ew14.out Ew15.out))))))⟩
  ·have hb1 : decide (s1 < s2) = false := decide_eq_false hlt
   have HV : Hid (1 = cmpZ y z) := by unfold Hid; exact (cmpZ_gt (sign_lt (by rw [HS1.out, HS2.out]; omega))).symm
   go_wp2_with fail
   go_ret
   exact ⟨ret_i (by rw [← HV.out]), (ET Ew1.out (ET Ew10.out (ET Ew11.out (ET Ew12.out (ET Ew13.out (ET Ew14.out Ew15.out))))))⟩
set_option maxRecDepth 100000 in
set_option maxHeartbeats 4000000 in
theorem rone_any  (w : World)  :
  Calls Tryz.prog 104 #[] w (RetZ w 1) := by
 go_enter Tryz.func104, Tryz.ntmps104
 go_wp2_with fail
 have k0 := Cell2.new (w) (w.heap.size) rfl (.bool false) (.slice none 0 0) 27
 have hE : Ext w ((w).alloc (.cells #[.bool false, .slice none 0 0] 27)) := (Ext.al Ext.rfl' _)
 generalize (w).alloc (.cells #[.bool false, .slice none 0 0] 27) = w1 at *
 have Ew1 := LH hE
 clear hE
 have Kr := LH k0
 clear k0
 refine (rfrom_any 1 w1 ⟨by omega, by omega⟩).mono ?_
 rintro e w2 ⟨sv, Av, nv, cv, rfl, hZ, hE⟩
 have Ew2 := LH hE
 clear hE
 have Zv := LH hZ
 clear hZ
 obtain ⟨e0, e1, f0, f1, el⟩ := (Kr.out.ext Ew2.out)
 go_wp2_with fail
 refine bodyPost_ret (v := .agg #[.bool sv, .slice Av nv cv]) (by simp [results, Tryz.results104, go_sem, e0, e1]) rfl ?_
 exact ⟨_, _, _, _, rfl, retZ_fill (Nat.le_refl _) (Nat.lt_of_lt_of_le Kr.out.2.2.2.2 (Nat.le_refl _)) Zv.out (ET Ew1.out Ew2.out) _ _⟩
set_option maxRecDepth 100000 in
set_option maxHeartbeats 4000000 in
theorem rden_any (sa : Bool) (Aa : Option Addr) (na ca : Nat) (ta : Bool) (Ba : Option Addr) (ma da : Nat) (y : Int) (w : World) (hy : ZIs w ta Ba ma da y) (hm : ma ≤ 536870912) :
  Calls Tryz.prog 75 #[.agg #[.bool sa, .slice Aa na ca, .bool ta, .slice Ba ma da]] w (RetZ w (denV y)) := by
 have HY := LH hy
 clear hy
 go_enter Tryz.func75, Tryz.ntmps75
 go_wp2_with fail
 have k0 := Cell4.new (w) (w.heap.size) rfl (.bool sa) (.slice Aa na ca) (.bool ta) (.slice Ba ma da) 29
 have k1 := Cell2.new ((w).alloc (.cells #[.bool sa, .slice Aa na ca, .bool ta, .slice Ba ma da] 29)) (w.heap.size + 1) (by simp) (.bool false) (.slice none 0 0) 27
 have hE : Ext w (((w).alloc (.cells #[.bool sa, .slice Aa na ca, .bool ta, .slice Ba ma da] 29)).alloc (.cells #[.bool false, .slice none 0 0] 27)) := (Ext.al (Ext.al Ext.rfl' _) _)
 have k0 := k0.ext (show Ext ((w).alloc (.cells #[.bool sa, .slice Aa na ca, .bool ta, .slice Ba ma da] 29)) (((w).alloc (.cells #[.bool sa, .slice Aa na ca, .bool ta, .slice Ba ma da] 29)).alloc (.cells #[.bool false, .slice none 0 0] 27)) from (Ext.al Ext.rfl' _))
 generalize ((w).alloc (.cells #[.bool sa, .slice Aa na ca, .bool ta, .slice Ba ma da] 29)).alloc (.cells #[.bool false, .slice none 0 0] 27) = w1 at *
 have Ew1 := LH hE
 clear hE
 have Ka := LH k0
 clear k0
 have Kr := LH k1
 clear k1
 refine (rsign_any ta Ba ma da _ w1 (HY.out.ext Ew1.out) (by omega)).mono ?_
 rintro e w2 ⟨rfl, hE⟩
 have Ew2 := LH hE
 clear hE
 obtain ⟨sg, hsg⟩ : ∃ v, y.sign = v := ⟨_, rfl⟩
 rw [hsg]
 by_cases h0 : y = 0
 ·subst h0
  obtain rfl : sg = 0 := by rw [← hsg]; rfl
  clear hsg
  go_wp2_with fail
  refine (rone_any w2).mono ?_
  rintro e w3 ⟨sv, Av, nv, cv, rfl, hZ, hE⟩
  have Ew3 := LH hE
  clear hE
  rw [← denV_zero] at hZ
  have Zv := LH hZ
  clear hZ
  obtain ⟨e0, e1, f0, f1, el⟩ := (Kr.out.ext (ET Ew2.out Ew3.out))
  go_wp2_with fail
  refine bodyPost_ret (v := .agg #[.bool sv, .slice Av nv cv]) (by simp [results, Tryz.results75, go_sem, e0, e1]) rfl ?_
  exact ⟨_, _, _, _, rfl, retZ_fill (by omega) (Nat.lt_of_lt_of_le Kr.out.2.2.2.2 Ew2.out.size) Zv.out (ET Ew1.out (ET Ew2.out Ew3.out)) _ _⟩
 ·have hb0 : (sg == 0) = false := by rw [← hsg]; rcases sign3 y with ⟨a, b⟩ | ⟨a, b⟩ | ⟨a, b⟩ <;> rw [b] <;> first | rfl | omega
  have HV := LH (denV_ne h0)
  clear hsg h0
  obtain ⟨⟨xa0, xa1, xa2, xa3⟩, -, za⟩ := (Ka.out.ext Ew2.out)
  go_wp2_with fail
  refine (rabs_any ta Ba ma da _ w2 (HY.out.ext (ET Ew1.out Ew2.out)) (by omega)).mono ?_
  rintro e w4 ⟨sv, Av, nv, cv, rfl, hZ, hE⟩
  have Ew4 := LH hE
  clear hE
  rw [← HV.out] at hZ
  have Zv := LH hZ
  clear hZ
  clear xa0 xa1 xa2 xa3 za
  obtain ⟨e0, e1, f0, f1, el⟩ := (Kr.out.ext (ET Ew2.out Ew4.out))
  go_wp2_with fail
  refine bodyPost_ret (v := .agg #[.bool sv, .slice Av nv cv]) (by simp [results, Tryz.results75, go_sem, e0, e1]) rfl ?_
  exact ⟨_, _, _, _, rfl, retZ_fill (by omega) (Nat.lt_of_lt_of_le Kr.out.2.2.2.2 Ew2.out.size) Zv.out (ET Ew1.out (ET Ew2.out Ew4.out)) _ _⟩
set_option maxRecDepth 100000 in
set_option maxHeartbeats 4000000 in
theorem rnum_any (sa : Bool) (Aa : Option Addr) (na ca : Nat) (ta : Bool) (Ba : Option Addr) (ma da : Nat) (z y : Int) (w : World) (hz : ZIs w sa Aa na ca z) (hy : ZIs w ta Ba ma da y) (hn : na ≤ 536870912) (hm : ma ≤ 536870912) :
  Calls Tryz.prog 74 #[.agg #[.bool sa, .slice Aa na ca, .bool ta, .slice Ba ma da]] w (RetZ w (numV z y)) := by
 have HZ := LH hz
 have HY := LH hy
 clear hy hz
 go_enter Tryz.func74, Tryz.ntmps74
 go_wp2_with fail
 have k0 := Cell4.new (w) (w.heap.size) rfl (.bool sa) (.slice Aa na ca) (.bool ta) (.slice Ba ma da) 29
 have k1 := Cell2.new ((w).alloc (.cells #[.bool sa, .slice Aa na ca, .bool ta, .slice Ba ma da] 29)) (w.heap.size + 1) (by simp) (.bool false) (.slice none 0 0) 27
 have hE : Ext w (((w).alloc (.cells #[.bool sa, .slice Aa na ca, .bool ta, .slice Ba ma da] 29)).alloc (.cells #[.bool false, .slice none 0 0] 27)) := (Ext.al (Ext.al Ext.rfl' _) _)
 have k0 := k0.ext (show Ext ((w).alloc (.cells #[.bool sa, .slice Aa na ca, .bool ta, .slice Ba ma da] 29)) (((w).alloc (.cells #[.bool sa, .slice Aa na ca, .bool ta, .slice Ba ma da] 29)).alloc (.cells #[.bool false, .slice none 0 0] 27)) from (Ext.al Ext.rfl' _))
 generalize ((w).alloc (.cells #[.bool sa, .slice Aa na ca, .bool ta, .slice Ba ma da] 29)).alloc (.cells #[.bool false, .slice none 0 0] 27) = w1 at *
 have Ew1 := LH hE
 clear hE
 have Ka := LH k0
 clear k0
 have Kr := LH k1
 clear k1
 refine (rsign_any ta Ba ma da _ w1 (HY.out.ext Ew1.out) (by omega)).mono ?_
 rintro e w2 ⟨rfl, hE⟩
 have Ew2 := LH hE
 clear hE
 obtain ⟨sg, hsg⟩ : ∃ v, y.sign = v := ⟨_, rfl⟩
 rw [hsg]
 by_cases h0 : y < 0
 ·have hb0 : decide (sg < 0) = true := by rw [← hsg]; rcases sign3 y with ⟨a, b⟩ | ⟨a, b⟩ | ⟨a, b⟩ <;> rw [b] <;> first | rfl | omega
  have HV := LH (numV_neg h0 z)
  clear hsg h0
  obtain ⟨⟨xa0, xa1, xa2, xa3⟩, -, za⟩ := (Ka.out.ext Ew2.out)
  go_wp2_with fail
  refine (rneg_any sa Aa na ca _ w2 (HZ.out.ext (ET Ew1.out Ew2.out)) (by omega)).mono ?_
  rintro e w3 ⟨sv, Av, nv, cv, rfl, hZ, hE⟩
  have Ew3 := LH hE
  clear hE
  rw [← HV.out] at hZ
  have Zv := LH hZ
  clear hZ
  clear xa0 xa1 xa2 xa3 za
  obtain ⟨e0, e1, f0, f1, el⟩ := (Kr.out.ext (ET Ew2.out Ew3.out))
  go_wp2_with fail
  refine bodyPost_ret (v := .agg #[.bool sv, .slice Av nv cv]) (by simp [results, Tryz.results74, go_sem, e0, e1]) rfl ?_
  exact ⟨_, _, _, _, rfl, retZ_fill (by omega) (Nat.lt_of_lt_of_le Kr.out.2.2.2.2 Ew2.out.size) Zv.out (ET Ew1.out (ET Ew2.out Ew3.out)) _ _⟩
 ·have hb0 : decide (sg < 0) = false := by rw [← hsg]; rcases sign3 y with ⟨a, b⟩ | ⟨a, b⟩ | ⟨a, b⟩ <;> rw [b] <;> first | rfl | omega
  have HV := LH (numV_pos h0 z)
  clear hsg h0
  obtain ⟨⟨xa0, xa1, xa2, xa3⟩, -, za⟩ := (Ka.out.ext Ew2.out)
  go_wp2_with fail
  refine (rleast_any sa Aa na ca _ w2 (HZ.out.ext (ET Ew1.out Ew2.out)) (by omega)).mono ?_
  rintro e w4 ⟨sv, Av, nv, cv, rfl, hZ, hE⟩
  have Ew4 := LH hE
  clear hE
  rw [← HV.out] at hZ
  have Zv := LH hZ
  clear hZ
  clear xa0 xa1 xa2 xa3 za
  obtain ⟨e0, e1, f0, f1, el⟩ := (Kr.out.ext (ET Ew2.out Ew4.out))
  go_wp2_with fail
  refine bodyPost_ret (v := .agg #[.bool sv, .slice Av nv cv]) (by simp [results, Tryz.results74, go_sem, e0, e1]) rfl ?_
  exact ⟨_, _, _, _, rfl, retZ_fill (by omega) (Nat.lt_of_lt_of_le Kr.out.2.2.2.2 Ew2.out.size) Zv.out (ET Ew1.out (ET Ew2.out Ew4.out)) _ _⟩
set_option maxRecDepth 100000 in
set_option maxHeartbeats 4000000 in
theorem rover_any (sa : Bool) (Aa : Option Addr) (na ca : Nat) (y : Int) (sb : Bool) (Ab : Option Addr) (nb cb : Nat) (z : Int) (w : World) (h1 : ZIs w sa Aa na ca y) (h2 : ZIs w sb Ab nb cb z) (hna : na ≤ 200000) (hnb : nb ≤ 200000) (h0 : 0 < z) :
  Calls Tryz.prog 73 #[.agg #[.bool sa, .slice Aa na ca], .agg #[.bool sb, .slice Ab nb cb]] w (RetQ w (Rat.divInt y z)) := by
 have HNU : Hid ((Rat.divInt y z).num = y / (Int.gcd y z : Nat)) := num_red h0
 have HDE : Hid (denOf (Rat.divInt y z) = if z / (Int.gcd y z : Nat) = 1 then 0 else z / (Int.gcd y z : Nat)) := by
  unfold Hid denOf
  have := den_red (z := y) h0
  by_cases e : (Rat.divInt y z).den = 1
  ·rw [if_pos e, if_pos (by omega)]
  ·rw [if_neg e, if_neg (by omega), this]
 have HGZ : Hid ((0 : Int) < (Int.gcd y z : Nat) ∧ ((Int.gcd y z : Nat) : Int) ∣ y ∧ ((Int.gcd y z : Nat) : Int) ∣ z) := by
  refine ⟨?_, Int.gcd_dvd_left .., Int.gcd_dvd_right ..⟩
  have : Int.gcd y z ≠ 0 := fun e => by
   have := (Int.gcd_eq_zero_iff.1 e).2
   omega
  omega
 have HGL : Hid ((Int.gcd y z : Nat) ≤ z.natAbs) := Nat.le_of_dvd (by omega) (by simpa using Int.natAbs_dvd_natAbs.2 (Int.gcd_dvd_right (a := y) (b := z)))
 have HZB := LH (natAbs_ZIs h2)
 have H1 := LH h1
 have H2 := LH h2
 clear h1 h2
 go_enter Tryz.func73, Tryz.ntmps73
 go_wp2_with fail
 have k0 := Cell2.new (w) (w.heap.size) rfl (.bool sa) (.slice Aa na ca) 27
 have k1 := Cell2.new ((w).alloc (.cells #[.bool sa, .slice Aa na ca] 27)) (w.heap.size + 1) (by simp) (.bool sb) (.slice Ab nb cb) 27
 have k2 := Cell4.new (((w).alloc (.cells #[.bool sa, .slice Aa na ca] 27)).alloc (.cells #[.bool sb, .slice Ab nb cb] 27)) (w.heap.size + 1 + 1) (by simp) (.bool false) (.slice none 0 0) (.bool false) (.slice none 0 0) 29
 have hE : Ext w ((((w).alloc (.cells #[.bool sa, .slice Aa na ca] 27)).alloc (.cells #[.bool sb, .slice Ab nb cb] 27)).alloc (.cells #[.bool false, .slice none 0 0, .bool false, .slice none 0 0] 29)) := (Ext.al (Ext.al (Ext.al Ext.rfl' _) _) _)
 have k0 := k0.ext (show Ext ((w).alloc (.cells #[.bool sa, .slice Aa na ca] 27)) ((((w).alloc (.cells #[.bool sa, .slice Aa na ca] 27)).alloc (.cells #[.bool sb, .slice Ab nb cb] 27)).alloc (.cells #[.bool false, .slice none 0 0, .bool false, .slice none 0 0] 29)) from (Ext.al (Ext.al Ext.rfl' _) _))
 have k1 := k1.ext (show Ext (((w).alloc (.cells #[.bool sa, .slice Aa na ca] 27)).alloc (.cells #[.bool sb, .slice Ab nb cb] 27)) ((((w).alloc (.cells #[.bool sa, .slice Aa na ca] 27)).alloc (.cells #[.bool sb, .slice Ab nb cb] 27)).alloc (.cells #[.bool false, .slice none 0 0, .bool false, .slice none 0 0] 29)) from (Ext.al Ext.rfl' _))
 generalize (((w).alloc (.cells #[.bool sa, .slice Aa na ca] 27)).alloc (.cells #[.bool sb, .slice Ab nb cb] 27)).alloc (.cells #[.bool false, .slice none 0 0, .bool false, .slice none 0 0] 29) = w1 at *
 have Ew1 := LH hE
 clear hE
 have Ka := LH k0
 clear k0
 have Kb := LH k1
 clear k1
 have Kr := LH k2
 clear k2
 refine (rgcd_any sa Aa na ca _ sb Ab nb cb _ w1 (H1.out.ext Ew1.out) (H2.out.ext Ew1.out) (by omega) (by omega)).mono ?_
 rintro e w2 ⟨sg, Ag, ng, cg, rfl, hZ, hE⟩
 have Ew2 := LH hE
 clear hE
 have Zg := LH hZ
 clear hZ
 generalize Int.gcd y z = gg at *
 have hlg := words_bd Zg.out (k := nb) (by have := HGL.out; have := HZB.out; simp only [Int.natAbs_natCast]; omega)
 obtain ⟨xa0, xa1, -, -, za⟩ := (Ka.out.ext Ew2.out)
 obtain ⟨xb0, xb1, -, -, zb⟩ := (Kb.out.ext Ew2.out)
 go_wp2_with fail
 clear xa0 xa1 za xb0 xb1 zb
 have k0 := Cell2.new (w2) (w2.heap.size) rfl (.bool sg) (.slice Ag ng cg) 27
 have hE : Ext w2 ((w2).alloc (.cells #[.bool sg, .slice Ag ng cg] 27)) := (Ext.al Ext.rfl' _)
 generalize (w2).alloc (.cells #[.bool sg, .slice Ag ng cg] 27) = w3 at *
 have Ew3 := LH hE
 clear hE
 have Kg := LH k0
 clear k0
 obtain ⟨xa0, xa1, -, -, za⟩ := (Ka.out.ext (ET Ew2.out Ew3.out))
 obtain ⟨xb0, xb1, -, -, zb⟩ := (Kb.out.ext (ET Ew2.out Ew3.out))
 obtain ⟨xg0, xg1, -, -, zg⟩ := Kg.out
 skip
 refine (rzdiv_any sa Aa na ca _ sg Ag ng cg _ w3 (H1.out.ext (ET Ew1.out (ET Ew2.out Ew3.out))) (Zg.out.ext Ew3.out).is (by omega) (by omega) HGZ.out.1 HGZ.out.2.1).mono ?_
 rintro e w4 ⟨sp, Ap, np, cp, srp, Arp, nrp, crp, rfl, hZ, hE⟩
 have Ew4 := LH hE
 clear hE
 have Zp := LH hZ
 clear hZ
 obtain ⟨xa0, xa1, -, -, za⟩ := (Ka.out.ext (ET Ew2.out (ET Ew3.out Ew4.out)))
 obtain ⟨xb0, xb1, -, -, zb⟩ := (Kb.out.ext (ET Ew2.out (ET Ew3.out Ew4.out)))
 obtain ⟨xg0, xg1, -, -, zg⟩ := (Kg.out.ext Ew4.out)
 go_wp2_with fail
 clear xa0 xa1 za xb0 xb1 zb xg0 xg1 zg
 have k0 := Cell2.new (w4) (w4.heap.size) rfl (.bool sp) (.slice Ap np cp) 27
 have k1 := Cell2.new ((w4).alloc (.cells #[.bool sp, .slice Ap np cp] 27)) (w4.heap.size + 1) (by simp) (.bool srp) (.slice Arp nrp crp) 27
 have hE : Ext w4 (((w4).alloc (.cells #[.bool sp, .slice Ap np cp] 27)).alloc (.cells #[.bool srp, .slice Arp nrp crp] 27)) := (Ext.al (Ext.al Ext.rfl' _) _)
 have k0 := k0.ext (show Ext ((w4).alloc (.cells #[.bool sp, .slice Ap np cp] 27)) (((w4).alloc (.cells #[.bool sp, .slice Ap np cp] 27)).alloc (.cells #[.bool srp, .slice Arp nrp crp] 27)) from (Ext.al Ext.rfl' _))
 generalize ((w4).alloc (.cells #[.bool sp, .slice Ap np cp] 27)).alloc (.cells #[.bool srp, .slice Arp nrp crp] 27) = w5 at *
 have Ew5 := LH hE
 clear hE
 have Kp := LH k0
 clear k0
 have Krp := LH k1
 clear k1
 refine (rzdiv_any sb Ab nb cb _ sg Ag ng cg _ w5 (H2.out.ext (ET Ew1.out (ET Ew2.out (ET Ew3.out (ET Ew4.out Ew5.out))))) (Zg.out.ext (ET Ew3.out (ET Ew4.out Ew5.out))).is (by omega) (by omega) HGZ.out.1 HGZ.out.2.2).mono ?_
 rintro e w6 ⟨sq, Aq, nq, cq, srq, Arq, nrq, crq, rfl, hZ, hE⟩
 have Ew6 := LH hE
 clear hE
 have Zq := LH hZ
 clear hZ
 obtain ⟨xa0, xa1, -, -, za⟩ := (Ka.out.ext (ET Ew2.out (ET Ew3.out (ET Ew4.out (ET Ew5.out Ew6.out)))))
 obtain ⟨xb0, xb1, -, -, zb⟩ := (Kb.out.ext (ET Ew2.out (ET Ew3.out (ET Ew4.out (ET Ew5.out Ew6.out)))))
 obtain ⟨xg0, xg1, -, -, zg⟩ := (Kg.out.ext (ET Ew4.out (ET Ew5.out Ew6.out)))
 go_wp2_with fail
 clear xa0 xa1 za xb0 xb1 zb xg0 xg1 zg
 have k0 := Cell2.new (w6) (w6.heap.size) rfl (.bool sq) (.slice Aq nq cq) 27
 have k1 := Cell2.new ((w6).alloc (.cells #[.bool sq, .slice Aq nq cq] 27)) (w6.heap.size + 1) (by simp) (.bool srq) (.slice Arq nrq crq) 27
 have hE : Ext w6 (((w6).alloc (.cells #[.bool sq, .slice Aq nq cq] 27)).alloc (.cells #[.bool srq, .slice Arq nrq crq] 27)) := (Ext.al (Ext.al Ext.rfl' _) _)
 have k0 := k0.ext (show Ext ((w6).alloc (.cells #[.bool sq, .slice Aq nq cq] 27)) (((w6).alloc (.cells #[.bool sq, .slice Aq nq cq] 27)).alloc (.cells #[.bool srq, .slice Arq nrq crq] 27)) from (Ext.al Ext.rfl' _))
 generalize ((w6).alloc (.cells #[.bool sq, .slice Aq nq cq] 27)).alloc (.cells #[.bool srq, .slice Arq nrq crq] 27) = w7 at *
 have Ew7 := LH hE
 clear hE
 have Kq := LH k0
 clear k0
 have Krq := LH k1
 clear k1
 refine wp_region_lexS (C := InX w7.drew []) (by kernel_rfl) (by kernel_rfl) (inX_self _ _) ?_
 have hE : Ext w7 w7.drew := Ext.rfl'.drew
 generalize w7.drew = w8 at *
 have Ew8 := LH hE
 clear hE
 have fq0 := fun z : ExtX w8 [] => z.cell (p := ⟨w6.heap.size, 0, none⟩) (Kq.out.ext Ew8.out).1 (by simp)
 have fq1 := fun z : ExtX w8 [] => z.cell (p := ⟨w6.heap.size, 1, none⟩) (Kq.out.ext Ew8.out).2.1 (by simp)
 repeat (refine lexAt_still (by rfl) ?_; go_big_quiet_step (fail); refine wpQuiet_nil ?_)
 refine lexAt_move (by rfl) (by kernel_rfl) ?_
 go_wp2_with fail
 refine (rone_any w8).mono ?_
 rintro e w9 ⟨si, Ai, ni, ci, rfl, hZ, hE⟩
 have Ew9 := LH hE
 clear hE
 have Zi := LH hZ
 clear hZ
 go_wp2_with fail
 refine And.intro (inX_of_ext _ Ew9.out) ?_
 repeat (refine lexAt_still (by rfl) ?_; go_big_quiet_step (fail); refine wpQuiet_nil ?_)
 have hlq := words_bd Zq.out (k := nb) (Nat.lt_of_le_of_lt (Int.natAbs_ediv_le_natAbs _ _) HZB.out)
 have hli := words_bd Zi.out (k := 1) (by decide)
 refine lexAt_move (by rfl) (by kernel_rfl) ?_
 go_wp2_with fail
 refine (rzcmp_any sq Aq nq cq _ si Ai ni ci _ w9 (Zq.out.ext (ET Ew7.out (ET Ew8.out Ew9.out))).is Zi.out.is (by omega) (by omega)).mono ?_
 rintro e w10 ⟨rfl, hE⟩
 have Ew10 := LH hE
 clear hE
 have HC0 := LH (cmpZ_zero (z / (gg : Int)) 1)
 obtain ⟨cv, hcv⟩ : ∃ v, cmpZ (z / (gg : Int)) 1 = v := ⟨_, rfl⟩
 rw [hcv] at HC0 ⊢
 clear hcv
 go_wp2_with fail
 refine And.intro (inX_of_ext _ (ET Ew9.out Ew10.out)) ?_
 repeat (refine lexAt_still (by rfl) ?_; go_big_quiet_step (fail); refine wpQuiet_nil ?_)
 refine lexAt_nil ?_
 clear fq0 fq1
 by_cases h1 : z / (gg : Int) = 1
 ·have hb0 : (cv == 0) = true := by rw [HC0.out]; exact decide_eq_true h1
  have HD0 : Hid (denOf (Rat.divInt y z) = 0) := by unfold Hid; rw [HDE.out, if_pos h1]
  clear h1 HC0
  obtain ⟨xp0, xp1, -, -, zp⟩ := (Kp.out.ext (ET Ew6.out (ET Ew7.out (ET Ew8.out (ET Ew9.out Ew10.out)))))
  obtain ⟨xq0, xq1, -, -, zq⟩ := (Kq.out.ext (ET Ew8.out (ET Ew9.out Ew10.out)))
  obtain ⟨⟨e0, e1, e2, e3⟩, ⟨f0, f1, f2, f3⟩, el⟩ := (Kr.out.ext (ET Ew2.out (ET Ew3.out (ET Ew4.out (ET Ew5.out (ET Ew6.out (ET Ew7.out (ET Ew8.out (ET Ew9.out Ew10.out)))))))))
  go_wp2_with fail
  refine bodyPost_ret (v := .agg #[.bool sp, .slice Ap np cp, .bool false, .slice none 0 0]) (by simp [results, Tryz.results73, go_sem, e0, e1, e2, e3]) rfl ?_
  have hq : QCan w10 w3.heap.size sp Ap np cp false none 0 0 (Rat.divInt y z) := ⟨by rw [HNU.out]; exact (Zp.out.ext (ET Ew5.out (ET Ew6.out (ET Ew7.out (ET Ew8.out (ET Ew9.out Ew10.out)))))), by rw [HD0.out]; exact zcan_zero _ _⟩
  exact ⟨_, _, _, _, _, _, _, _, rfl, retQ_fill (by omega) (Nat.lt_of_lt_of_le Kr.out.2.2 (Nat.le_trans Ew2.out.size Ew3.out.size)) hq (ET Ew1.out (ET Ew2.out (ET Ew3.out (ET Ew4.out (ET Ew5.out (ET Ew6.out (ET Ew7.out (ET Ew8.out (ET Ew9.out Ew10.out))))))))) _ _ _ _⟩
 ·have hb0 : (cv == 0) = false := by rw [HC0.out]; exact decide_eq_false h1
  have HD0 : Hid (denOf (Rat.divInt y z) = z / (gg : Int)) := by unfold Hid; rw [HDE.out, if_neg h1]
  clear h1 HC0
  obtain ⟨xp0, xp1, -, -, zp⟩ := (Kp.out.ext (ET Ew6.out (ET Ew7.out (ET Ew8.out (ET Ew9.out Ew10.out)))))
  obtain ⟨xq0, xq1, -, -, zq⟩ := (Kq.out.ext (ET Ew8.out (ET Ew9.out Ew10.out)))
  obtain ⟨⟨e0, e1, e2, e3⟩, ⟨f0, f1, f2, f3⟩, el⟩ := (Kr.out.ext (ET Ew2.out (ET Ew3.out (ET Ew4.out (ET Ew5.out (ET Ew6.out (ET Ew7.out (ET Ew8.out (ET Ew9.out Ew10.out)))))))))
  go_wp2_with fail
  refine bodyPost_ret (v := .agg #[.bool sp, .slice Ap np cp, .bool sq, .slice Aq nq cq]) (by simp [results, Tryz.results73, go_sem, e0, e1, e2, e3]) rfl ?_
  have hq : QCan w10 w3.heap.size sp Ap np cp sq Aq nq cq (Rat.divInt y z) := ⟨by rw [HNU.out]; exact (Zp.out.ext (ET Ew5.out (ET Ew6.out (ET Ew7.out (ET Ew8.out (ET Ew9.out Ew10.out)))))), by rw [HD0.out]; exact (Zq.out.ext (ET Ew7.out (ET Ew8.out (ET Ew9.out Ew10.out)))).base (Nat.le_trans Ew4.out.size Ew5.out.size)⟩
  exact ⟨_, _, _, _, _, _, _, _, rfl, retQ_fill (by omega) (Nat.lt_of_lt_of_le Kr.out.2.2 (Nat.le_trans Ew2.out.size Ew3.out.size)) hq (ET Ew1.out (ET Ew2.out (ET Ew3.out (ET Ew4.out (ET Ew5.out (ET Ew6.out (ET Ew7.out (ET Ew8.out (ET Ew9.out Ew10.out))))))))) _ _ _ _⟩
end Go.Proofs.YtjinpfnefeiooaaGreat
