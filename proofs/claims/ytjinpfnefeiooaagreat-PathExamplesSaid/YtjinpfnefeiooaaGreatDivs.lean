/- A part of the proof. -/
import Derived.Test.YtjinpfnefeiooaaGreatLongs
import Derived.Test.YtjinpfnefeiooaaGreatZOps
namespace Go.Proofs.YtjinpfnefeiooaaGreat
open Go.RowKit

def RetQR (w : World) (n X Y : Nat) (e : Ending) (w' : World) : Prop := ∃ (qs rs : List Nat) (Q R : Option Addr) (nq cq nr cr : Nat), e = .returned (.tuple #[.slice Q nq cq, .slice R nr cr]) ∧ natOf qs = X / Y ∧ natOf rs = X % Y ∧ NewW w' w.heap.size Q nq cq qs ∧ NewW w' w.heap.size R nr cr rs ∧ nq ≤ n ∧ nr ≤ n ∧ Ext w w'
theorem newW_nil (w : World) (B : Nat) : NewW w B none 0 0 [] := ⟨WordsAt.nil _ _, Nat.le_refl _, by omega, fun ad h => by cases h⟩
theorem ZCan.new {w : World} {B : Nat} {b : Bool} {A : Option Addr} {n c : Nat} {z : Int} (h : ZCan w B b A n c z) : NewW w B A n c (wordsOf z.natAbs) := ⟨h.2.1, h.2.2.1, h.2.2.2.1, h.2.2.2.2⟩
set_option maxRecDepth 100000 in
set_option maxHeartbeats 800000 in
theorem divW_less (A : Option Addr) (n c X : Nat) (B : Option Addr) (m d Y : Nat) (w : World) (hx : WordsAt w A n (wordsOf X)) (hy : WordsAt w B m (wordsOf Y)) (hn : n ≤ 1073741824) (hlt : X < Y) :
  Calls Tryz.prog 127 #[.slice A n c, .slice B m d] w (RetQR w n X Y) := by
 have hc : cmpN X Y = -1 := by simp [cmpN, hlt]
 go_enter Tryz.func127, Tryz.ntmps127
 go_wp2_with fail
 refine (compare_ext A n c X B m d Y w hx hy (by simp [maxLen]; omega)).mono ?_
 rintro e w1 ⟨rfl, hE⟩
 rw [hc]
 go_wp2_with fail
 refine (clone_any A n c (wordsOf X) w1 (hx.below hE) (by omega)).mono ?_
 rintro e w2 ⟨A', c', rfl, hN, hE2⟩
 go_wp2_with fail
 go_ret2
 exact ⟨[], wordsOf X, _, _, _, _, _, _, rfl, by rw [Nat.div_eq_of_lt hlt]; rfl, by rw [natOf_wordsOf, Nat.mod_eq_of_lt hlt], newW_nil _ _, hN.base hE.size, by omega, by omega, ET hE hE2⟩
set_option maxRecDepth 100000 in
set_option maxHeartbeats 800000 in
theorem divW_two (A : Option Addr) (n c X : Nat) (B : Option Addr) (m d Y : Nat) (w : World) (hx : WordsAt w A n (wordsOf X)) (hy : WordsAt w B m (wordsOf Y)) (hn : n ≤ 2) (hY : 0 < Y) (hle : Y ≤ X) :
  Calls Tryz.prog 127 #[.slice A n c, .slice B m d] w (RetQR w n X Y) := by
 have hmn : m ≤ n := by rw [← hx.1, ← hy.1]; exact wordsOf_mono hle
 have hXb : X < 18446744073709551616 := by
  have := wordsOf_len.1 (show (wordsOf X).length ≤ 2 by rw [hx.1]; exact hn)
  exact this
 have hc : (decide (cmpN X Y < 0)) = false := by unfold cmpN; rw [if_neg (by omega)]; split <;> rfl
 have HX := LH hx
 have HY := LH hy
 clear hx hy
 obtain ⟨q, hq⟩ : ∃ q, X / Y = q := ⟨_, rfl⟩
 obtain ⟨r, hr⟩ : ∃ r, X % Y = r := ⟨_, rfl⟩
 have hqz : (X : Int) / (Y : Int) = (q : Int) := by rw [← hq]; simp
 have hrz : (X : Int) % (Y : Int) = (r : Int) := by rw [← hr]; simp
 have hq1 : q ≤ X := by rw [← hq]; exact Nat.div_le_self _ _
 have hr1 : r ≤ X := by rw [← hr]; exact Nat.mod_le _ _
 have HQR : Hid (X / Y = q ∧ X % Y = r) := ⟨hq, hr⟩
 clear hq hr
 have hb2 : decide ((n : Int) ≤ 2) = true := by simp; omega
 go_enter Tryz.func127, Tryz.ntmps127
 go_wp2_with fail
 refine (compare_ext A n c X B m d Y w HX.out HY.out (by simp [maxLen]; omega)).mono ?_
 rintro e w1 ⟨rfl, hE⟩
 generalize cmpN X Y = cm at *
 go_wp2_with fail
 refine (low_ext A n c _ w1 (HX.out.below hE) hn).mono ?_
 rintro e w2 ⟨rfl, hE2⟩
 rw [natOf_wordsOf]
 have hE12 := ET hE hE2
 go_wp2_with fail
 refine (low_ext B m d _ w2 (HY.out.below hE12) (by omega)).mono ?_
 rintro e w3 ⟨rfl, hE3⟩
 rw [natOf_wordsOf]
 have hE13 := ET hE12 hE3
 go_wp2_with fail
 refine wp_region_lex (C := InX w3.drew []) (by kernel_rfl) (by kernel_rfl) (inX_self _ _) ?_
 repeat (refine wpLex_still (by rfl) ?_; go_big_quiet_step (fail); refine wpQuiet_nil ?_)
 refine wpLex_move (by rfl) (by rfl) ?_
 go_wp2_with fail
 refine (small_any false _ q rfl w3.drew (by omega)).mono ?_
 rintro e w4 ⟨b1, A1, n1, c1, rfl, hZ1, hE4⟩
 go_wp2_with fail
 refine And.intro (inX_ext (inX_self _ _) hE4) ?_
 repeat (refine wpLex_still (by rfl) ?_; go_big_quiet_step (exact ⟨rfl, rfl⟩); refine wpQuiet_nil ?_)
 refine wpLex_move (by rfl) (by rfl) ?_
 go_wp2_with fail
 refine (small_any false _ r rfl w4 (by omega)).mono ?_
 rintro e w5 ⟨b2, A2, n2, c2, rfl, hZ2, hE5⟩
 go_wp2_with fail
 refine And.intro (inX_ext (inX_ext (inX_self _ _) hE4) hE5) ?_
 repeat (refine wpLex_still (by rfl) ?_; go_big_quiet_step (exact ⟨rfl, rfl⟩); refine wpQuiet_nil ?_)
 refine wpLex_nil ?_
 go_wp2_with fail
 go_ret2
 have hs1 : w.heap.size ≤ w3.drew.heap.size := hE13.size
 have hs2 : w.heap.size ≤ w4.heap.size := Nat.le_trans hs1 hE4.size
 have e1 : (sgn false q).natAbs = q := by simp [sgn]
 have e2 : (sgn false r).natAbs = r := by simp [sgn]
 have hl1 := hZ1.new.1.1
 have hl2 := hZ2.new.1.1
 rw [e1] at hl1
 rw [e2] at hl2
 have m1 := wordsOf_mono hq1
 have m2 := wordsOf_mono hr1
 rw [HX.out.1] at m1 m2
 refine ⟨_, _, _, _, _, _, _, _, rfl, ?_, ?_, (hZ1.new.ext hE5).base hs1, hZ2.new.base hs2, by omega, by omega, ET (ET (Below.drew hE13) hE4) hE5⟩
 ·rw [natOf_wordsOf, e1, HQR.out.1]
 ·rw [natOf_wordsOf, e2, HQR.out.2]
theorem top_pos {Y p : Nat} (h : (wordsOf Y).length = p + 1) : 0 < (wordsOf Y).getD p 0 := by
 rcases Nat.eq_zero_or_pos ((wordsOf Y).getD p 0) with h0 | h0
 ·exfalso
  have e1 : natOf (wordsOf Y) = natOf ((wordsOf Y).take p) := by
   have := natOf_take_succ (wordsOf Y) p
   rw [h0, Nat.mul_zero, List.take_of_length_le (by omega)] at this
   exact this
  have e2 : (wordsOf Y).length ≤ p := by
   refine wordsOf_len.2 ?_
   rw [← natOf_wordsOf Y, e1]
   have := natOf_lt ((words_wordsOf Y).take p)
   rwa [List.length_take, Nat.min_eq_left (by omega)] at this
  omega
 ·exact h0
set_option maxRecDepth 100000 in
set_option maxHeartbeats 800000 in
theorem divW_one (A : Option Addr) (n c X : Nat) (B : Option Addr) (d Y : Nat) (w : World) (hx : WordsAt w A n (wordsOf X)) (hy : WordsAt w B 1 (wordsOf Y)) (hn : 2 < n) (hn2 : n ≤ 1073741824) (hY : 0 < Y) (hle : Y ≤ X) :
  Calls Tryz.prog 127 #[.slice A n c, .slice B 1 d] w (RetQR w n X Y) := by
 have hYb : Y < 4294967296 := by
  have := wordsOf_len.1 (show (wordsOf Y).length ≤ 1 by rw [hy.1]; exact Nat.le_refl _)
  exact this
 have hc : (decide (cmpN X Y < 0)) = false := by unfold cmpN; rw [if_neg (by omega)]; split <;> rfl
 obtain ⟨b, off, rfl, hbl, hcell⟩ := hy.2.2 (by omega)
 have hcl := hcell 0 (by omega)
 rw [wordsOf_one (by omega) hYb] at hcl
 simp only [List.getD_cons_zero, Nat.add_zero] at hcl
 have HX := LH hx
 have HY := LH hy
 clear hx hy hcell
 obtain ⟨r, hr⟩ : ∃ r, X % Y = r := ⟨_, rfl⟩
 have hr1 : r < Y := by rw [← hr]; exact Nat.mod_lt _ hY
 have HR := LH hr
 clear hr
 have hb2 : decide ((n : Int) ≤ 2) = false := by simp; omega
 go_enter Tryz.func127, Tryz.ntmps127
 go_wp2_with fail
 refine (compare_ext A n c X _ 1 d Y w HX.out HY.out (by simp [maxLen]; omega)).mono ?_
 rintro e w1 ⟨rfl, hE⟩
 generalize cmpN X Y = cm at *
 go_wp2_with fail
 refine (clone_any A n c _ w1 (HX.out.below hE) (by omega)).mono ?_
 rintro e w2 ⟨A', c', rfl, hN, hE2⟩
 have hE12 := ET hE hE2
 have hcl2 := Ext.cellOf hE12 hcl
 obtain ⟨b', off', rfl, hB', hW⟩ := hN.ww (by omega)
 have HN := LH hN
 have HW := LH hW
 clear hcl hN hW
 go_wp2_with fail
 refine (shortDiv_any b' off' n c' _ Y w2 HW.out hn2 hY hYb).mono ?_
 rintro e w3 ⟨rfl, ⟨qs, hQ, hq⟩, hg⟩
 have hE3 : Ext w w3 := ext_grownW hE12 hg (by intro k hk; injection hk with hk; subst hk; exact Nat.le_trans hE.size hB')
 have HQ := LH hQ
 have Hq := LH hq
 clear hQ hq
 rw [natOf_wordsOf, HR.out]
 have hb3 : (r : Int) % 4294967296 = r := by omega
 go_wp2_with fail
 go_ret2
 have hs : w.heap.size ≤ w3.heap.size := hE3.size
 refine ⟨qs, [r], _, _, _, _, _, _, rfl, by rw [Hq.out, natOf_wordsOf], by rw [HR.out]; simp [natOf], (HQ.out.ext (Ext.al Ext.rfl' _)).new HN.out.2.1 HN.out.2.2.1 (Nat.le_trans hE.size hB'), ⟨words1 _ _ r rfl (by omega), Nat.le_refl _, by simp [maxLen], fresh_new _ _ _ rfl hs _ _⟩, Nat.le_refl _, by omega, Ext.al hE3 _⟩
set_option maxRecDepth 100000 in
set_option maxHeartbeats 800000 in
theorem divW_long (A : Option Addr) (n c X : Nat) (B : Option Addr) (p d Y : Nat) (w : World) (hx : WordsAt w A n (wordsOf X)) (hy : WordsAt w B (p + 2) (wordsOf Y)) (hn : 2 < n) (hn2 : n ≤ 1073741824) (hle : Y ≤ X) :
  Calls Tryz.prog 127 #[.slice A n c, .slice B (p + 2) d] w (RetQR w n X Y) := by
 have hmn : p + 2 ≤ n := by rw [← hx.1, ← hy.1]; exact wordsOf_mono hle
 have hc : (decide (cmpN X Y < 0)) = false := by unfold cmpN; rw [if_neg (by omega)]; split <;> rfl
 have ht := top_pos hy.1
 have HX := LH hx
 have HY := LH hy
 have HT := LH ht
 clear hx hy ht
 have hb2 : decide ((n : Int) ≤ 2) = false := by simp; omega
 have hb3 : (((p : Int) + 2) == 1) = false := by simp; omega
 go_enter Tryz.func127, Tryz.ntmps127
 go_wp2_with fail
 refine (compare_ext A n c X B _ d Y w HX.out HY.out (by simp [maxLen]; omega)).mono ?_
 rintro e w1 ⟨rfl, hE⟩
 generalize cmpN X Y = cm at *
 go_wp2_with fail
 refine (longDiv_any A n c _ B p d _ w1 (HX.out.below hE) (HY.out.below hE) hn2 hmn HT.out).mono ?_
 rintro e w2 ⟨qs, rs, Q, R, nq, cq, nr, cr, rfl, h1, h2, h3, h4, h5, h6, hE2⟩
 go_wp2_with fail
 go_ret2
 rw [natOf_wordsOf, natOf_wordsOf] at h1 h2
 exact ⟨qs, rs, _, _, _, _, _, _, rfl, h1, h2, h3.base hE.size, h4.base hE.size, h5, h6, ET hE hE2⟩
theorem divWords_any (A : Option Addr) (n c X : Nat) (B : Option Addr) (m d Y : Nat) (w : World) (hx : WordsAt w A n (wordsOf X)) (hy : WordsAt w B m (wordsOf Y)) (hn : n ≤ 1073741824) (hY : 0 < Y) :
  Calls Tryz.prog 127 #[.slice A n c, .slice B m d] w (RetQR w n X Y) := by
 rcases Nat.lt_or_ge X Y with h | h
 ·exact divW_less A n c X B m d Y w hx hy hn h
 rcases Nat.lt_or_ge 2 n with h2 | h2
 ·rcases m with _ | _ | p
  ·have := hy.1
   have := wordsOf_eq_nil.1 this
   omega
  ·exact divW_one A n c X B d Y w hx hy h2 hn hY h
  ·exact divW_long A n c X B p d Y w hx hy h2 hn h
 ·exact divW_two A n c X B m d Y w hx hy h2 hY h
end Go.Proofs.YtjinpfnefeiooaaGreat
namespace Go.Proofs.YtjinpfnefeiooaaGreat
open Go.RowKit

theorem box4 (w : World) (v0 v1 u0 u1 r0 r1 s0 s1 : Value) (t : TypeId) :
  Cell2 ((((w.alloc (.cells #[v0, v1] t)).alloc (.cells #[u0, u1] t)).alloc (.cells #[r0, r1] t)).alloc (.cells #[s0, s1] t)) w.heap.size v0 v1 ∧ Cell2 ((((w.alloc (.cells #[v0, v1] t)).alloc (.cells #[u0, u1] t)).alloc (.cells #[r0, r1] t)).alloc (.cells #[s0, s1] t)) (w.heap.size + 1) u0 u1 ∧
  Cell2 ((((w.alloc (.cells #[v0, v1] t)).alloc (.cells #[u0, u1] t)).alloc (.cells #[r0, r1] t)).alloc (.cells #[s0, s1] t)) (w.heap.size + 1 + 1) r0 r1 ∧ Cell2 ((((w.alloc (.cells #[v0, v1] t)).alloc (.cells #[u0, u1] t)).alloc (.cells #[r0, r1] t)).alloc (.cells #[s0, s1] t)) (w.heap.size + 1 + 1 + 1) s0 s1 ∧
  Ext w ((((w.alloc (.cells #[v0, v1] t)).alloc (.cells #[u0, u1] t)).alloc (.cells #[r0, r1] t)).alloc (.cells #[s0, s1] t)) :=
 ⟨(((Cell2.new w _ rfl v0 v1 t).ext (Ext.al Ext.rfl' _)).ext (Ext.al Ext.rfl' _)).ext (Ext.al Ext.rfl' _), ((Cell2.new _ _ (by simp) u0 u1 t).ext (Ext.al Ext.rfl' _)).ext (Ext.al Ext.rfl' _), (Cell2.new _ _ (by simp) r0 r1 t).ext (Ext.al Ext.rfl' _), Cell2.new _ _ (by simp) s0 s1 t, Ext.al (Ext.al (Ext.al (Ext.al Ext.rfl' _) _) _) _⟩
theorem sgn_div (a b : Bool) {x y : Nat} (hd : y ∣ x) (hy : 0 < y) : sgn a x / sgn b y = sgn (a != b) (x / y) := by
 obtain ⟨k, rfl⟩ := hd
 rw [Nat.mul_div_cancel_left k hy]
 have h0 : (y : Int) ≠ 0 := by omega
 unfold sgn
 have e := Int.mul_ediv_cancel_left (k : Int) h0
 have e2 := Int.mul_ediv_cancel_left (-(k : Int)) h0
 rw [Int.mul_neg] at e2
 cases a <;> cases b <;> simp <;> first | exact e | (rw [e2]; exact Int.neg_neg _) | (rw [e]) | (rw [e2])
set_option maxRecDepth 100000 in
set_option maxHeartbeats 2000000 in
theorem divExact_any (a : Bool) (A : Option Addr) (n c : Nat) (za : Int) (b : Bool) (B : Option Addr) (m d : Nat) (zb : Int) (w : World) (ha : ZIs w a A n c za) (hb : ZIs w b B m d zb) (hn : n ≤ 1073741824) (h0 : zb ≠ 0) (hd : zb ∣ za) :
  Calls Tryz.prog 98 #[.agg #[.bool a, .slice A n c], .agg #[.bool b, .slice B m d]] w fun e w' => ∃ b1 A1 n1 c1 v, e = .returned (.tuple #[.agg #[.bool b1, .slice A1 n1 c1], v, .int .i64 0]) ∧ ZCan w' w.heap.size b1 A1 n1 c1 (za / zb) ∧ Ext w w' := by
 go_enter Tryz.func98, Tryz.ntmps98
 go_wp2_with fail
 obtain ⟨k0, k1, k2, k3, hE⟩ := box4 w (.bool a) (.slice A n c) (.bool b) (.slice B m d) (.bool false) (.slice none 0 0) (.bool false) (.slice none 0 0) 27
 generalize (((w.alloc (.cells #[.bool a, .slice A n c] 27)).alloc (.cells #[.bool b, .slice B m d] 27)).alloc (.cells #[.bool false, .slice none 0 0] 27)).alloc (.cells #[.bool false, .slice none 0 0] 27) = w2 at *
 have L2 := LH k2
 have L3 := LH k3
 have HE2 := LH hE
 have hrz : w.heap.size + 1 + 1 + 1 < w2.heap.size := k3.2.2.2.2
 obtain ⟨xs, hx1, hx2, hx3, hzx⟩ := ha.ext hE
 obtain ⟨ys, hy1, hy2, hy3, hzy⟩ := hb.ext hE
 have HX := LH hx1
 have HY := LH hy1
 have hy0 : 0 < natOf ys := by
  rcases Nat.eq_zero_or_pos (natOf ys) with h | h
  ·rw [h, sgn_zero] at hzy; exact absurd hzy h0
  ·exact h
 have hdv : natOf ys ∣ natOf xs := by
  have h := Int.natAbs_dvd_natAbs.2 hd
  rwa [hzx, hzy, sgn_abs, sgn_abs] at h
 have HPRO : Hid (sgn (a != b) (natOf xs / natOf ys) = za / zb) := by unfold Hid; rw [hzx, hzy, sgn_div a b hdv hy0]
 have HD : Hid (natOf xs % natOf ys = 0) := Nat.mod_eq_zero_of_dvd hdv
 have L0 := LH k0
 have L1 := LH k1
 clear hzx hzy hx1 hy1 ha hb k2 hE k0 k1 k3 hd hdv h0
 have hlx := words_len_ge HX.out.2.1
 rw [HX.out.1] at hlx
 have x0 := fun y : ExtX w2.drew [] => y.cell (p := ⟨w.heap.size, 1, none⟩) L0.out.2.1 (by simp)
 have x1 := fun y : ExtX w2.drew [] => y.cell (p := ⟨w.heap.size + 1, 1, none⟩) L1.out.2.1 (by simp)
 refine wp_region_lex (C := InX w2.drew []) (by kernel_rfl) (by kernel_rfl) (inX_self _ _) ?_
 repeat (refine wpLex_still (by rfl) ?_; go_big_quiet_step (fail); refine wpQuiet_nil ?_)
 refine wpLex_move (by rfl) (by rfl) ?_
 go_wp2_with fail
 refine (trim_any A n c xs w2.drew (HX.out.below Ext.rfl'.drew) hx2 hx3).mono ?_
 rintro e w3 ⟨rfl, rfl⟩
 go_wp2_with fail
 refine And.intro (inX_self _ _) ?_
 repeat (refine wpLex_still (by rfl) ?_; go_big_quiet_step (fail); refine wpQuiet_nil ?_)
 refine wpLex_move (by rfl) (by rfl) ?_
 go_wp2_with fail
 refine (trim_any B m d ys w2.drew (HY.out.below Ext.rfl'.drew) hy2 hy3).mono ?_
 rintro e w3 ⟨rfl, rfl⟩
 go_wp2_with fail
 refine And.intro (inX_self _ _) ?_
 repeat (refine wpLex_still (by rfl) ?_; go_big_quiet_step (fail); refine wpQuiet_nil ?_)
 refine wpLex_nil ?_
 clear x0 x1
 have HTX := LH (HX.out.below (Ext.rfl' (w := w2)).drew).trim
 have HTY := LH (HY.out.below (Ext.rfl' (w := w2)).drew).trim
 have M0 := LH (L0.out.ext (Ext.rfl' (w := w2)).drew)
 have M1 := LH (L1.out.ext (Ext.rfl' (w := w2)).drew)
 have M2 := LH (L2.out.ext (Ext.rfl' (w := w2)).drew)
 have M3 := LH (L3.out.ext (Ext.rfl' (w := w2)).drew)
 have HE3 : Hid (Ext w w2.drew) := HE2.out.drew
 have hrz3 : w.heap.size + 1 + 1 + 1 < w2.drew.heap.size := hrz
 clear hrz
 generalize w2.drew = w3 at *
 clear HX HY L0 L1 L2 L3 HE2
 generalize natOf xs = x at *
 generalize natOf ys = y at *
 have hk0 : (wordsOf y).length ≠ 0 := fun e => by have := wordsOf_eq_nil.1 e; omega
 generalize hk1 : (wordsOf x).length = k1 at *
 generalize hk2 : (wordsOf y).length = k2 at *
 clear hk1 hk2
 have hb1 : ((k2 : Int) == 0) = false := by simp; omega
 go_wp2_with fail
 refine (divWords_any A k1 c x B k2 d y w3 HTX.out HTY.out (by omega) hy0).mono ?_
 rintro e w4 ⟨qs, rs, Q, R, nq, cq, nr, cr, rfl, h1, h2, h3, h4, h5, h6, hE4⟩
 rw [HD.out] at h2
 have H1 := LH h1
 have H2 := LH h2
 have H3 := LH h3
 have H4 := LH h4
 clear h1 h2 h3 h4
 go_wp2_with fail
 refine (trim_any R nr cr rs w4 H4.out.1 H4.out.2.1 H4.out.2.2.1).mono ?_
 rintro e w5 ⟨rfl, rfl⟩
 rw [H2.out, wordsOf_zero]
 obtain ⟨a0, a1, _, _, _⟩ := M0.out.ext hE4
 obtain ⟨b0, b1, _, _, _⟩ := M1.out.ext hE4
 have hn0 : ([] : List Nat).length = 0 := rfl
 cases a <;> cases b
 all_goals
  go_wp2_with fail
  refine (build_any _ Q nq cq qs w4 w3.heap.size H3.out.1 H3.out.2.1 H3.out.2.2.1 H3.out.2.2.2).mono ?_
  rintro e w5 ⟨b1, A1, n1, c1, rfl, hz1, hE5⟩
  have HZ1 : Hid (ZCan w5 w3.heap.size b1 A1 n1 c1 (za / zb)) := by
   rw [H1.out] at hz1
   rw [← HPRO.out]
   exact hz1
  clear hz1
  go_wp2_with fail
  refine (build_any false R 0 cr [] w5 w3.heap.size (WordsAt.nil _ _) (by omega) H4.out.2.2.1 (H4.out.2.2.2.ext hE5)).mono ?_
  rintro e w6 ⟨b2, A2, n2, c2, rfl, hz2, hE6⟩
  have hE46 := ET hE4 (ET hE5 hE6)
  have HZ := LH (HZ1.out.ext hE6)
  have HE := LH (ET HE3.out hE46)
  obtain ⟨e0, e1, f0, f1, hrl⟩ := M2.out.ext hE46
  obtain ⟨g0, g1, i0, i1, hrl3⟩ := M3.out.ext hE46
  clear hz2 HZ1 hE4 hE5 hE6 hE46 H1 H2 H3 H4
  go_wp2_with fail
  refine bodyPost_ret (v := .tuple #[.agg #[.bool b1, .slice A1 n1 c1], .agg #[.bool b2, .slice A2 n2 c2], .int .i64 0]) (by simp [results, Tryz.results98, go_sem, e0, e1, g0, g1]) rfl ?_
  refine ⟨_, _, _, _, _, rfl, ((((HZ.out.put ?_ _).put ?_ _).put ?_ _).put ?_ _).base ?_, Below.setCell (Below.setCell (Below.setCell (Below.setCell HE.out ?_ _) ?_ _) ?_ _) ?_ _⟩
  all_goals first | omega | (simp; done) | (simp; omega)
end Go.Proofs.YtjinpfnefeiooaaGreat
namespace Go.Proofs.YtjinpfnefeiooaaGreat
open Go.RowKit

theorem words_inj {w : World} {A : Option Addr} {n X Y : Nat} (hx : WordsAt w A n (wordsOf X)) (hy : WordsAt w A n (wordsOf Y)) : X = Y := by
 have e : wordsOf X = wordsOf Y := by
  refine List.ext_getElem (by rw [hx.1, hy.1]) fun i h1 h2 => ?_
  have hn : 0 < n := by rw [hx.1] at h1; omega
  obtain ⟨b, off, hA, hl, hc⟩ := hx.2.2 hn
  obtain ⟨b', off', hA', hl', hc'⟩ := hy.2.2 hn
  rw [hA] at hA'
  injection hA' with hA'
  injection hA' with e1 e2
  subst e1 e2
  have := (hc i (by rw [hx.1] at h1; exact h1)).symm.trans (hc' i (by rw [hx.1] at h1; exact h1))
  injection this with this
  injection this with _ this
  simp only [List.getD, List.getElem?_eq_getElem h1, List.getElem?_eq_getElem h2, Option.getD_some] at this
  omega
 rw [← natOf_wordsOf X, e, natOf_wordsOf]
theorem gcd_step (X Y : Nat) : Nat.gcd Y (X % Y) = Nat.gcd X Y := by rw [Nat.gcd_comm Y (X % Y), ← Nat.gcd_rec, Nat.gcd_comm]
open Classical in
noncomputable def valOf (w : World) (v : Value) : Nat := if h : ∃ (Y : Nat) (A : Option Addr) (n c : Nat), v = .slice A n c ∧ WordsAt w A n (wordsOf Y) then h.choose else 0
theorem valOf_eq {w : World} {A : Option Addr} {n Y : Nat} (h : WordsAt w A n (wordsOf Y)) (c : Nat) : valOf w (.slice A n c) = Y := by
 have he : ∃ (Y : Nat) (A' : Option Addr) (n' c' : Nat), Value.slice A n c = .slice A' n' c' ∧ WordsAt w A' n' (wordsOf Y) := ⟨Y, A, n, c, rfl, h⟩
 unfold valOf
 rw [dif_pos he]
 obtain ⟨A', n', c', e, h'⟩ := he.choose_spec
 injection e with e1 e2 e3
 subst e1 e2
 exact words_inj h' h
set_option maxRecDepth 100000 in
set_option maxHeartbeats 4000000 in
theorem gcd_any (a : Bool) (A : Option Addr) (n c : Nat) (za : Int) (b : Bool) (B : Option Addr) (m d : Nat) (zb : Int) (w : World) (ha : ZIs w a A n c za) (hb : ZIs w b B m d zb) (hn : n ≤ 1073741824) (hm : m ≤ 1073741824) :
  Calls Tryz.prog 97 #[.agg #[.bool a, .slice A n c], .agg #[.bool b, .slice B m d]] w (RetZ w (Int.gcd za zb : Nat)) := by
 go_enter Tryz.func97, Tryz.ntmps97
 go_wp2_with fail
 obtain ⟨k0, k1, k2, hE⟩ := box3 w (.bool a) (.slice A n c) (.bool b) (.slice B m d) (.bool false) (.slice none 0 0) 27
 generalize ((w.alloc (.cells #[.bool a, .slice A n c] 27)).alloc (.cells #[.bool b, .slice B m d] 27)).alloc (.cells #[.bool false, .slice none 0 0] 27) = w2 at *
 have L2 := LH k2
 have HE2 := LH hE
 have hrz : w.heap.size + 1 + 1 < w2.heap.size := k2.2.2.2.2
 obtain ⟨xs, hx1, hx2, hx3, hzx⟩ := ha.ext hE
 obtain ⟨ys, hy1, hy2, hy3, hzy⟩ := hb.ext hE
 have HX := LH hx1
 have HY := LH hy1
 have HG : Hid (Int.gcd za zb = Nat.gcd (natOf xs) (natOf ys)) := by unfold Hid Int.gcd; rw [hzx, hzy, sgn_abs, sgn_abs]
 have L0 := LH k0
 have L1 := LH k1
 clear hzx hzy hx1 hy1 ha hb k2 hE k0 k1
 have hlx := words_len_ge HX.out.2.1
 rw [HX.out.1] at hlx
 have hly := words_len_ge HY.out.2.1
 rw [HY.out.1] at hly
 have x0 := fun y : ExtX w2.drew [] => y.cell (p := ⟨w.heap.size, 1, none⟩) L0.out.2.1 (by simp)
 have x1 := fun y : ExtX w2.drew [] => y.cell (p := ⟨w.heap.size + 1, 1, none⟩) L1.out.2.1 (by simp)
 refine wp_region_lex (C := InX w2.drew []) (by kernel_rfl) (by kernel_rfl) (inX_self _ _) ?_
 repeat (refine wpLex_still (by rfl) ?_; go_big_quiet_step (fail); refine wpQuiet_nil ?_)
 refine wpLex_move (by rfl) (by rfl) ?_
 go_wp2_with fail
 refine (trim_any A n c xs w2.drew (HX.out.below Ext.rfl'.drew) hx2 hx3).mono ?_
 rintro e w3 ⟨rfl, rfl⟩
 go_wp2_with fail
 refine And.intro (inX_self _ _) ?_
 repeat (refine wpLex_still (by rfl) ?_; go_big_quiet_step (fail); refine wpQuiet_nil ?_)
 refine wpLex_move (by rfl) (by rfl) ?_
 go_wp2_with fail
 refine (trim_any B m d ys w2.drew (HY.out.below Ext.rfl'.drew) hy2 hy3).mono ?_
 rintro e w3 ⟨rfl, rfl⟩
 go_wp2_with fail
 refine And.intro (inX_self _ _) ?_
 repeat (refine wpLex_still (by rfl) ?_; go_big_quiet_step (fail); refine wpQuiet_nil ?_)
 refine wpLex_nil ?_
 clear x0 x1
 have HTX := LH (HX.out.below (Ext.rfl' (w := w2)).drew).trim
 have HTY := LH (HY.out.below (Ext.rfl' (w := w2)).drew).trim
 have M2 := LH (L2.out.ext (Ext.rfl' (w := w2)).drew)
 have HE3 : Hid (Ext w w2.drew) := HE2.out.drew
 have hrz3 : w.heap.size + 1 + 1 < w2.drew.heap.size := hrz
 clear hrz
 generalize w2.drew = w3 at *
 clear HX HY L0 L1 L2 HE2
 generalize natOf xs = x at *
 generalize natOf ys = y at *
 generalize (wordsOf x).length = k1 at *
 generalize (wordsOf y).length = k2 at *
 obtain ⟨g, hg⟩ : ∃ g, Nat.gcd x y = g := ⟨_, rfl⟩
 rw [hg] at HG
 have HGG := LH hg
 clear hg
 go_wp2_with fail
 go_loopw [5, 6, 7, 8] (fun vx vy _ _ wr => ∃ (A' : Option Addr) (kx cx X : Nat) (B' : Option Addr) (ky cy Y : Nat), vx = .slice A' kx cx ∧ vy = .slice B' ky cy ∧ kx ≤ 1073741824 ∧ ky ≤ 1073741824 ∧ Hid (WordsAt wr A' kx (wordsOf X) ∧ WordsAt wr B' ky (wordsOf Y) ∧ Nat.gcd X Y = g ∧ Ext w3 wr)) (fun _ vy _ _ wr => valOf wr vy)
 case atStart => exact ⟨_, _, _, x, _, _, _, y, rfl, rfl, by omega, by omega, HTX.out, HTY.out, HGG.out, Ext.rfl'⟩
 case round =>
  obtain ⟨A', kx, cx, X, B', ky, cy, Y, rfl, rfl, hkx, hky, HI⟩ := hrel
  by_cases h0 : ky = 0
  ·subst h0
   have HX0 : Hid (X = g) := by
    have h1 := wordsOf_eq_nil.1 HI.out.2.1.1
    have h2 := HI.out.2.2.1
    rw [h1, Nat.gcd_zero_right] at h2
    exact h2
   go_wp2_with fail
   refine (clone_any A' kx cx _ wr HI.out.1 (by omega)).mono ?_
   rintro e w4 ⟨A4, c4, rfl, hN, hE4⟩
   have HN := LH hN
   clear hN
   go_wp2_with fail
   refine (build_any false _ _ _ _ w4 wr.heap.size HN.out.1 HN.out.2.1 HN.out.2.2.1 HN.out.2.2.2).mono ?_
   rintro e w5 ⟨b', A5, n5, c5, rfl, hz, hE5⟩
   rw [natOf_wordsOf, HX0.out] at hz
   have HZ := LH hz
   have HE := LH (ET HI.out.2.2.2 (ET hE4 hE5))
   have hsz : w3.heap.size ≤ wr.heap.size := HI.out.2.2.2.size
   obtain ⟨e0, e1, f0, f1, hrl⟩ := M2.out.ext HE.out
   clear hz hE4 hE5
   go_wp2_with fail
   refine bodyPost_ret (v := .agg #[.bool b', .slice A5 n5 c5]) (by simp [results, Tryz.results97, go_sem, e0, e1]) rfl ?_
   rw [HG.out]
   exact ⟨_, _, _, _, rfl, retZ_fill (by omega) (by omega) HZ.out (ET HE3.out HE.out) _ _⟩
  ·have hb0 : decide ((0 : Int) < (ky : Int)) = true := by simp; omega
   have hb1 : ((ky : Int) == 0) = false := by simp; omega
   by_cases hs : kx ≤ 2 ∧ ky ≤ 2
   ·obtain ⟨hs1, hs2⟩ := hs
    have hb2 : decide ((2 : Int) < (kx : Int)) = false := by simp; omega
    have hb3 : decide ((2 : Int) < (ky : Int)) = false := by simp; omega
    have hXb : X < 18446744073709551616 := wordsOf_len.1 (show (wordsOf X).length ≤ 2 by rw [HI.out.1.1]; exact hs1)
    have hYb : Y < 18446744073709551616 := wordsOf_len.1 (show (wordsOf Y).length ≤ 2 by rw [HI.out.2.1.1]; exact hs2)
    go_wp2_with fail
    refine (low_ext A' kx cx _ wr HI.out.1 hs1).mono ?_
    rintro e w4 ⟨rfl, hE4⟩
    rw [natOf_wordsOf]
    go_wp2_with fail
    refine (low_ext B' ky cy _ w4 (HI.out.2.1.below hE4) hs2).mono ?_
    rintro e w5 ⟨rfl, hE5⟩
    rw [natOf_wordsOf]
    have HE5 := LH (ET HI.out.2.2.2 (ET hE4 hE5))
    have HGX := LH HI.out.2.2.1
    clear hE4 hE5 HI
    go_wp2_with fail
    go_loopw [9, 10] (fun p q wq => ∃ (P Q : Nat), p = .int .u64 P ∧ q = .int .u64 Q ∧ P < 18446744073709551616 ∧ Q < 18446744073709551616 ∧ Hid (Nat.gcd P Q = g ∧ Ext w3 wq)) (fun _ q _ => (intOf q).toNat)
    case atStart => exact ⟨X, Y, rfl, rfl, hXb, hYb, HGX.out, HE5.out⟩
    case round =>
     obtain ⟨P, Q, rfl, rfl, hP, hQ, HI⟩ := hrel
     by_cases hq0 : Q = 0
     ·subst hq0
      have HP : Hid (sgn false P = (g : Int)) := by
       have h2 := HI.out.1
       rw [Nat.gcd_zero_right] at h2
       unfold Hid sgn
       rw [h2]
       rfl
      go_wp2_with fail
      refine (small_any false _ P rfl wr hP).mono ?_
      rintro e w6 ⟨b', A6, n6, c6, rfl, hz, hE6⟩
      rw [HP.out] at hz
      have hsz : w3.heap.size ≤ wr.heap.size := HI.out.2.size
      have HZ := LH hz
      have HE := LH (ET HI.out.2 hE6)
      obtain ⟨e0, e1, f0, f1, hrl⟩ := M2.out.ext HE.out
      clear hz hE6
      go_wp2_with fail
      refine bodyPost_ret (v := .agg #[.bool b', .slice A6 n6 c6]) (by simp [results, Tryz.results97, go_sem, e0, e1]) rfl ?_
      rw [HG.out]
      exact ⟨_, _, _, _, rfl, retZ_fill (by omega) (by omega) HZ.out (ET HE3.out HE.out) _ _⟩
     ·have hb4 : decide ((0 : Int) < (Q : Int)) = true := by simp; omega
      obtain ⟨r, hr⟩ : ∃ r, P % Q = r := ⟨_, rfl⟩
      have hrz : (P : Int) % (Q : Int) = (r : Int) := by rw [← hr]; simp
      have hr1 : r < Q := by rw [← hr]; exact Nat.mod_lt _ (by omega)
      have HR : Hid (Nat.gcd Q r = g) := by
       unfold Hid
       rw [← hr, gcd_step, HI.out.1]
      have HEX := LH HI.out.2
      clear hr HI
      go_wp2_with fail
      go_quiet (fail)
      go_wp2_with fail
      go_roundw
      case rel => exact ⟨Q, r, rfl, by go_num, hQ, by omega, HR.out, below_drewN HEX.out _⟩
      case measure => simp [intOf]; omega
   ·have hY0 : 0 < Y := by
     rcases Nat.eq_zero_or_pos Y with h | h
     ·have := HI.out.2.1.1
      rw [h, wordsOf_zero] at this
      exact absurd this.symm h0
     ·exact h
    have hg : decide ((2 : Int) < (kx : Int)) = true ∨ (decide ((2 : Int) < (kx : Int)) = false ∧ decide ((2 : Int) < (ky : Int)) = true) := by
     by_cases h1 : 2 < kx
     ·exact .inl (by simp; omega)
     ·exact .inr ⟨by simp; omega, by simp; omega⟩
    clear hs
    have hv := valOf_eq HI.out.2.1 cy
    rcases hg with hg | ⟨hg, hg2⟩
    all_goals
     go_wp2_with fail
     refine (divWords_any A' kx cx X B' ky cy Y wr HI.out.1 HI.out.2.1 hkx hY0).mono ?_
     rintro e w4 ⟨qs, rs, Q, R, nq, cq, nr, cr, rfl, h1, h2, h3, h4, h5, h6, hE4⟩
     have H2 := LH h2
     have H4 := LH h4
     clear h1 h2 h3 h4
     go_wp2_with fail
     refine (trim_any R nr cr rs w4 H4.out.1 H4.out.2.1 H4.out.2.2.1).mono ?_
     rintro e w5 ⟨rfl, rfl⟩
     have hl := words_len_ge H4.out.1.2.1
     rw [H4.out.1.1] at hl
     have HT := LH H4.out.1.trim
     rw [H2.out] at hl HT ⊢
     have HK : Hid (Nat.gcd Y (X % Y) = g) := by
      unfold Hid
      rw [gcd_step, HI.out.2.2.1]
     have HM : Hid (valOf w4 (.slice R (wordsOf (X % Y)).length cr) < valOf wr (.slice B' ky cy)) := by
      unfold Hid
      rw [hv, valOf_eq HT.out]
      exact Nat.mod_lt _ hY0
     have HEX := LH (ET HI.out.2.2.2 hE4)
     have HBY := LH (HI.out.2.1.below hE4)
     clear HI H2 H4 hE4
     generalize (wordsOf (X % Y)).length = kk at *
     go_wp2_with fail
     go_roundw
     case rel => exact ⟨_, _, _, Y, _, _, _, X % Y, rfl, rfl, hky, by omega, HBY.out, HT.out, HK.out, HEX.out⟩
     case measure => exact HM.out
end Go.Proofs.YtjinpfnefeiooaaGreat
