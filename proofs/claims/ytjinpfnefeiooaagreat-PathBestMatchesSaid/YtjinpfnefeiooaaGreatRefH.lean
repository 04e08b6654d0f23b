/- A part of the proof. -/
import Derived.Test.YtjinpfnefeiooaaGreatRefG
import Derived.Test.YtjinpfnefeiooaaGreatMulW
namespace Go.Proofs.YtjinpfnefeiooaaGreat
open Go.RowKit

def RetHH (w : World) (q r : Nat) (e : Ending) (w' : World) : Prop := ∃ A c B d, e = .returned (.tuple #[.slice A (halfOf q).length c, .slice B (halfOf r).length d]) ∧ HalfAt w' A (halfOf q).length (halfOf q) ∧ (halfOf q).length ≤ c ∧ c ≤ maxLen ∧ HalfAt w' B (halfOf r).length (halfOf r) ∧ (halfOf r).length ≤ d ∧ d ≤ maxLen ∧ Ext w w'
theorem make_fullI (k : Nat) (hk : k ≤ 1000000) (z : Int) (hz : z = k) (w : World) : (Instr.makeSlice 120 (.int .i64 z) (.int .i64 z)).run Tryz.prog w = .ok (.slice (some ⟨w.heap.size, 0, none⟩) k k) (w.alloc (.cells (madeCells #[.int .i64 0] k) 3)) := by
 subst hz
 obtain ⟨i0, hi, hz0, hz1, hz2⟩ := info_parts info_int
 have hr := run_make (P := Tryz.prog) w 120 3 i0 _ Tryz.underlying120 hi hz0 .i64 .i64 k k (by omega) (by omega) (by rw [hz2]; omega) (by omega)
 simp only [Int.toNat_natCast, hz1, Nat.mul_one] at hr
 exact hr
abbrev OwnH (w : World) (B g n c : Nat) (xs : List Nat) : Prop := w.ownsRow B 3 1 (.slice (some ⟨g, 0, none⟩) n c) n (i64s xs)
theorem own_madeI (w : World) (B k : Nat) (hB : B ≤ w.heap.size) (hk : k ≤ 1000000) : OwnH (w.alloc (.cells (madeCells #[.int .i64 0] k) 3)) B w.heap.size k k (List.replicate k 0) := by
 have h := World.ownsRow_lit (base := B) (e := 3) (size := 1) w (madeCells #[.int .i64 0] k) k hB (by simp [maxLen]; omega) (by simp [size_madeCells])
 rw [toList_madeCells_one] at h
 show World.ownsRow _ _ _ _ _ _ (i64s _)
 have e : i64s (List.replicate k 0) = List.replicate k (.int .i64 0) := by simp [i64s]
 rw [e]
 exact h
theorem OwnH.len {w : World} {B g n c : Nat} {xs : List Nat} (h : OwnH w B g n c xs) : xs.length = n := by have := h.1; simpa [i64s] using this
theorem OwnH.cell {w : World} {B g n c : Nat} {xs : List Nat} (h : OwnH w B g n c xs) {j : Nat} (hj : j < n) : w.cell? ⟨g, j, none⟩ = some (.int .i64 (xs.getD j 0 : Nat)) := by
 rw [h.cellAt j (by omega)]
 have := h.len
 simp [i64s, List.getD, show j < xs.length by omega]
theorem OwnH.frozen {w : World} {B g n c : Nat} {xs : List Nat} (h : OwnH w B g n c xs) (j : Nat) : w.frozen? ⟨g, j, none⟩ = false := h.frozenAt j
theorem OwnH.put {w : World} {B g n c : Nat} {xs : List Nat} (h : OwnH w B g n c xs) (j v : Nat) : OwnH (w.setCell ⟨g, j, none⟩ (.int .i64 (v : Int))) B g n c (xs.set j v) := by
 have := (h.stored j (.int .i64 (v : Int))).1
 show World.ownsRow _ _ _ _ _ _ (List.map _ (xs.set j v))
 rw [List.map_set]
 exact this
theorem OwnH.ext {w w' : World} {B g n c : Nat} {xs : List Nat} (h : OwnH w B g n c xs) (hb : Ext w w') : OwnH w' B g n c xs := own_keep h fun k hk => hb.block k (own_lt h hk).1
theorem OwnH.lt {w : World} {B g n c : Nat} {xs : List Nat} (h : OwnH w B g n c xs) : g < w.heap.size ∧ B ≤ g := own_lt h rfl
theorem div_step {xs qs : List Nat} {k Y R d r : Nat} (hk : k < qs.length) (h : hOf (xs.drop (k + 1)) = Y * hOf (qs.drop (k + 1)) + R) (hr : xs.getD k 0 + 65536 * R = Y * d + r) :
  hOf (xs.drop k) = Y * hOf ((qs.set k d).drop k) + r := by
 rw [hOf_dropP xs k, hOf_dropP (qs.set k d) k, List.drop_set_of_lt (by omega), h]
 have e : (qs.set k d).getD k 0 = d := by simp [List.getD, hk]
 rw [e, Nat.mul_add, Nat.mul_add]
 have : Y * (65536 * hOf (qs.drop (k + 1))) = 65536 * (Y * hOf (qs.drop (k + 1))) := by rw [Nat.mul_left_comm]
 omega
theorem div_end {X Y Q R : Nat} (h : X = Y * Q + R) (hR : R < Y) : X / Y = Q ∧ X % Y = R := by
 subst h
 exact ⟨by rw [Nat.mul_add_div (by omega), Nat.div_eq_of_lt hR, Nat.add_zero], by rw [Nat.mul_add_mod, Nat.mod_eq_of_lt hR]⟩
theorem half1 (w : World) (x : Nat) (hx : x < 65536) : HalfAt (w.alloc (.cells #[.int .i64 (x : Int)] 3)) (some ⟨w.heap.size, 0, none⟩) 1 [x] := by
 obtain ⟨A, c, e, -, -, h⟩ := own_half (lit_int w 0 (Nat.zero_le _) x) (Halves.cons hx Halves.nil)
 injection e with e
 rw [e]
 exact h
theorem OwnH.half {w : World} {B g n c : Nat} {xs : List Nat} (h : OwnH w B g n c xs) (hx : Halves xs) : HalfAt w (some ⟨g, 0, none⟩) n xs ∧ n ≤ c ∧ c ≤ maxLen := by
 obtain ⟨A, c', e, h1, h2, h3⟩ := own_half h hx
 injection e with e1 e2 e3
 subst e1 e3
 exact ⟨h3, h1, h2⟩
set_option maxRecDepth 100000 in
set_option maxHeartbeats 8000000 in
theorem rdiv_one (A : Option Addr) (n c : Nat) (xs : List Nat) (B : Option Addr) (d y : Nat) (w : World) (ha : HalfAt w A n xs) (hb : HalfAt w B 1 [y]) (hn : n ≤ 400000) (hn3 : 3 < n) (h0 : 0 < y) :
  Calls Tryz.prog 132 #[.slice A n c, .slice B 1 d] w (RetHH w (hOf xs / y) (hOf xs % y)) := by
 have HA := LH ha
 have hy : y < 65536 := hb.2.1 y (by simp)
 obtain ⟨bB, oB, rfl, -, hcB⟩ := hb.2.2 (by omega)
 have HB := LH (hcB 0 (by omega))
 obtain ⟨bA, oA, rfl, -, hcA⟩ := ha.2.2 (by omega)
 have HCA := LH hcA
 clear ha hb hcB hcA
 have hb1 : decide ((n : Int) ≤ 3) = false := by simp; omega
 have hmk := make_fullI n (by omega) (n : Int) rfl
 have HO0 := LH (own_madeI w w.heap.size n (Nat.le_refl _) (by omega))
 go_enter Tryz.func132, Tryz.ntmps132
 go_wp2_with fail
 go_loopw [7, 8] (fun r i wr => ∃ (k rr : Nat) (qs : List Nat), k ≤ n ∧ i = .int .i64 ((k : Int) - 1) ∧ r = .int .i64 rr ∧ rr < y ∧ Hid (OwnH wr w.heap.size w.heap.size n n qs ∧ Halves qs) ∧ Hid (hOf (xs.drop k) = y * hOf (qs.drop k) + rr) ∧ Hid (Ext w wr)) (fun _ i _ => (intOf i + 1).toNat)
 case atStart => exact ⟨n, 0, _, Nat.le_refl _, rfl, rfl, h0, ⟨HO0.out, Halves.replicate _⟩, by unfold Hid; rw [drop_end (by rw [HA.out.1]; exact Nat.le_refl _), drop_end (by simp), Nat.mul_zero], Ext.al Ext.rfl' _⟩
 case round =>
  obtain ⟨k, rr, qs, hk, rfl, rfl, hrr, HO, HV, HE⟩ := hrel
  cases k with
  | zero =>
   have hb : decide ((0 : Int) ≤ ((0 : Nat) : Int) - 1) = false := by simp
   have HR : Hid (hOf xs / y = hOf qs ∧ hOf xs % y = rr) := div_end (by simpa using HV.out) hrr
   have HH := LH (HO.out.1.half HO.out.2)
   clear HV HO HO0
   go_wp2_with fail
   refine (rtrim_any _ n n qs wr HH.out.1 HH.out.2.1 HH.out.2.2).mono ?_
   rintro e w1 ⟨rfl, rfl⟩
   have HT := LH HH.out.1.trim
   have hl := half_len_ge HH.out.1.2.1
   rw [HH.out.1.1] at hl
   have H1 := LH (half1 wr rr (by omega))
   go_wp2_with fail
   refine (rtrim_any _ 1 1 [rr] _ H1.out (by omega) (by simp [maxLen])).mono ?_
   rintro e w1 ⟨rfl, rfl⟩
   have HT1 := LH H1.out.trim
   have hl1 := half_len_ge H1.out.2.1
   have hE1 : Ext wr (wr.alloc (.cells #[.int .i64 (rr : Int)] 3)) := Ext.al Ext.rfl' _
   have HT2 := LH (HT.out.below hE1)
   have HE2 := LH (ET HE.out hE1)
   rw [show hOf [rr] = rr by simp [hOf]] at HT1 hl1 ⊢
   clear hE1
   go_wp2_with fail
   go_ret2
   refine (?_ : RetHH w (hOf xs / y) (hOf xs % y) _ _)
   rw [HR.out.1, HR.out.2]
   exact ⟨_, _, _, _, rfl, HT2.out, hl, HH.out.2.2, HT1.out, hl1, by simp [maxLen], HE2.out⟩
  | succ k =>
   rw [show (((k + 1 : Nat)) : Int) - 1 = (k : Int) by omega]
   have hb0 : decide ((0 : Int) ≤ (k : Int)) = true := by simp
   have h01 : (0 : Int) ≤ (k : Int) := by omega
   have h02 : (k : Int) < (n : Int) := by omega
   have cA := Ext.cellOf HE.out (HCA.out k (by omega))
   have cB := Ext.cellOf HE.out HB.out
   rw [show ([y] : List Nat).getD 0 0 = y from rfl, Nat.add_zero] at cB
   have hx := getD_lt HA.out.2.1 k
   have HST := LH (fun d r => div_step (xs := xs) (qs := qs) (k := k) (d := d) (r := r) (by rw [HO.out.1.len]; omega) HV.out)
   generalize xs.getD k 0 = x at *
   obtain ⟨X, hX⟩ : ∃ X, x + 65536 * rr = X := ⟨_, rfl⟩
   have hXi : (rr : Int) * 65536 + (x : Int) = (X : Int) := by omega
   have hXd : X < y * 65536 := by
    have : (rr + 1) * 65536 ≤ y * 65536 := Nat.mul_le_mul_right _ hrr
    omega
   have hXl : X < 4294967296 := by omega
   have hq : X / y < 65536 := Nat.div_lt_of_lt_mul hXd
   have hr : X % y < y := Nat.mod_lt _ h0
   have HS2 := LH (HST.out (X / y) (X % y) (by rw [hX]; exact (Nat.div_add_mod X y).symm))
   obtain ⟨q, hq0⟩ : ∃ q, X / y = q := ⟨_, rfl⟩
   obtain ⟨s, hs0⟩ : ∃ s, X % y = s := ⟨_, rfl⟩
   have hqz : (X : Int) / (y : Int) = (q : Int) := by rw [← hq0]; simp
   have hsz : (X : Int) % (y : Int) = (s : Int) := by rw [← hs0]; simp
   rw [hq0] at HS2 hq
   rw [hs0] at HS2 hr
   have hy0 : ((y : Int) == 0) = false := by simp; omega
   clear hX hXd hq0 hs0 HST HO0
   have e0 := HO.out.1.cell (j := k) (by omega)
   have e1 := HO.out.1.frozen k
   go_wp2_with fail
   go_region
   all_goals go_wp2_with fail
   all_goals go_roundw
   case rel => exact ⟨k, s, qs.set k q, by omega, by go_num, congrArg (Value.int .i64) hsz, hr, ⟨HO.out.1.put k q, HO.out.2.set k hq⟩, HS2.out, (Below.setCell HE.out (p := ⟨w.heap.size, k, none⟩) (by simp) _).drew⟩
   case measure => simp [intOf]
theorem HalfAt.put {w : World} {A : Option Addr} {n : Nat} {ds : List Nat} (h : HalfAt w A n ds) {g j : Nat} (hg : ∀ ad, A = some ad → ad.block ≠ g) {v : Value} : HalfAt (w.setCell ⟨g, j, none⟩ v) A n ds := by
 refine ⟨h.1, h.2.1, fun h0 => ?_⟩
 obtain ⟨b, off, rfl, hb, hc⟩ := h.2.2 h0
 refine ⟨b, off, rfl, by simpa using hb, fun i hi => ?_⟩
 have hne : b ≠ g := hg _ rfl
 rw [World.cell?_setCell_other _ _ _ _ (by intro hh; injection hh; omega)]
 exact hc i hi
def Lies (lo hi Y R : Nat) : Prop := lo * Y ≤ R ∧ R < hi * Y
theorem cmp_le {a b : Nat} (h : a ≤ b) : decide (cmpN a b ≤ 0) = true := by
 unfold cmpN
 split
 ·rfl
 ·rw [if_neg (by omega)]; rfl
theorem cmp_gt {a b : Nat} (h : b < a) : decide (cmpN a b ≤ 0) = false := by
 unfold cmpN
 rw [if_neg (by omega), if_pos h]
 rfl
set_option maxRecDepth 100000 in
set_option maxHeartbeats 8000000 in
theorem rdiv_long (A : Option Addr) (n c : Nat) (xs : List Nat) (B : Option Addr) (m d : Nat) (ys : List Nat) (w : World) (ha : HalfAt w A n xs) (hb : HalfAt w B m ys) (hn : n ≤ 400000) (hm : m ≤ 400000) (hm1 : 1 < m) (hnm : 3 < n ∨ 3 < m) (h0 : 0 < hOf ys) (hz : halfOf (hOf ys) = ys) :
  Calls Tryz.prog 132 #[.slice A n c, .slice B m d] w (RetHH w (hOf xs / hOf ys) (hOf xs % hOf ys)) := by
 have HA := LH ha
 have HB := LH hb
 have HZ := LH hz
 clear ha hb hz
 have hmk := make_fullI n (by omega) (n : Int) rfl
 have HO0 := LH (own_madeI w w.heap.size n (Nat.le_refl _) (by omega))
 have hb2 : ((m : Int) == 1) = false := by simp; omega
 have HN : Hid (decide ((n : Int) ≤ 3) = false ∨ decide ((n : Int) ≤ 3) = true ∧ decide ((m : Int) ≤ 3) = false) := by
  by_cases h : n ≤ 3
  ·exact .inr ⟨by simp; omega, by simp; omega⟩
  ·exact .inl (by simp; omega)
 clear hnm
 go_enter Tryz.func132, Tryz.ntmps132
 obtain ⟨NN, hNN⟩ : ∃ NN : Int, NN = n := ⟨n, rfl⟩
 rcases HN.out with hb3 | ⟨hb3, hb4⟩ <;> clear HN <;> (
 go_wp2_with fail
 go_loopw [9, 10] (fun r i wr => ∃ (k R : Nat) (qs : List Nat) (D : Option Addr) (e : Nat), k ≤ n ∧ i = .int .i64 ((k : Int) - 1) ∧ r = .slice D (halfOf R).length e ∧ Hid (R < hOf ys) ∧ Hid (HalfAt wr D (halfOf R).length (halfOf R) ∧ (halfOf R).length ≤ e ∧ e ≤ maxLen) ∧ Hid (OwnH wr w.heap.size w.heap.size n n qs ∧ Halves qs) ∧ Hid (hOf (xs.drop k) = hOf ys * hOf (qs.drop k) + R) ∧ Hid (Ext w wr)) (fun _ i _ => (intOf i + 1).toNat)
 case atStart => exact ⟨n, 0, _, none, 0, Nat.le_refl _, rfl, by rw [halfOf_zero]; rfl, h0, by rw [halfOf_zero]; exact ⟨HalfAt.nil _ _, Nat.le_refl _, by simp [maxLen]⟩, ⟨HO0.out, Halves.replicate _⟩, by unfold Hid; rw [drop_end (by rw [HA.out.1]; exact Nat.le_refl _), drop_end (by simp), Nat.mul_zero], Ext.al Ext.rfl' _⟩
 case round =>
  obtain ⟨k, R, qs, D, e, hk, rfl, rfl, HR, HD, HO, HV, HE⟩ := hrel
  clear HO0
  have hRl : (halfOf R).length ≤ m := by
   have := halfOf_mono (Nat.le_of_lt HR.out)
   rw [HZ.out, HB.out.1] at this
   exact this
  cases k with
  | zero =>
   have hb : decide ((0 : Int) ≤ ((0 : Nat) : Int) - 1) = false := by simp
   have HQ : Hid (hOf xs / hOf ys = hOf qs ∧ hOf xs % hOf ys = R) := div_end (by simpa using HV.out) HR.out
   have HH := LH (HO.out.1.half HO.out.2)
   clear HV HO
   go_wp2_with fail
   refine (rtrim_any _ n n qs wr HH.out.1 HH.out.2.1 HH.out.2.2).mono ?_
   rintro e w1 ⟨rfl, rfl⟩
   have HT := LH HH.out.1.trim
   have hl := half_len_ge HH.out.1.2.1
   rw [HH.out.1.1] at hl
   go_wp2_with fail
   go_ret2
   refine (?_ : RetHH w (hOf xs / hOf ys) (hOf xs % hOf ys) _ _)
   rw [HQ.out.1, HQ.out.2]
   exact ⟨_, _, _, _, rfl, HT.out, hl, HH.out.2.2, HD.out.1, HD.out.2.1, HD.out.2.2, HE.out⟩
  | succ k =>
   rw [show (((k + 1 : Nat)) : Int) - 1 = (k : Int) by omega]
   have hb0 : decide ((0 : Int) ≤ (k : Int)) = true := by simp
   have h01 : (0 : Int) ≤ (k : Int) := by omega
   have h02 : (k : Int) < (n : Int) := by omega
   obtain ⟨bA, oA, rfl, -, hcA⟩ := HA.out.2.2 (by omega)
   have cA := Ext.cellOf HE.out (hcA k (by omega))
   clear hcA
   have hx := getD_lt HA.out.2.1 k
   have HST := LH (fun d r => div_step (xs := xs) (qs := qs) (k := k) (d := d) (r := r) (by rw [HO.out.1.len]; omega) HV.out)
   generalize xs.getD k 0 = x at *
   obtain ⟨L, hL⟩ : ∃ L, (halfOf R).length = L := ⟨_, rfl⟩
   rw [hL] at HD hRl ⊢
   have HR1 := HR.out
   clear hL
   obtain ⟨R2, hR2⟩ : ∃ R2, x + 65536 * R = R2 := ⟨_, rfl⟩
   have HST2 : Hid (∀ d r, R2 = hOf ys * d + r → hOf (xs.drop k) = hOf ys * hOf ((qs.set k d).drop k) + r) := fun d r h => HST.out d r (hR2.trans h)
   have HV2 : Hid (hOf (x :: halfOf R) = R2) := by unfold Hid; rw [← hR2]; simp [hOf, hOf_halfOf]
   have hub : R2 < 65536 * hOf ys := by omega
   clear HST hR2 HR1
   go_wp2_with (at_builtin; refine wpList_cons_int wr x hx rfl (.tmp 83) (.tmp 84) rfl rfl D L e (halfOf R) rfl HD.out.1 (by omega) ?_; intro g cap w4 h5 h6 h7 h8)
   have HT := LH h5.trim
   have hl2 := half_len_ge h5.2.1
   rw [h5.1] at hl2
   rw [HV2.out] at HT hl2
   have HE4 := LH (ET HE.out h8)
   have HO4 : Hid (OwnH w4 w.heap.size w.heap.size n n qs ∧ Halves qs) := ⟨HO.out.1.ext h8, HO.out.2⟩
   refine (rtrim_any _ (1 + L) cap (x :: halfOf R) w4 h5 h6 h7).mono ?_
   rintro e2 w1 ⟨rfl, rfl⟩
   rw [HV2.out]
   have HLT : Hid ((halfOf R2).length < m → R2 < hOf ys) := fun h => by
    rcases Nat.lt_or_ge R2 (hOf ys) with h' | h'
    ·exact h'
    ·have := halfOf_mono h'
     rw [HZ.out, HB.out.1] at this
     omega
   have HC : Hid ((halfOf R2).length ≤ cap ∧ cap ≤ maxLen) := ⟨Nat.le_trans hl2 h6, h7⟩
   clear h5 h6 h7 h8 HD HE HO HV HV2 HR
   have hw4 : w.heap.size < w4.heap.size := HO4.out.1.lt.1
   have HSP : Hid (decide (((halfOf R2).length : Int) < (m : Int)) = true ∧ decide ((halfOf R2).length < m) = true ∧ Lies 0 1 (hOf ys) R2 ∨ decide (((halfOf R2).length : Int) < (m : Int)) = false ∧ decide ((halfOf R2).length < m) = false ∧ Lies 0 65536 (hOf ys) R2) := by
    by_cases h : (halfOf R2).length < m
    ·exact .inl ⟨by simp; omega, by simp; omega, by simp, by rw [Nat.one_mul]; exact HLT.out h⟩
    ·exact .inr ⟨by simp; omega, by simp; omega, by simp, hub⟩
   have hl3 : (halfOf R2).length ≤ 400001 := by omega
   clear hl2 HLT
   rcases HSP.out with ⟨hb5, hb8, HLI⟩ | ⟨hb5, hb8, HLI⟩ <;> clear HSP <;> have HL0 := LH HLI <;> clear HLI <;> (
   go_wp2_with fail
   go_loopw [11, 12] (fun lo hi wq => ∃ (l h : Nat), l < h ∧ h ≤ 65536 ∧ lo = .int .i64 (l : Int) ∧ hi = .int .i64 (h : Int) ∧ Hid (Lies l h (hOf ys) R2) ∧ Hid (Ext w4 wq)) (fun lo hi _ => (intOf hi - intOf lo).toNat)
   case atStart => first | exact ⟨0, 1, by omega, by omega, rfl, rfl, HL0.out, Ext.rfl'⟩ | exact ⟨0, 65536, by omega, by omega, rfl, rfl, HL0.out, Ext.rfl'⟩
   case round =>
    clear HL0
    obtain ⟨l, h, hlh, hh, rfl, rfl, HL, HEq⟩ := hrel
    have HBq := LH (HB.out.below (ET HE4.out HEq.out))
    have HTq := LH (HT.out.below HEq.out)
    have hwq : w4.heap.size ≤ wr.heap.size := HEq.out.size
    by_cases hgo : l + 1 < h
    ·have hb6 : decide (1 < (h : Int) - (l : Int)) = true := by simp; omega
     obtain ⟨md, hmd⟩ : ∃ md, (l + h) / 2 = md := ⟨_, rfl⟩
     have hmi : ((l : Int) + (h : Int)) / 2 = (md : Int) := by omega
     have hm1 : l < md := by omega
     have hm2 : md < h := by omega
     clear hmd
     have CT := LH (rtimes_any B m d ys md wr HBq.out (by omega) (by omega))
     have HTL : Hid ((halfOf (md * hOf ys)).length ≤ 1 + m) := times_len HB.out.2.1 HB.out.1 (by omega)
     go_wp2_with fail
     refine CT.out.mono ?_
     rintro e3 w5 ⟨A3, c3, rfl, h1, h2, h3, h4⟩
     have HE5 := LH (ET HEq.out h4)
     have CC := LH (rcmp_any A3 _ c3 _ (some ⟨g, 0, none⟩) _ cap _ w5 h1 (HTq.out.below h4) (Nat.le_trans HTL.out (by omega)) (by omega))
     rw [hOf_halfOf, hOf_halfOf] at CC
     clear h1 h2 h3 h4
     go_wp2_with fail
     refine CC.out.mono ?_
     rintro e3 w6 ⟨rfl, h4⟩
     have HE6 := LH (ET HE5.out h4)
     clear h4 CC CT
     by_cases hle : md * hOf ys ≤ R2
     ·have hb7 := cmp_le hle
      have HL2 : Hid (Lies md h (hOf ys) R2) := ⟨hle, HL.out.2⟩
      generalize cmpN (md * hOf ys) R2 = cv at *
      clear hle
      go_wp2_with fail
      go_roundw
      case rel => exact ⟨md, h, hm2, hh, rfl, rfl, HL2.out, HE6.out⟩
      case measure => simp [intOf]; omega
     ·have hb7 := cmp_gt (show R2 < md * hOf ys by omega)
      have HL2 : Hid (Lies l md (hOf ys) R2) := ⟨HL.out.1, by omega⟩
      generalize cmpN (md * hOf ys) R2 = cv at *
      clear hle
      go_wp2_with fail
      go_roundw
      case rel => exact ⟨l, md, hm1, by omega, rfl, rfl, HL2.out, HE6.out⟩
      case measure => simp [intOf]; omega
    ·have hb6 : decide (1 < (h : Int) - (l : Int)) = false := by simp; omega
     obtain rfl : h = l + 1 := by omega
     have CT := LH (rtimes_any B m d ys l wr HBq.out (by omega) (by omega))
     have HTL : Hid ((halfOf (l * hOf ys)).length ≤ 1 + m) := times_len HB.out.2.1 HB.out.1 (by omega)
     go_wp2_with fail
     refine CT.out.mono ?_
     rintro e3 w5 ⟨A3, c3, rfl, h1, h2, h3, h4⟩
     have HE5 := LH (ET HEq.out h4)
     have hw5 : wr.heap.size ≤ w5.heap.size := h4.size
     have CS := LH (rsub_new (some ⟨g, 0, none⟩) _ cap _ A3 _ c3 _ w5 (HTq.out.below h4) h1 (by omega) (Nat.le_trans HTL.out (by omega)) (by rw [hOf_halfOf, hOf_halfOf]; exact HL.out.1))
     rw [hOf_halfOf, hOf_halfOf] at CS
     clear h1 h2 h3 h4
     go_wp2_with fail
     refine CS.out.mono ?_
     rintro e3 w6 ⟨A5, c5, rfl, h1, h2, h3, h4, h5⟩
     have HE6 := LH (ET HE5.out h4)
     have HO6 := LH (HO4.out.1.ext HE6.out)
     have HD6 : Hid (HalfAt (w6.setCell ⟨w.heap.size, k, none⟩ (.int .i64 (l : Int))) A5 (halfOf (R2 - l * hOf ys)).length (halfOf (R2 - l * hOf ys)) ∧ (halfOf (R2 - l * hOf ys)).length ≤ c5 ∧ c5 ≤ maxLen) := ⟨h1.put (fun ad e => by have := h5 ad e; omega), h2, h3⟩
     have HR6 : Hid (R2 - l * hOf ys < hOf ys) := by
      have h := HL.out
      have e : (l + 1) * hOf ys = l * hOf ys + hOf ys := Nat.succ_mul l (hOf ys)
      unfold Lies at h
      rw [e] at h
      unfold Hid
      omega
     have HV6 := LH (HST2.out l (R2 - l * hOf ys) (by have h := HL.out.1; rw [Nat.mul_comm]; omega))
     have e0 := HO6.out.cell (j := k) (by omega)
     have e1 := HO6.out.frozen k
     have HE7 := LH (ET HE4.out HE6.out)
     clear h1 h2 h3 h4 h5 CS CT
     generalize R2 - l * hOf ys = R6 at *
     go_wp2_with fail
     go_roundw
     case rel => exact ⟨k, R6, qs.set k l, A5, c5, by omega, by go_num, rfl, HR6.out, HD6.out, ⟨HO6.out.put k l, HO4.out.2.set k (by omega)⟩, HV6.out, Below.setCell HE7.out (p := ⟨w.heap.size, k, none⟩) (by simp) _⟩
     case measure => simp [intOf]
   )
 )
set_option maxRecDepth 100000 in
set_option maxHeartbeats 8000000 in
theorem rdiv_any (A : Option Addr) (n c : Nat) (xs : List Nat) (B : Option Addr) (m d : Nat) (ys : List Nat) (w : World) (ha : HalfAt w A n xs) (hb : HalfAt w B m ys) (hn : n ≤ 400000) (hm : m ≤ 400000) (h0 : 0 < hOf ys) (hz : halfOf (hOf ys) = ys) :
  Calls Tryz.prog 132 #[.slice A n c, .slice B m d] w (RetHH w (hOf xs / hOf ys) (hOf xs % hOf ys)) := by
 have HA := LH ha
 have HB := LH hb
 have HZ := LH hz
 have hm0 : 0 < m := by
  rw [← hb.1]
  rcases ys with _ | ⟨y, ys⟩
  ·simp [hOf] at h0
  ·simp
 clear ha hb hz
 by_cases hs : n ≤ 3 ∧ m ≤ 3
 ·obtain ⟨hs1, hs2⟩ := hs
  have hb1 : decide ((n : Int) ≤ 3) = true := by simp; omega
  have hb2 : decide ((m : Int) ≤ 3) = true := by simp; omega
  have hxl : hOf xs < 281474976710656 := small_lt HA.out.2.1 HA.out.1 (by omega)
  have hyl : hOf ys < 281474976710656 := small_lt HB.out.2.1 HB.out.1 (by omega)
  have CA := LH (fun w' (h : Ext w w') => rsmall_any A n c xs w' (HA.out.below h) (by omega))
  have CB := LH (fun w' (h : Ext w w') => rsmall_any B m d ys w' (HB.out.below h) (by omega))
  have hql : hOf xs / hOf ys ≤ hOf xs := Nat.div_le_self _ _
  have hrl : hOf xs % hOf ys < hOf ys := Nat.mod_lt _ h0
  have CQ := LH (fun w' => rback_any (hOf xs / hOf ys) w' (by omega))
  have CR := LH (fun w' => rback_any (hOf xs % hOf ys) w' (by omega))
  obtain ⟨q, hq⟩ : ∃ q, hOf xs / hOf ys = q := ⟨_, rfl⟩
  obtain ⟨r, hr⟩ : ∃ r, hOf xs % hOf ys = r := ⟨_, rfl⟩
  have hqi : ((hOf xs : Nat) : Int) / ((hOf ys : Nat) : Int) = (q : Int) := by rw [← hq]; simp
  have hri : ((hOf xs : Nat) : Int) % ((hOf ys : Nat) : Int) = (r : Int) := by rw [← hr]; simp
  rw [hq] at CQ ⊢ hql
  rw [hr] at CR ⊢ hrl
  clear hq hr
  generalize hOf xs = x at *
  generalize hOf ys = y at *
  have hy0 : ((y : Int) == 0) = false := by simp; omega
  go_enter Tryz.func132, Tryz.ntmps132
  go_wp2_with fail
  refine (CA.out w Ext.rfl').mono ?_
  rintro e w1 ⟨rfl, rfl⟩
  go_wp2_with fail
  refine (CB.out w Ext.rfl').mono ?_
  rintro e w1 ⟨rfl, rfl⟩
  go_wp2_with fail
  refine (CQ.out w).mono ?_
  rintro e w1 ⟨A1, c1, rfl, h1, h2, h3, h4⟩
  have HR : Hid (HalfAt w1 A1 (halfOf q).length (halfOf q) ∧ (halfOf q).length ≤ c1 ∧ c1 ≤ maxLen ∧ Ext w w1) := ⟨h1, h2, h3, h4⟩
  clear h1 h2 h3 h4
  go_wp2_with fail
  refine (CA.out w1 HR.out.2.2.2).mono ?_
  rintro e w1 ⟨rfl, rfl⟩
  go_wp2_with fail
  refine (CB.out _ HR.out.2.2.2).mono ?_
  rintro e w1 ⟨rfl, rfl⟩
  go_wp2_with fail
  refine (CR.out _).mono ?_
  rintro e w2 ⟨A2, c2, rfl, h1, h2, h3, h4⟩
  have HR2 : Hid (HalfAt w2 A2 (halfOf r).length (halfOf r) ∧ (halfOf r).length ≤ c2 ∧ c2 ≤ maxLen ∧ Ext w w2) := ⟨h1, h2, h3, ET HR.out.2.2.2 h4⟩
  have HR1 : Hid (HalfAt w2 A1 (halfOf q).length (halfOf q)) := HR.out.1.below h4
  clear h1 h2 h3 h4
  go_wp2_with fail
  go_ret2
  exact ⟨_, _, _, _, rfl, HR1.out, HR.out.2.1, HR.out.2.2.1, HR2.out⟩
 ·by_cases h1 : m = 1
  ·subst h1
   obtain ⟨y, rfl⟩ : ∃ y, ys = [y] := by
    rcases ys with _ | ⟨y, _ | ⟨z, ys⟩⟩
    ·exact absurd HB.out.1 (by simp)
    ·exact ⟨y, rfl⟩
    ·exact absurd HB.out.1 (by simp)
   have e : hOf [y] = y := by simp [hOf]
   rw [e] at h0 ⊢
   exact rdiv_one A n c xs B d y w HA.out HB.out hn (by omega) h0
  ·exact rdiv_long A n c xs B m d ys w HA.out HB.out hn hm (by omega) (by omega) h0 HZ.out
end Go.Proofs.YtjinpfnefeiooaaGreat
