/- A part of the proof. -/
import Derived.Test.YtjinpfnefeiooaaGreatHalfs
import Derived.Test.YtjinpfnefeiooaaGreatFracO
import Derived.Test.YtjinpfnefeiooaaGreatFracN
import Derived.Test.YtjinpfnefeiooaaGreatStepX
namespace Go.Proofs.YtjinpfnefeiooaaGreat
open Go.RowKit

def prsTo (ds : List Nat) : Nat → List Nat
 | 0 => []
 | k + 1 => prsTo ds k ++ [ds.getD (2 * k) 0 + 65536 * ds.getD (2 * k + 1) 0]
theorem prs_len (ds : List Nat) : ∀ k, (prsTo ds k).length = k
 | 0 => rfl
 | k + 1 => by simp [prsTo, prs_len ds k]
theorem prs_words {ds : List Nat} (h : Halves ds) : ∀ k, Words (prsTo ds k)
 | 0 => Words.nil
 | k + 1 => (prs_words h k).append (Words.cons (by have h1 := h.getD (2 * k); have h2 := h.getD (2 * k + 1); omega) Words.nil)
theorem prs_val (ds : List Nat) : ∀ k, natOf (prsTo ds k) = hOf (ds.take (2 * k))
 | 0 => by simp [prsTo, natOf, hOf]
 | k + 1 => by
  rw [prsTo, natOf_snoc, prs_len, prs_val ds k, show 2 * (k + 1) = 2 * k + 1 + 1 by omega, hOf_take_succ, hOf_take_succ]
  have e : 4294967296 ^ k = 65536 ^ (2 * k) := by rw [Nat.pow_mul]
  rw [e, Nat.pow_succ, Nat.mul_add, ← Nat.mul_assoc]
  omega
theorem prs_end {m k : Nat} (h1 : (halfOf m).length ≤ 2 * k) (h2 : k = 0 ∨ 2 * (k - 1) < (halfOf m).length) : prsTo (halfOf m) k = wordsOf m := by
 have hv : natOf (prsTo (halfOf m) k) = m := by rw [prs_val, List.take_of_length_le h1, hOf_halfOf]
 rw [← hv]
 conv => rhs; rw [hv]
 have := wordsOf_natOf (prs_words (half_halfOf m) k) ?_
 ·rw [hv] at this
  rw [hv]
  exact this.symm
 ·intro hne
  rcases k with _ | j
  ·exact absurd rfl hne
  ·have hl : (prsTo (halfOf m) (j + 1)).getLast hne = (halfOf m).getD (2 * j) 0 + 65536 * (halfOf m).getD (2 * j + 1) 0 := by
    simp [prsTo]
   rw [hl]
   have hlt : 2 * j < (halfOf m).length := by
    rcases h2 with h2 | h2
    ·omega
    ·simpa using h2
   have hnn : halfOf m ≠ [] := fun e => by rw [e] at hlt; simp at hlt
   have ht := hnoZero_halfOf m hnn
   rw [List.getLast_eq_getElem] at ht
   have hg : (halfOf m).getD ((halfOf m).length - 1) 0 = (halfOf m)[(halfOf m).length - 1]'(by omega) := by simp [List.getD, show (halfOf m).length - 1 < (halfOf m).length by omega]
   rw [← hg] at ht
   have hc : (halfOf m).length - 1 = 2 * j ∨ (halfOf m).length - 1 = 2 * j + 1 := by omega
   rcases hc with hc | hc <;> rw [hc] at ht <;> omega
theorem half_len_le {xs : List Nat} (h : Words xs) : (halfOf (natOf xs)).length ≤ 2 * xs.length := by
 rw [← digs_val]
 have := half_len_ge (digs_half h)
 rwa [digs_len] at this
theorem own_newW {w : World} {base n : Nat} {v : Value} {S : List Nat} (h : w.ownsRow base 44 1 v n (u32s S)) (hw : Words S) : ∃ A c, v = .slice A n c ∧ NewW w base A n c S := by
 have hl : S.length = n := by have := h.1; simpa [u32s] using this
 rcases h.2 with ⟨rfl, hn⟩ | ⟨g, cap, cur, rfl, hb, hh, h3, h4, _⟩
 ·subst hn
  obtain rfl : S = [] := List.eq_nil_of_length_eq_zero hl
  exact ⟨none, 0, rfl, WordsAt.nil _ _, Nat.le_refl _, by omega, fun ad h => by cases h⟩
 ·exact ⟨_, _, rfl, own_new h hw hb⟩
set_option maxRecDepth 100000 in
set_option maxHeartbeats 4000000 in
theorem of_any (b : Bool) (A : Option Addr) (n c : Nat) (ds : List Nat) (w : World) (h : HalfAt w A n ds) (hnc : n ≤ c) (hc : c ≤ maxLen) (hn : n ≤ 2147483648) :
  Calls Tryz.prog 99 #[.bool b, .slice A n c] w (RetZ w (sgn b (hOf ds))) := by
 obtain ⟨i0, hi, hz0, hz1, hz2⟩ := info_parts info_u32
 have HI0 := LH (And.intro hi (And.intro hz0 (And.intro hz1 hz2)))
 clear hi hz0 hz1 hz2
 go_enter Tryz.func99, Tryz.ntmps99
 go_wp2_with fail
 have k0 := Cell2.new w _ rfl (.bool false) (.slice none 0 0) 27
 have hE : Ext w (w.alloc (.cells #[.bool false, .slice none 0 0] 27)) := Ext.al Ext.rfl' _
 generalize w.alloc (.cells #[.bool false, .slice none 0 0] 27) = w1 at *
 have hs1 : w.heap.size < w1.heap.size := k0.2.2.2.2
 refine (rtrim_any A n c ds w1 (h.below hE) hnc hc).mono ?_
 rintro e w2 ⟨rfl, rfl⟩
 have HT := LH (h.below hE).trim
 have hl := half_len_ge h.2.1
 rw [h.1] at hl
 have K0 := LH k0
 have HE := LH hE
 clear h k0 hE
 generalize hOf ds = m at *
 have HP : Hid (∀ k, (halfOf m).length ≤ 2 * k → k = 0 ∨ 2 * (k - 1) < (halfOf m).length → prsTo (halfOf m) k = wordsOf m) := fun k h1 h2 => prs_end h1 h2
 have HHW := LH (half_halfOf m)
 have hlen : (halfOf m).length = (halfOf m).length := rfl
 obtain ⟨N, hN⟩ : ∃ N, (halfOf m).length = N := ⟨_, rfl⟩
 rw [hN] at HT hl HP ⊢
 clear hN hlen
 go_wp2_with fail
 go_loopw [5, 6] (fun v i wr => ∃ k : Nat, k ≤ N ∧ i = .int .i64 ((2 * k : Nat) : Int) ∧ Hid ((k = 0 ∨ 2 * (k - 1) < N) ∧ Ext w1 wr ∧ wr.ownsRow w1.heap.size 44 1 v k (u32s (prsTo (halfOf m) k)))) (fun _ i _ => 2 * N + 2 - (intOf i).toNat)
 case atStart => exact ⟨0, by omega, rfl, .inl rfl, Ext.rfl', own_nil _ _ _ _⟩
 case round =>
  obtain ⟨k, hk, rfl, HI⟩ := hrel
  by_cases hlt : 2 * k < N
  ·have hbv : decide (((2 * k : Nat) : Int) < (N : Int)) = true := by simp; omega
   have hd0 := HHW.out.getD (2 * k)
   have hd1 := HHW.out.getD (2 * k + 1)
   have HS : Hid (prsTo (halfOf m) (k + 1) = prsTo (halfOf m) k ++ [(halfOf m).getD (2 * k) 0 + 65536 * (halfOf m).getD (2 * k + 1) 0]) := rfl
   have HO := LH HI.out.2.2
   have HER := LH HI.out.2.1
   clear HI
   go_wp2_with fail
   refine (at_any A N c _ (2 * k) wr (HT.out.below HER.out) (by omega)).mono ?_
   rintro e w3 ⟨rfl, rfl⟩
   obtain ⟨x0, hx0⟩ : ∃ v, (halfOf m).getD (2 * k) 0 = v := ⟨_, rfl⟩
   rw [hx0] at HS hd0 ⊢
   clear hx0
   have hi1 : ((2 * k : Nat) : Int) + 1 = ((2 * k + 1 : Nat) : Int) := by omega
   go_wp2_with fail
   refine (at_any A N c _ (2 * k + 1) wr (HT.out.below HER.out) (by omega)).mono ?_
   rintro e w3 ⟨rfl, rfl⟩
   obtain ⟨x1, hx1⟩ : ∃ v, (halfOf m).getD (2 * k + 1) 0 = v := ⟨_, rfl⟩
   rw [hx1] at HS hd1 ⊢
   clear hx1 hi1
   have hw0 : (x0 : Int) % 4294967296 = (x0 : Int) := by omega
   have hw1 : (x1 : Int) % 4294967296 = (x1 : Int) := by omega
   obtain ⟨y, hy⟩ : ∃ y, x0 + 65536 * x1 = y := ⟨_, rfl⟩
   have hyz : (x0 : Int) + (x1 : Int) * 65536 = (y : Int) := by omega
   have hyb : y < 4294967296 := by omega
   rw [hy] at HS
   clear hy
   go_wp2_with (at_builtin ; refine wpList_append_atW _ rfl (.tmp 15) (.tmp 27) 25 rfl w1.heap.size 44 i0 _ 1 4 Tryz.underlying25 HI0.out.1 HI0.out.2.1 HI0.out.2.2.1 HI0.out.2.2.2 rfl (by omega) u5 k _ rfl (own_keep HO.out (fun g hg => Below.heap_alloc wr _ g (own_lt HO.out hg).1)) ⟨wr.heap.size, 0, none⟩ 1 1 [.int .u32 (y : Int)] rfl rfl (World.news_of_block (cs := #[.int .u32 (y : Int)]) (t := 44) (fr := (0, 0)) (heap_alloc_new wr _)) (by simp [Value.oneCell']) (.inr (by omega)) (by simp [maxLen]; omega) (by omega) (by have := HER.out.size; simp; omega) ?_)
   intro g cap w4 hown hgr hgg
   have HO4 : Hid (Ext w1 w4 ∧ w4.ownsRow w1.heap.size 44 1 (.slice (some ⟨g, 0, none⟩) (k + 1) cap) (k + 1) (u32s (prsTo (halfOf m) (k + 1)))) := by
    refine ⟨ext_grownW (Ext.al HER.out _) hgr (fun g hg => (own_lt HO.out hg).2), ?_⟩
    rw [HS.out, u32s_snoc]
    exact hown
   clear hown hgr hgg HO
   go_wp2_with fail
   go_roundw
   case rel => exact ⟨k + 1, by omega, by go_num, .inr (by simpa using hlt), HO4.out.1, HO4.out.2⟩
   case measure => simp [intOf]; omega
  ·have hbv : decide (((2 * k : Nat) : Int) < (N : Int)) = false := by simp; omega
   obtain ⟨hk2, hE, hown⟩ := HI.out
   rw [HP.out k (by omega) hk2] at hown
   obtain ⟨A', c', rfl, hN⟩ := own_newW hown (words_wordsOf m)
   have HN := LH hN
   have HEF := LH (ET HE.out hE)
   obtain ⟨e0, e1, f0, f1, el⟩ := K0.out.ext hE
   have HKM : Hid (k = 0 ↔ m = 0) := by
    have := hN.1.1
    unfold Hid
    constructor
    ·intro e; rw [e] at this; exact wordsOf_eq_nil.1 this
    ·intro e; rw [e, wordsOf_zero] at this; exact this.symm
   clear HI hown hE hN hk2
   by_cases h0 : k = 0
   ·have hm0 := HKM.out.1 h0
    subst h0 hm0
    have HZ : Hid (ZCan wr w1.heap.size false A' 0 c' (sgn b 0)) := by
     unfold Hid
     rw [sgn_zero]
     exact ⟨rfl, HN.out.1, HN.out.2.1, HN.out.2.2.1, HN.out.2.2.2⟩
    cases b
    all_goals
     go_wp2_with fail
     refine bodyPost_ret (v := .agg #[.bool false, .slice A' 0 c']) (by simp [results, Tryz.results99, go_sem, e0, e1]) rfl ?_
     exact ⟨_, _, _, _, rfl, retZ_fill (Nat.le_refl _) hs1 HZ.out HEF.out _ _⟩
   ·have hm0 : m ≠ 0 := fun e => h0 (HKM.out.2 e)
    have hkb : decide (0 < (k : Int)) = true := by simp; omega
    have hkb2 : decide (0 < k) = true := by simp; omega
    have HZ : Hid (ZCan wr w1.heap.size b A' k c' (sgn b m)) := by
     refine ⟨(sgn_neg b hm0).symm, ?_, HN.out.2.1, HN.out.2.2.1, HN.out.2.2.2⟩
     rw [sgn_abs]
     exact HN.out.1
    cases b
    all_goals
     go_wp2_with fail
     refine bodyPost_ret (v := .agg #[.bool _, .slice A' k c']) (by simp [results, Tryz.results99, go_sem, e0, e1]; rfl) rfl ?_
     exact ⟨_, _, _, _, rfl, retZ_fill (Nat.le_refl _) hs1 HZ.out HEF.out _ _⟩
set_option maxRecDepth 100000 in
set_option maxHeartbeats 2000000 in
theorem rleast_any (b : Bool) (A : Option Addr) (n c : Nat) (z : Int) (w : World) (h : ZIs w b A n c z) (hn : n ≤ 536870912) :
  Calls Tryz.prog 72 #[.agg #[.bool b, .slice A n c]] w (RetZ w z) := by
 obtain ⟨xs, h1, h2, h3, rfl⟩ := h
 go_enter Tryz.func72, Tryz.ntmps72
 go_wp2_with fail
 obtain ⟨k0, k1, hE⟩ := two2 w (.bool b) (.slice A n c) (.bool false) (.slice none 0 0) 27
 generalize ((w.alloc (.cells #[.bool b, .slice A n c] 27)).alloc (.cells #[.bool false, .slice none 0 0] 27)) = w1 at *
 refine wp_region_lex (C := InX w1.drew []) (by kernel_rfl) (by kernel_rfl) (inX_self _ _) ?_
 have hd : Ext w1 w1.drew := Ext.rfl'.drew
 generalize w1.drew = wd at *
 have K0 := LH (k0.ext hd)
 have K1 := LH (k1.ext hd)
 have HE := LH (ET hE hd)
 have hs1 : w.heap.size + 1 < wd.heap.size := K1.out.2.2.2.2
 have H1 := LH h1
 clear k0 k1 hE hd h1
 have x0 := fun y : ExtX wd [] => y.cell (p := ⟨w.heap.size, 0, none⟩) K0.out.1 (by simp)
 have x1 := fun y : ExtX wd [] => y.cell (p := ⟨w.heap.size, 1, none⟩) K0.out.2.1 (by simp)
 repeat (refine wpLex_still (by rfl) ?_; go_big_quiet_step (fail); refine wpQuiet_nil ?_)
 refine wpLex_move (by rfl) (by rfl) ?_
 go_wp2_with fail
 refine (halves_any A n c xs wd (H1.out.below HE.out) (by omega)).mono ?_
 rintro e w2 ⟨A', c', rfl, hH, hl, hc, hE2⟩
 have hln := half_len_le H1.out.2.1
 rw [H1.out.1] at hln
 have HH := LH hH
 clear hH
 generalize (halfOf (natOf xs)).length = N at *
 go_wp2_with fail
 refine And.intro (inX_of_ext _ hE2) ?_
 repeat (refine wpLex_still (by rfl) ?_; go_big_quiet_step (fail); refine wpQuiet_nil ?_)
 refine wpLex_move (by rfl) (by rfl) ?_
 go_wp2_with fail
 refine (of_any b A' N c' _ w2 HH.out hl hc (by omega)).mono ?_
 rintro e w3 ⟨b', A3, n3, c3, rfl, hZ, hE3⟩
 rw [hOf_halfOf] at hZ
 have hE23 := ET hE2 hE3
 have HX := LH (inX_of_ext [] hE23)
 have HZ := LH hZ
 have HE3 := LH (ET HE.out hE23)
 have hs2 : wd.heap.size ≤ w2.heap.size := hE2.size
 obtain ⟨e0, e1, f0, f1, el⟩ := K1.out.ext hE23
 clear hZ hE2 hE3 hE23
 go_wp2_with fail
 refine And.intro HX.out ?_
 refine wpLex_last (by rfl) (by kernel_rfl) (by rfl) ?_
 go_wp2_with fail
 refine And.intro trivial (wpLex_nil ?_)
 go_wp2_with fail
 refine bodyPost_ret (v := .agg #[.bool b', .slice A3 n3 c3]) (by simp [results, Tryz.results72, go_sem, e0, e1]) rfl ?_
 exact ⟨_, _, _, _, rfl, retZ_fill (by omega) (by omega) HZ.out HE3.out _ _⟩
end Go.Proofs.YtjinpfnefeiooaaGreat
namespace Go.Proofs.YtjinpfnefeiooaaGreat
open Go.RowKit

theorem ret_bool' {a b : Bool} (h : a = b) : Ending.returned (.bool a) = .returned (.bool b) := by rw [h]
theorem two_words (m : Nat) : natOf [m % 4294967296, m / 4294967296] = m := by
 simp only [natOf]
 omega
set_option maxRecDepth 100000 in
set_option maxHeartbeats 2000000 in
theorem rfrom_any (z : Int) (w : World) (hz : I64r z) :
  Calls Tryz.prog 45 #[.int .i64 z] w (RetZ w z) := by
 obtain ⟨hz1, hz2⟩ := hz
 obtain ⟨m, hm⟩ : ∃ m, z.natAbs = m := ⟨_, rfl⟩
 have hm1 : m < 18446744073709551616 := by omega
 obtain ⟨lo, hlo⟩ : ∃ v, m % 4294967296 = v := ⟨_, rfl⟩
 obtain ⟨hi, hhi⟩ : ∃ v, m / 4294967296 = v := ⟨_, rfl⟩
 have hloz : (m : Int) % 4294967296 = (lo : Int) := by omega
 have hhiz : (m : Int) / 4294967296 = (hi : Int) := by omega
 have hlo1 : lo < 4294967296 := by omega
 have hhi1 : hi < 4294967296 := by omega
 have HV : Hid (sgn (decide (z < 0)) (natOf [lo, hi]) = z) := by
  unfold Hid
  rw [← hlo, ← hhi, two_words m, ← hm, sgn_natAbs]

 clear hlo hhi
 by_cases h : z < 0
 ·have hb : decide (z < 0) = true := decide_eq_true h
  have hu : IntKind.u64.wrap (-IntKind.u64.wrap z) = (m : Int) := by simp only [u64_wrap]; omega
  rw [hb] at HV
  clear hm
  go_enter Tryz.func45, Tryz.ntmps45
  go_wp2_with fail
  have k0 := (Cell2.new w _ rfl (.bool false) (.slice none 0 0) 27).ext (Ext.al Ext.rfl' (.cells #[.int .u32 (lo : Int), .int .u32 (hi : Int)] 44))
  have hW := words2 (w.alloc (.cells #[.bool false, .slice none 0 0] 27)) (w.heap.size + 1) lo hi (by simp) hlo1 hhi1
  have hE : Ext w ((w.alloc (.cells #[.bool false, .slice none 0 0] 27)).alloc (.cells #[.int .u32 (lo : Int), .int .u32 (hi : Int)] 44)) := Ext.al (Ext.al Ext.rfl' _) _
  generalize (w.alloc (.cells #[.bool false, .slice none 0 0] 27)).alloc (.cells #[.int .u32 (lo : Int), .int .u32 (hi : Int)] 44) = w1 at *
  refine (rleast_any true _ 2 2 z w1 ⟨[lo, hi], hW, by omega, by simp [maxLen], HV.out.symm⟩ (by omega)).mono ?_
  rintro e w2 ⟨b, A, n, c, rfl, hZ, hE2⟩
  have HZ := LH hZ
  have HE := LH (ET hE hE2)
  have hs : w.heap.size < w1.heap.size := k0.2.2.2.2
  obtain ⟨e0, e1, f0, f1, el⟩ := k0.ext hE2
  clear hZ hE hE2 hW k0
  go_wp2_with fail
  refine bodyPost_ret (v := .agg #[.bool b, .slice A n c]) (by simp [results, Tryz.results45, go_sem, e0, e1]) rfl ?_
  exact ⟨_, _, _, _, rfl, retZ_fill (Nat.le_refl _) hs HZ.out HE.out _ _⟩
 ·have hb : decide (z < 0) = false := decide_eq_false h
  have hu : (z : Int) = (m : Int) := by omega
  rw [hb] at HV
  subst hu
  clear hm
  go_enter Tryz.func45, Tryz.ntmps45
  go_wp2_with fail
  have k0 := (Cell2.new w _ rfl (.bool false) (.slice none 0 0) 27).ext (Ext.al Ext.rfl' (.cells #[.int .u32 (lo : Int), .int .u32 (hi : Int)] 44))
  have hW := words2 (w.alloc (.cells #[.bool false, .slice none 0 0] 27)) (w.heap.size + 1) lo hi (by simp) hlo1 hhi1
  have hE : Ext w ((w.alloc (.cells #[.bool false, .slice none 0 0] 27)).alloc (.cells #[.int .u32 (lo : Int), .int .u32 (hi : Int)] 44)) := Ext.al (Ext.al Ext.rfl' _) _
  generalize (w.alloc (.cells #[.bool false, .slice none 0 0] 27)).alloc (.cells #[.int .u32 (lo : Int), .int .u32 (hi : Int)] 44) = w1 at *
  refine (rleast_any false _ 2 2 (m : Int) w1 ⟨[lo, hi], hW, by omega, by simp [maxLen], HV.out.symm⟩ (by omega)).mono ?_
  rintro e w2 ⟨b, A, n, c, rfl, hZ, hE2⟩
  have HZ := LH hZ
  have HE := LH (ET hE hE2)
  have hs : w.heap.size < w1.heap.size := k0.2.2.2.2
  obtain ⟨e0, e1, f0, f1, el⟩ := k0.ext hE2
  clear hZ hE hE2 hW k0
  go_wp2_with fail
  refine bodyPost_ret (v := .agg #[.bool b, .slice A n c]) (by simp [results, Tryz.results45, go_sem, e0, e1]) rfl ?_
  exact ⟨_, _, _, _, rfl, retZ_fill (Nat.le_refl _) hs HZ.out HE.out _ _⟩
set_option maxRecDepth 100000 in
set_option maxHeartbeats 2000000 in
theorem rint_any (z : Int) (w : World) (hz : I64r z) :
  Calls Tryz.prog 18 #[.int .i64 z] w (RetQ w (z : Rat)) := by
 go_enter Tryz.func18, Tryz.ntmps18
 go_wp2_with fail
 have k0 := Cell4.new w _ rfl (.bool false) (.slice none 0 0) (.bool false) (.slice none 0 0) 29
 have hE : Ext w (w.alloc (.cells #[.bool false, .slice none 0 0, .bool false, .slice none 0 0] 29)) := Ext.al Ext.rfl' _
 generalize w.alloc (.cells #[.bool false, .slice none 0 0, .bool false, .slice none 0 0] 29) = w1 at *
 have hsz : w.heap.size < w1.heap.size := k0.2.2
 refine (rfrom_any z w1 hz).mono ?_
 rintro e w2 ⟨b, A, n, c, rfl, hZ, hE2⟩
 obtain ⟨⟨c0, c1, c2, c3⟩, ⟨f0, f1, f2, f3⟩, hl⟩ := k0.ext hE2
 have HZ := LH hZ
 have HE := LH (ET hE hE2)
 clear hZ hE hE2 k0
 go_wp2_with fail
 refine bodyPost_ret (v := .agg #[.bool b, .slice A n c, .bool false, .slice none 0 0]) (by simp [results, Tryz.results18, go_sem, c0, c1, c2, c3]) rfl ?_
 have hq : QCan w2 w1.heap.size b A n c false none 0 0 (z : Rat) := ⟨HZ.out, zcan_zero _ _⟩
 exact ⟨_, _, _, _, _, _, _, _, rfl, retQ_fill (Nat.le_refl _) hsz hq HE.out _ _ _ _⟩
theorem list_ne_at {xs ys : List Nat} {k : Nat} (hx : xs.getD k 0 ≠ ys.getD k 0) : xs ≠ ys := fun e => hx (by rw [e])
theorem list_eq_of {xs ys : List Nat} {n : Nat} (h1 : xs.length = n) (h2 : ys.length = n) (h : ∀ j, j < n → xs.getD j 0 = ys.getD j 0) : xs = ys := by
 refine List.ext_getElem (by omega) fun i hi hi' => ?_
 have := h i (by omega)
 simpa [List.getD, hi, hi'] using this
set_option maxRecDepth 100000 in
set_option maxHeartbeats 4000000 in
theorem rsame_any (a : Bool) (A : Option Addr) (n c : Nat) (xs : List Nat) (b : Bool) (B : Option Addr) (m d : Nat) (ys : List Nat) (w : World) (hx : WordsAt w A n xs) (hy : WordsAt w B m ys) (hn : n ≤ 1073741824) :
  Calls Tryz.prog 40 #[.agg #[.bool a, .slice A n c], .agg #[.bool b, .slice B m d]] w fun e w' => e = .returned (.bool (decide (a = b ∧ xs = ys))) ∧ Ext w w' := by
 have HX := LH hx
 have HY := LH hy
 clear hx hy
 by_cases hab : a = b
 ·subst hab
  by_cases hnm : n = m
  ·subst hnm
   cases a
   ·go_enter Tryz.func40, Tryz.ntmps40
    go_wp2_with fail
    obtain ⟨k0, k1, hE⟩ := two2 w (.bool false) (.slice A n c) (.bool false) (.slice B n d) 27
    generalize ((w.alloc (.cells #[.bool false, .slice A n c] 27)).alloc (.cells #[.bool false, .slice B n d] 27)) = w1 at *
    have K0 := LH k0
    have K1 := LH k1
    have HE := LH hE
    clear k0 k1 hE
    go_loopw [5] (fun i wr => ∃ k : Nat, k ≤ n ∧ i = .int .i64 k ∧ Hid ((∀ j, j < k → xs.getD j 0 = ys.getD j 0) ∧ Ext w1 wr)) (fun i _ => n - (intOf i).toNat)
    case atStart => exact ⟨0, by omega, rfl, fun j hj => by omega, Ext.rfl'⟩
    case round =>
     obtain ⟨k, hk, rfl, HI⟩ := hrel
     obtain ⟨p0, p1, _, _, _⟩ := K0.out.ext HI.out.2
     obtain ⟨q0, q1, _, _, _⟩ := K1.out.ext HI.out.2
     by_cases hlt : k < n
     ·obtain ⟨b', off, hA', hb', hcell⟩ := HX.out.2.2 (by omega)
      obtain ⟨b2, off2, hB', hb2, hcell2⟩ := HY.out.2.2 (by omega)
      subst hA' hB'
      have c1 := Ext.cellOf (ET HE.out HI.out.2) (hcell k hlt)
      have c2 := Ext.cellOf (ET HE.out HI.out.2) (hcell2 k hlt)
      have hbv : decide ((k : Int) < (n : Int)) = true := by simp; omega
      have HNE := LH (@list_ne_at xs ys k)
      have HEQ : Hid (xs.getD k 0 = ys.getD k 0 → ∀ j, j < k + 1 → xs.getD j 0 = ys.getD j 0) := fun e j hj => by
       by_cases hj2 : j = k
       ·rw [hj2]; exact e
       ·exact HI.out.1 j (by omega)
      generalize xs.getD k 0 = x at *
      generalize ys.getD k 0 = y at *
      have HEr := LH HI.out.2
      clear hcell hcell2 HI
      by_cases hxy : x = y
      ·have HQ := LH (HEQ.out hxy)
       subst hxy
       clear HEQ HNE
       have hnb : ((x : Int) != (x : Int)) = false := by simp
       go_wp2_with fail
       go_quiet (fail)
       go_wp2_with fail
       go_roundw
       case rel => exact ⟨k + 1, by omega, by go_num, HQ.out, below_drewN HEr.out _⟩
       case measure => simp [intOf]; omega
      ·have HQ := LH (HNE.out hxy)
       have hnb : ((x : Int) != (y : Int)) = true := by simp; omega
       clear HEQ HNE hxy
       go_wp2_with fail
       go_quiet (fail)
       go_wp2_with fail
       go_ret
       exact ⟨ret_bool' (by simp [HQ.out]), ET HE.out (below_drewN HEr.out _)⟩
     ·have hbv : decide ((k : Int) < (n : Int)) = false := by simp; omega
      have HQ : Hid (xs = ys) := list_eq_of HX.out.1 HY.out.1 (fun j hj => HI.out.1 j (by omega))
      have HEr := LH HI.out.2
      clear HI
      go_wp2_with fail
      go_ret
      exact ⟨ret_bool' (by simp [HQ.out]), ET HE.out HEr.out⟩
   ·go_enter Tryz.func40, Tryz.ntmps40
    go_wp2_with fail
    obtain ⟨k0, k1, hE⟩ := two2 w (.bool true) (.slice A n c) (.bool true) (.slice B n d) 27
    generalize ((w.alloc (.cells #[.bool true, .slice A n c] 27)).alloc (.cells #[.bool true, .slice B n d] 27)) = w1 at *
    have K0 := LH k0
    have K1 := LH k1
    have HE := LH hE
    clear k0 k1 hE
    go_loopw [5] (fun i wr => ∃ k : Nat, k ≤ n ∧ i = .int .i64 k ∧ Hid ((∀ j, j < k → xs.getD j 0 = ys.getD j 0) ∧ Ext w1 wr)) (fun i _ => n - (intOf i).toNat)
    case atStart => exact ⟨0, by omega, rfl, fun j hj => by omega, Ext.rfl'⟩
    case round =>
     obtain ⟨k, hk, rfl, HI⟩ := hrel
     obtain ⟨p0, p1, _, _, _⟩ := K0.out.ext HI.out.2
     obtain ⟨q0, q1, _, _, _⟩ := K1.out.ext HI.out.2
     by_cases hlt : k < n
     ·obtain ⟨b', off, hA', hb', hcell⟩ := HX.out.2.2 (by omega)
      obtain ⟨b2, off2, hB', hb2, hcell2⟩ := HY.out.2.2 (by omega)
      subst hA' hB'
      have c1 := Ext.cellOf (ET HE.out HI.out.2) (hcell k hlt)
      have c2 := Ext.cellOf (ET HE.out HI.out.2) (hcell2 k hlt)
      have hbv : decide ((k : Int) < (n : Int)) = true := by simp; omega
      have HNE := LH (@list_ne_at xs ys k)
      have HEQ : Hid (xs.getD k 0 = ys.getD k 0 → ∀ j, j < k + 1 → xs.getD j 0 = ys.getD j 0) := fun e j hj => by
       by_cases hj2 : j = k
       ·rw [hj2]; exact e
       ·exact HI.out.1 j (by omega)
      generalize xs.getD k 0 = x at *
      generalize ys.getD k 0 = y at *
      have HEr := LH HI.out.2
      clear hcell hcell2 HI
      by_cases hxy : x = y
      ·have HQ := LH (HEQ.out hxy)
       subst hxy
       clear HEQ HNE
       have hnb : ((x : Int) != (x : Int)) = false := by simp
       go_wp2_with fail
       go_quiet (fail)
       go_wp2_with fail
       go_roundw
       case rel => exact ⟨k + 1, by omega, by go_num, HQ.out, below_drewN HEr.out _⟩
       case measure => simp [intOf]; omega
      ·have HQ := LH (HNE.out hxy)
       have hnb : ((x : Int) != (y : Int)) = true := by simp; omega
       clear HEQ HNE hxy
       go_wp2_with fail
       go_quiet (fail)
       go_wp2_with fail
       go_ret
       exact ⟨ret_bool' (by simp [HQ.out]), ET HE.out (below_drewN HEr.out _)⟩
     ·have hbv : decide ((k : Int) < (n : Int)) = false := by simp; omega
      have HQ : Hid (xs = ys) := list_eq_of HX.out.1 HY.out.1 (fun j hj => HI.out.1 j (by omega))
      have HEr := LH HI.out.2
      clear HI
      go_wp2_with fail
      go_ret
      exact ⟨ret_bool' (by simp [HQ.out]), ET HE.out HEr.out⟩
  ·have hb : ((n : Int) != (m : Int)) = true := by simp; omega
   have hb2 : (n != m) = true := by simp; omega
   have HQ : Hid (xs ≠ ys) := fun e => hnm (by rw [← HX.out.1, ← HY.out.1, e])
   clear hnm
   cases a
   all_goals
    go_enter Tryz.func40, Tryz.ntmps40
    go_wp2_with fail
    go_ret
    exact ⟨ret_bool' (by simp [HQ.out]), Ext.al (Ext.al Ext.rfl' _) _⟩
 ·have HQ := LH hab
  have hb : (a != b) = true := by simp [hab]
  cases a <;> cases b <;> simp at hb
  all_goals
   clear hab
   go_enter Tryz.func40, Tryz.ntmps40
   go_wp2_with fail
   go_ret
   exact ⟨ret_bool' (by simp), Ext.al (Ext.al Ext.rfl' _) _⟩
end Go.Proofs.YtjinpfnefeiooaaGreat
namespace Go.Proofs.YtjinpfnefeiooaaGreat
open Go.RowKit

theorem can_same (x y : Int) : (decide (x < 0) = decide (y < 0) ∧ wordsOf x.natAbs = wordsOf y.natAbs) ↔ x = y := by
 constructor
 ·rintro ⟨h1, h2⟩
  have h3 : x.natAbs = y.natAbs := by rw [← natOf_wordsOf x.natAbs, h2, natOf_wordsOf]
  have h4 : x < 0 ↔ y < 0 := by simpa using h1
  omega
 ·rintro rfl
  exact ⟨rfl, rfl⟩
theorem q_parts (p q : Rat) : p = q ↔ p.num = q.num ∧ denOf p = denOf q := by
 constructor
 ·rintro rfl
  exact ⟨rfl, rfl⟩
 ·rintro ⟨h1, h2⟩
  rw [← qOf_self p, ← qOf_self q, h1, h2]
set_option maxRecDepth 100000 in
set_option maxHeartbeats 4000000 in
theorem ris_any (s1 : Bool) (A1 : Option Addr) (n1 c1 : Nat) (t1 : Bool) (B1 : Option Addr) (m1 d1 : Nat) (p : Rat) (s2 : Bool) (A2 : Option Addr) (n2 c2 : Nat) (t2 : Bool) (B2 : Option Addr) (m2 d2 : Nat) (q : Rat) (b1 b2 : Nat) (w : World) (h1 : QCan w b1 s1 A1 n1 c1 t1 B1 m1 d1 p) (h2 : QCan w b2 s2 A2 n2 c2 t2 B2 m2 d2 q) (l1 : n1 ≤ 1073741824) (l2 : m1 ≤ 1073741824) :
  Calls Tryz.prog 12 #[.agg #[.bool s1, .slice A1 n1 c1, .bool t1, .slice B1 m1 d1], .agg #[.bool s2, .slice A2 n2 c2, .bool t2, .slice B2 m2 d2]] w fun e w' => e = .returned (.bool (decide (p = q))) ∧ Ext w w' := by
 have HN : Hid ((s1 = s2 ∧ wordsOf p.num.natAbs = wordsOf q.num.natAbs) ↔ p.num = q.num) := by unfold Hid; rw [h1.1.1, h2.1.1]; exact can_same _ _
 have HD : Hid ((t1 = t2 ∧ wordsOf (denOf p).natAbs = wordsOf (denOf q).natAbs) ↔ denOf p = denOf q) := by unfold Hid; rw [h1.2.1, h2.2.1]; exact can_same _ _
 have HPQ := LH (q_parts p q)
 have H1 := LH h1
 have H2 := LH h2
 clear h1 h2
 go_enter Tryz.func12, Tryz.ntmps12
 go_wp2_with fail
 obtain ⟨k1, k2, hE⟩ := boxQ2 w (.bool s1) (.slice A1 n1 c1) (.bool t1) (.slice B1 m1 d1) (.bool s2) (.slice A2 n2 c2) (.bool t2) (.slice B2 m2 d2) 29
 generalize (w.alloc (.cells #[.bool s1, .slice A1 n1 c1, .bool t1, .slice B1 m1 d1] 29)).alloc (.cells #[.bool s2, .slice A2 n2 c2, .bool t2, .slice B2 m2 d2] 29) = w1 at *
 refine (rsame_any s1 A1 n1 c1 _ s2 A2 n2 c2 _ w1 (H1.out.ext hE).1.2.1 (H2.out.ext hE).1.2.1 l1).mono ?_
 rintro e w2 ⟨rfl, hE2⟩
 obtain ⟨⟨g0, g1, g2, g3⟩, _, _⟩ := k1.ext hE2
 obtain ⟨⟨i0, i1, i2, i3⟩, _, _⟩ := k2.ext hE2
 have hE12 := ET hE hE2
 by_cases e1 : p.num = q.num
 ·rw [decide_eq_true (HN.out.2 e1)]
  have HE1 := LH e1
  clear e1
  go_wp2_with fail
  refine (rsame_any t1 B1 m1 d1 _ t2 B2 m2 d2 _ w2 (H1.out.ext hE12).2.2.1 (H2.out.ext hE12).2.2.1 l2).mono ?_
  rintro e w3 ⟨rfl, hE3⟩
  have HB : Hid (decide (t1 = t2 ∧ wordsOf (denOf p).natAbs = wordsOf (denOf q).natAbs) = decide (p = q)) := by
   refine decide_eq_decide.2 (HD.out.trans ?_)
   rw [HPQ.out]
   exact ⟨fun h => ⟨HE1.out, h⟩, fun h => h.2⟩
  rw [HB.out]
  obtain ⟨bb, hbb⟩ : ∃ v, decide (p = q) = v := ⟨_, rfl⟩
  rw [hbb]
  have HBB := LH hbb
  clear hbb
  go_wp2_with fail
  go_ret
  exact ⟨ret_bool' HBB.out.symm, ET hE12 hE3⟩
 ·rw [decide_eq_false (fun e => e1 (HN.out.1 e))]
  have HB : Hid (decide (p = q) = false) := decide_eq_false (fun e => e1 (HPQ.out.1 e).1)
  clear e1
  go_wp2_with fail
  go_ret
  exact ⟨ret_bool' HB.out.symm, hE12⟩
end Go.Proofs.YtjinpfnefeiooaaGreat
