/- Contracts of frac.cut, IsCanonical (whole, frac) and frac.Parse. Printed by gen_txq.py. -/
import Derived.Test.YtnofbjcikfofgaaGreatTxR
namespace Go.Proofs.YtnofbjcikfofgaaGreat
open Go.RowKit

theorem cutI_le (l : Bs) : cutI l ≤ l.length := by unfold cutI; exact (List.takeWhile_sublist _).length_le
theorem cutI_go {s : ByteArray} {k : Nat} (h : k < s.size) (hk : k ≤ cutI s.data.toList) : (cutI s.data.toList = k ∧ s[k].toNat = 47) ∨ (k + 1 ≤ cutI s.data.toList ∧ s[k].toNat ≠ 47) := by
  have h' : k < s.data.toList.length := by simpa using h
  obtain ⟨a, x, b, e, ha, hx⟩ : ∃ a x b, s.data.toList = a ++ x :: b ∧ a.length = k ∧ x = s[k] := ⟨s.data.toList.take k, s.data.toList[k], s.data.toList.drop (k + 1), by rw [← List.drop_eq_getElem_cons h', List.take_append_drop], by rw [List.length_take]; omega, rfl⟩
  rw [← hx]
  rw [e] at hk ⊢
  have hall : ∀ c ∈ a, (c != 47) = true := by
    unfold cutI at hk
    clear e hx h' h
    induction a generalizing k with
    | nil => intro c hc; cases hc
    | cons y ys ih =>
      by_cases hy : (y != 47) = true
      · intro c hc
        rcases List.mem_cons.1 hc with rfl | hc
        · exact hy
        · rw [List.cons_append, List.takeWhile_cons_of_pos (p := fun c : UInt8 => c != 47) hy, List.length_cons] at hk
          rw [List.length_cons] at ha
          exact ih (k := k - 1) (by omega) (by omega) c hc
      · rw [List.cons_append, List.takeWhile_cons_of_neg (p := fun c : UInt8 => c != 47) hy] at hk
        rw [List.length_cons] at ha
        simp at hk
        omega
  have e2 : cutI (a ++ x :: b) = k + cutI (x :: b) := by
    unfold cutI
    rw [List.takeWhile_append_of_pos hall, List.length_append, ha]
  rw [e2]
  by_cases hx47 : x = 47
  · left
    subst hx47
    exact ⟨by simp [cutI], rfl⟩
  · right
    have h2 : (x != 47) = true := by simpa using hx47
    have e3 : cutI (x :: b) = cutI b + 1 := by unfold cutI; rw [List.takeWhile_cons_of_pos (p := fun c : UInt8 => c != 47) h2, List.length_cons]
    refine ⟨by omega, fun h => hx47 (UInt8.toNat_inj.1 (by rw [h]; rfl))⟩
def cutA (l : Bs) : Bs := l.take (cutI l)
def cutB (l : Bs) : Bs := if cutI l = l.length then [] else l.drop (cutI l + 1)
def cutS (l : Bs) : Bool := !decide (cutI l = l.length)
theorem ret_ssb {a b c d : ByteArray} {x y : Bool} (h : a = b) (k : c = d) (l : x = y) : Ending.returned (.tuple #[.string a, .string c, .bool x]) = .returned (.tuple #[.string b, .string d, .bool y]) := by rw [h, k, l]
set_option maxRecDepth 100000 in
set_option maxHeartbeats 4000000 in
theorem fcut_any (s : ByteArray) (w : World) (hs : s.size ≤ maxLen) :
    Calls Tryz.prog 93 #[.string s] w fun e w' => e = .returned (.tuple #[.string (bs (cutA s.data.toList)), .string (bs (cutB s.data.toList)), .bool (cutS s.data.toList)]) ∧ Ext w w' := by
  unfold maxLen at hs
  have HC := Lib.hid (cutI_le s.data.toList)
  have HL := Lib.hid (len_list s)
  go_enter Tryz.func93, Tryz.ntmps93
  go_wp2_with fail
  go_step3
  go_wp2_with fail
  go_step3
  go_wp2_with fail
  go_loopw [2, 3, 4, 5, 9] (fun f g b _ i wr => ∃ j : Nat, j ≤ s.size ∧ f = .string s ∧ g = .string ⟨#[]⟩ ∧ b = .bool false ∧ i = .int .i64 (j : Int) ∧ Hid (j ≤ cutI s.data.toList) ∧ wr = w) (fun _ _ _ _ i _ => s.size - (intOf i).toNat)
  case atStart => exact ⟨0, by omega, rfl, rfl, rfl, rfl, Nat.zero_le _, rfl⟩
  case round =>
    obtain ⟨j, hj, rfl, rfl, rfl, rfl, HJ, rfl⟩ := hrel
    by_cases hlt : j < s.size
    · have hbv : decide ((j : Int) < (s.size : Int)) = true := decide_eq_true (by omega)
      have hbv2 : decide (j < s.size) = true := decide_eq_true (by omega)
      have hz0 : (0 : Int) ≤ (j : Int) := by omega
      have hzn : (j : Int) < (s.size : Int) := by omega
      rcases cutI_go hlt HJ.out with ⟨h1, h2⟩ | ⟨h1, h2⟩
      · have HI := Lib.hid h1
        have h47 : ((s[j].toNat : Int) == 47) = true := by simp; omega
        have h47' : (s[j].toNat : Int) = 47 := by omega
        clear h1 h2
        have ha : Hid (bs (cutA s.data.toList) = s.extract 0 j) := by
          unfold Hid cutA
          rw [ext_bs, HI.out, List.drop_zero, Nat.sub_zero]
        have hb : Hid (bs (cutB s.data.toList) = s.extract (j + 1) s.size) := by
          unfold Hid cutB
          rw [ext_bs, HI.out, HL.out, if_neg (by omega), List.take_of_length_le]
          rw [List.length_drop, HL.out]
          omega
        have hc : Hid (cutS s.data.toList = true) := by unfold Hid cutS; rw [HI.out, HL.out]; simp; omega
        have w1 : IntKind.i64.wrap ((j : Int) + 1) = (j : Int) + 1 := by rw [i64_wrap]; omega
        have w2 : (0 : Int) ≤ (j : Int) + 1 := by omega
        have w3 : ((j : Int) + 1).toNat = j + 1 := by omega
        have w4 : (j : Int) + 1 ≤ (s.size : Int) := by omega
        go_wp2_with fail
        refine wp_region_ext (by kernel_rfl) (by kernel_rfl) ?_
        repeat (go_big_quiet_step (fail))
        refine wpQuiet_nil ?_
        rintro _ ⟨x, rfl⟩
        have HX := Lib.hid x.h
        generalize x.w = w2 at *
        go_wp2_with fail
        rw [Exit.noGoto_ret]
        refine bodyPost_ret (v := .tuple #[.string (s.extract 0 j), .string (s.extract (j + 1) s.size), .bool true]) (by simp [results, Tryz.results93, go_sem]) rfl ?_
        exact ⟨ret_ssb ha.out.symm hb.out.symm hc.out.symm, HX.out⟩
      · have h47 : ((s[j].toNat : Int) == 47) = false := by simp; omega
        have HI := Lib.hid h1
        clear h1 h2
        go_wp2_with fail
        go_roundw
        case rel => exact ⟨j + 1, by omega, by first | rfl | trivial, by first | rfl | trivial, by first | rfl | trivial, by go_num, HI.out, by first | rfl | trivial⟩
        case measure => simp [intOf]; omega
    · have hbv : decide ((j : Int) < (s.size : Int)) = false := decide_eq_false (by omega)
      have hbv2 : decide (j < s.size) = false := decide_eq_false (by omega)
      have HI : Hid (cutI s.data.toList = s.size) := by unfold Hid; have := HJ.out; have := HC.out; have := HL.out; omega
      have ha : Hid (bs (cutA s.data.toList) = s) := by
        unfold Hid cutA
        rw [HI.out, List.take_of_length_le (by rw [HL.out]; exact Nat.le_refl _), bs_self]
      have hb : Hid (bs (cutB s.data.toList) = ⟨#[]⟩) := by unfold Hid cutB; rw [if_pos (by rw [HI.out, HL.out])]; rfl
      have hc : Hid (cutS s.data.toList = false) := by unfold Hid cutS; rw [HI.out, HL.out]; simp
      go_wp2_with fail
      rw [Exit.noGoto_ret]
      refine bodyPost_ret (v := .tuple #[.string s, .string ⟨#[]⟩, .bool false]) (by simp [results, Tryz.results93, go_sem]) rfl ?_
      exact ⟨ret_ssb ha.out.symm hb.out.symm hc.out.symm, Ext.rfl'⟩

theorem canB_yes {z y : Int} (h : 1 < y) : canB z y = decide (cmpZ (Int.gcd z y : Nat) 1 = 0) := by
  unfold canB
  rw [decide_eq_true h, Bool.true_and]
  refine decide_eq_decide.2 ?_
  show Int.gcd z y = 1 ↔ _
  unfold cmpZ
  have : 0 < Int.gcd z y := Int.gcd_pos_of_ne_zero_right _ (by omega)
  split
  · constructor
    · intro; omega
    · intro h; cases h
  · split
    · constructor
      · intro; omega
      · intro h; cases h
    · constructor
      · intro; rfl
      · intro; omega
set_option maxRecDepth 100000 in
set_option maxHeartbeats 4000000 in
theorem qcanB_any (s1 : Bool) (A1 : Option Addr) (n1 c1 : Nat) (z : Int) (t1 : Bool) (B1 : Option Addr) (m1 d1 : Nat) (y : Int) (B0 B2 : Nat) (w : World) (hz : ZCan w B0 s1 A1 n1 c1 z) (hy : ZCan w B2 t1 B1 m1 d1 y) (hn : n1 ≤ 33554432) (hm : m1 ≤ 33554432) (hy0 : y ≠ 0) :
    Calls Tryz.prog 95 #[.agg #[.bool s1, .slice A1 n1 c1, .bool t1, .slice B1 m1 d1]] w fun e w' => e = .returned (.bool (canB z y)) ∧ Ext w w' := by
  have HZ := Lib.hid hz
  have HY := Lib.hid hy
  clear hz hy
  go_enter Tryz.func95, Tryz.ntmps95
  go_wp2_with fail
  have k0 := Cell4.new w _ rfl (.bool s1) (.slice A1 n1 c1) (.bool t1) (.slice B1 m1 d1) 51
  have hE : Ext w (w.alloc (.cells #[.bool s1, .slice A1 n1 c1, .bool t1, .slice B1 m1 d1] 51)) := Ext.al Ext.rfl' _
  generalize w.alloc (.cells #[.bool s1, .slice A1 n1 c1, .bool t1, .slice B1 m1 d1] 51) = w1 at *
  refine (zisCan_any s1 A1 n1 c1 _ B0 w1 (HZ.out.ext hE)).mono ?_
  rintro e w2 ⟨rfl, hE2⟩
  have hE12 := Ext.trans hE hE2
  obtain ⟨⟨g0, g1, g2, g3⟩, _, hl⟩ := k0.ext hE2
  go_wp2_with fail
  refine (zisCan_any t1 B1 m1 d1 _ B2 w2 (HY.out.ext hE12)).mono ?_
  rintro e w3 ⟨rfl, hE3⟩
  have HE := Lib.hid (Ext.trans hE12 hE3)
  have K := Lib.hid ((k0.ext hE2).ext hE3)
  clear hE hE2 hE12 hE3 k0 g0 g1 g2 g3 hl
  obtain ⟨⟨g0, g1, g2, g3⟩, _, hl⟩ := K.out
  have h0 : m1 ≠ 0 := fun e => by
    have := HY.out.2.1.1
    rw [e] at this
    have := wordsOf_eq_nil.1 this
    omega
  have hb : ((m1 : Int) == 0) = false := by simp; omega
  go_wp2_with fail
  refine (fromInt_any 1 w3 ⟨by omega, by omega⟩).mono ?_
  rintro e w4 ⟨b4, A4, n4, c4, rfl, hZ4, hE4⟩
  have hn4 : n4 ≤ 2 := i64_words ⟨by omega, by omega⟩ hZ4
  have K4 := Lib.hid (K.out.ext hE4)
  have hsz : w.heap.size < w4.heap.size := K4.out.2.2
  go_wp2_with fail
  have k5 := Cell2.new w4 _ rfl (.bool b4) (.slice A4 n4 c4) 49
  have hE5 : Ext w4 (w4.alloc (.cells #[.bool b4, .slice A4 n4 c4] 49)) := Ext.al Ext.rfl' _
  generalize w4.alloc (.cells #[.bool b4, .slice A4 n4 c4] 49) = w5 at *
  have hE6 : Ext w5 w5.drew := Ext.rfl'.drew
  refine wp_region_lexS (C := InX w5.drew []) (by kernel_rfl) (by kernel_rfl) (inX_self _ _) ?_
  generalize w5.drew = wd at *
  have hE46 := Ext.trans hE5 hE6
  have L := Lib.hid (K4.out.ext hE46)
  have L5 := Lib.hid (k5.ext hE6)
  have HE6 := Lib.hid (Ext.trans HE.out (Ext.trans hE4 hE46))
  have HZ4 := Lib.hid (hZ4.ext hE46)
  clear hE4 hE5 hE6 hE46 K4 k5 HE hZ4 g0 g1 g2 g3 K hl
  have x0 := fun y : ExtX wd [] => y.cell (p := ⟨w.heap.size, 0, none⟩) L.out.1.1 (by simp)
  have x1 := fun y : ExtX wd [] => y.cell (p := ⟨w.heap.size, 1, none⟩) L.out.1.2.1 (by simp)
  have x2 := fun y : ExtX wd [] => y.cell (p := ⟨w.heap.size, 2, none⟩) L.out.1.2.2.1 (by simp)
  have x3 := fun y : ExtX wd [] => y.cell (p := ⟨w.heap.size, 3, none⟩) L.out.1.2.2.2 (by simp)
  have x4 := fun y : ExtX wd [] => y.cell (p := ⟨w4.heap.size, 0, none⟩) L5.out.1 (by simp)
  have x5 := fun y : ExtX wd [] => y.cell (p := ⟨w4.heap.size, 1, none⟩) L5.out.2.1 (by simp)
  have HC1 := Lib.hid (canB_yes (z := z) (y := y))
  have HC0 : Hid (¬ 1 < y → canB z y = false) := fun h => by unfold canB; rw [decide_eq_false h]; rfl
  have HCO : Hid (1 < y → cmpZ y 1 = 1) := fun h => cmpZ_one h
  have HCN : Hid (¬ 1 < y → cmpZ y 1 = 0 ∨ cmpZ y 1 = -1) := fun h => by unfold cmpZ; split <;> simp_all
  repeat (refine lexAt_still (by rfl) ?_; go_big_quiet_step (fail); refine wpQuiet_nil ?_)
  refine lexAt_move (by rfl) (by kernel_rfl) ?_
  go_wp2_with fail
  refine (cmp_any t1 B1 m1 d1 y b4 A4 n4 c4 1 wd (HY.out.ext HE6.out).is HZ4.out.is (by omega) (by omega)).mono ?_
  rintro e w7 ⟨rfl, hE7⟩
  by_cases h1y : 1 < y
  · rw [HCO.out h1y]
    have HR := Lib.hid (HC1.out h1y)
    clear HC0 HCN HC1
    go_wp2_with fail
    refine And.intro (inX_of_ext _ hE7) ?_
    repeat (refine lexAt_still (by rfl) ?_; go_big_quiet_step (fail); refine wpQuiet_nil ?_)
    refine lexAt_move (by rfl) (by kernel_rfl) ?_
    go_wp2_with fail
    refine (gcd_any s1 A1 n1 c1 z t1 B1 m1 d1 y w7 ((HZ.out.ext HE6.out).ext hE7).is ((HY.out.ext HE6.out).ext hE7).is (by omega) (by omega)).mono ?_
    rintro e w8 ⟨b8, A8, n8, c8, rfl, hZ8, hE8⟩
    have hn8 : n8 ≤ 1073741824 := by
      have hl8 := hZ8.2.1.1
      have hly := HY.out.2.1.1
      have hle : (wordsOf (Int.natAbs ((Int.gcd z y : Nat) : Int))).length ≤ (wordsOf y.natAbs).length := wordsOf_mono (by
        rw [Int.natAbs_natCast]
        exact Nat.le_of_dvd (by omega) (Nat.gcd_dvd_right _ _))
      omega
    have hE78 := Ext.trans hE7 hE8
    go_wp2_with fail
    refine And.intro (inX_of_ext _ hE78) ?_
    repeat (refine lexAt_still (by rfl) ?_; go_big_quiet_step (fail); refine wpQuiet_nil ?_)
    refine lexAt_move (by rfl) (by kernel_rfl) ?_
    go_wp2_with fail
    refine (cmp_any b8 A8 n8 c8 _ b4 A4 n4 c4 1 w8 hZ8.is (HZ4.out.ext hE78).is (by omega) (by omega)).mono ?_
    rintro e w9 ⟨rfl, hE9⟩
    have hE79 := Ext.trans hE78 hE9
    obtain ⟨cv, hcv⟩ : ∃ v, cmpZ ((Int.gcd z y : Nat) : Int) 1 = v := ⟨_, rfl⟩
    rw [hcv] at HR ⊢
    clear hcv
    by_cases hc0 : cv = 0
    · have HR2 : Hid (true = canB z y) := by unfold Hid; rw [HR.out, decide_eq_true hc0]
      have hcb : (cv == 0) = true := by simp [hc0]
      clear hc0 HR
      go_wp2_with fail
      refine And.intro (inX_of_ext _ hE79) ?_
      repeat (refine lexAt_still (by rfl) ?_; go_big_quiet_step (fail); refine wpQuiet_nil ?_)
      refine lexAt_nil ?_
      go_wp2_with fail
      go_ret
      exact ⟨ret_b HR2.out, Ext.trans HE6.out hE79⟩
    · have HR2 : Hid (false = canB z y) := by unfold Hid; rw [HR.out, decide_eq_false hc0]
      have hcb : (cv == 0) = false := by simp [hc0]
      clear HR
      go_wp2_with fail
      refine And.intro (inX_of_ext _ hE79) ?_
      repeat (refine lexAt_still (by rfl) ?_; go_big_quiet_step (fail); refine wpQuiet_nil ?_)
      refine lexAt_nil ?_
      go_wp2_with fail
      go_ret
      exact ⟨ret_b HR2.out, Ext.trans HE6.out hE79⟩
  · have HR := Lib.hid (HC0.out (Int.not_lt.1 h1y))
    have hcc := HCN.out (Int.not_lt.1 h1y)
    clear HC0 HCN HC1
    rcases hcc with hcc | hcc
    all_goals
      rw [hcc]
      clear hcc
      go_wp2_with fail
      refine And.intro (inX_of_ext _ hE7) ?_
      iterate 2 (refine lexAt_still (by rfl) ?_; go_big_quiet_step (fail); refine wpQuiet_nil ?_)
      iterate 8 (refine lexAt_skip (by kernel_rfl) ?_; simp only [Act.put, List.setIfInBounds_toArray, List.set_cons_succ, List.set_cons_zero])
      iterate 2 (refine lexAt_still (by rfl) ?_; go_big_quiet_step (fail); refine wpQuiet_nil ?_)
      refine lexAt_nil ?_
      go_wp2_with fail
      go_ret
      exact ⟨ret_b HR.out.symm, Ext.trans HE6.out hE7⟩

end Go.Proofs.YtnofbjcikfofgaaGreat
