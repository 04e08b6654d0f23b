/- step.Allocate and step.Cost at rationals of up to 2^20 words; how long a cost is. Printed by gen_costl.py. -/
import Derived.Test.YtfokholpgakjpaaVarT
namespace Go.Proofs.Ytfokholpgakjpaa
open Go.RowKit

theorem szL_rest {q : Rat} {xs : List (Int × Int)} (hq : Sz 1048576 q) (hr : ∀ x ∈ xs, 1 ≤ x.1 ∧ x.1 ≤ 1000000 ∧ -1000000 ≤ x.2 ∧ x.2 ≤ 1000000) : ∀ k, k ≤ xs.length → Sz (1048577 * 2 ^ k - 1) (restR q (xs.take k))
  | 0, _ => by simpa [restR] using hq
  | k + 1, hk => by
    have ih := szL_rest hq hr k (by omega)
    have hp := pow2_pos k
    have hm : xs.getD k (0, 0) ∈ xs := by simp [List.getD, show k < xs.length by omega]
    have h1 := hr _ hm
    rw [rest_succ (by omega)]
    have hs : Sz 1 (((xs.getD k (0, 0)).1 : Int) : Rat) := sz_small (by omega) (by omega)
    refine (ih.sub (ih.min hs (by omega))).mono ?_
    rw [Nat.pow_succ]
    omega
theorem szL_part {q : Rat} {xs : List (Int × Int)} (hq : Sz 1048576 q) (hr : ∀ x ∈ xs, 1 ≤ x.1 ∧ x.1 ≤ 1000000 ∧ -1000000 ≤ x.2 ∧ x.2 ≤ 1000000) (k : Nat) (hk : k < xs.length) : Sz (1048577 * 2 ^ k - 1) (partAt q xs k) := by
  have ih := szL_rest hq hr k (by omega)
  have hp := pow2_pos k
  have hm : xs.getD k (0, 0) ∈ xs := by simp [List.getD, show k < xs.length by omega]
  have h1 := hr _ hm
  have hs : Sz 1 (((xs.getD k (0, 0)).1 : Int) : Rat) := sz_small (by omega) (by omega)
  exact ih.min hs (by omega)
theorem szL_cost {q : Rat} {xs : List (Int × Int)} (hq : Sz 1048576 q) (hr : ∀ x ∈ xs, 1 ≤ x.1 ∧ x.1 ≤ 1000000 ∧ -1000000 ≤ x.2 ∧ x.2 ≤ 1000000) : ∀ k, k ≤ xs.length → Sz (1048579 * 2 ^ k) (costTo q xs k)
  | 0, _ => sz_zero.mono (by decide)
  | k + 1, hk => by
    have ih := szL_cost hq hr k (by omega)
    have hp := pow2_pos k
    have hm : xs.getD k (0, 0) ∈ xs := by simp [List.getD, show k < xs.length by omega]
    have h1 := hr _ hm
    have hs : Sz 1 (((xs.getD k (0, 0)).2 : Int) : Rat) := sz_small (by omega) (by omega)
    refine (ih.add ((szL_part hq hr k (by omega)).mul hs)).mono ?_
    rw [Nat.pow_succ]
    omega
set_option maxRecDepth 100000 in
set_option maxHeartbeats 8000000 in
theorem allocL_any (A : Option Addr) (n c : Nat) (xs : List (Int × Int)) (s1 : Bool) (A1 : Option Addr) (n1 c1 : Nat) (t1 : Bool) (B1 : Option Addr) (m1 d1 : Nat) (q : Rat) (w : World) (hs : StepsAt w A n xs) (hn : n ≤ maxLen) (h1 : QIs w s1 A1 n1 c1 t1 B1 m1 d1 q) (l1 : n1 ≤ 1048576) (l2 : m1 ≤ 1048576) :
    Calls Try.prog 55 #[.slice A n c, .agg #[.bool s1, .slice A1 n1 c1, .bool t1, .slice B1 m1 d1]] w (RetAlloc w xs q) := by
  go_enter Try.func55, Try.ntmps55
  go_wp2_with fail
  have k0 := Cell4.new w _ rfl (.bool s1) (.slice A1 n1 c1) (.bool t1) (.slice B1 m1 d1) 30
  have hE : Ext w (w.alloc (.cells #[.bool s1, .slice A1 n1 c1, .bool t1, .slice B1 m1 d1] 30)) := Ext.al Ext.rfl' _
  generalize w.alloc (.cells #[.bool s1, .slice A1 n1 c1, .bool t1, .slice B1 m1 d1] 30) = w1 at *
  refine (checkCurve_any A n c xs w1 (hs.below hE) hn).mono ?_
  rintro e w2 ⟨rfl, hE2⟩
  by_cases h0 : crv xs = 0
  · have hb : (crv xs != 0) = false := by simp [h0]
    obtain ⟨hl1, hl3, hr⟩ := crv_range h0
    have hn3 : n ≤ 3 := by rw [← hs.1]; exact hl3
    have hn1 : 1 ≤ n := by rw [← hs.1]; exact hl1
    have HAE : Hid (allocE xs q = if q < 0 ∨ ((total xs : Int) : Rat) < q then 1 else 0) := by unfold Hid allocE; rw [if_neg (by simp [h0])]
    have HT := Lib.hid (total_bd xs)
    have HL := Lib.hid hs.1
    have HR := Lib.hid hr
    have HS := Lib.hid (hs.below (Ext.trans hE hE2))
    have K := Lib.hid ((k0.ext hE2).ext (Ext.rfl' (w := w2)).drew)
    have HE2 := Lib.hid (Ext.trans hE hE2)
    have HQ := Lib.hid h1
    have HSZ : Hid (Sz 1048576 q) := h1.sz l1 l2 (by omega)
    have HS0 := Lib.hid hs
    clear h0 hr hl1 hl3 hs k0 hE hE2 h1
    generalize crv xs = cv at *
    have HNEG := Lib.hid (sign_neg_iff q)
    go_wp2_with fail
    refine wp_region_lex (C := InX w2.drew []) (by kernel_rfl) (by kernel_rfl) (inX_self _ _) ?_
    have x0 := fun y : ExtX w2.drew [] => y.cell (p := ⟨w.heap.size, 0, none⟩) K.out.1.1 (by simp)
    have x1 := fun y : ExtX w2.drew [] => y.cell (p := ⟨w.heap.size, 1, none⟩) K.out.1.2.1 (by simp)
    have x2 := fun y : ExtX w2.drew [] => y.cell (p := ⟨w.heap.size, 2, none⟩) K.out.1.2.2.1 (by simp)
    have x3 := fun y : ExtX w2.drew [] => y.cell (p := ⟨w.heap.size, 3, none⟩) K.out.1.2.2.2 (by simp)
    have hE3 : Ext w2 w2.drew := Ext.rfl'.drew
    generalize w2.drew = wd at *
    have HEd := Lib.hid (Ext.trans HE2.out hE3)
    have HSd := Lib.hid (HS.out.below hE3)
    clear HS HE2 hE3
    repeat (refine wpLex_still (by rfl) ?_; go_big_quiet_step (fail); refine wpQuiet_nil ?_)
    refine wpLex_move (by rfl) (by rfl) ?_
    go_wp2_with fail
    refine (qsign_any s1 A1 n1 c1 t1 B1 m1 d1 q wd (HQ.out.ext HEd.out)).mono ?_
    rintro e w3 ⟨rfl, hE3⟩
    obtain ⟨sg, hsg⟩ : ∃ s, q.num.sign = s := ⟨_, rfl⟩
    rw [hsg] at HNEG ⊢
    clear hsg
    go_wp2_with fail
    refine And.intro (inX_of_ext _ hE3) ?_
    by_cases hneg : q < 0
    · have hb2 : decide (sg < 0) = true := decide_eq_true (HNEG.out.2 hneg)
      have HE1 : Hid (allocE xs q = 1) := by unfold Hid; rw [HAE.out, if_pos (.inl hneg)]
      repeat (first | (refine wpLex_still (by rfl) ?_; go_big_quiet_step (fail); refine wpQuiet_nil ?_) | (refine wpLex_skip (by rfl) ?_; simp only [Act.put, List.setIfInBounds_toArray, List.set_cons_succ, List.set_cons_zero]))
      refine wpLex_nil ?_
      go_wp2_with fail
      go_ret2
      refine ⟨Ext.trans HEd.out hE3, _, ret_e HE1.out.symm, fun _ => rfl, fun e => ?_⟩
      rw [HE1.out] at e
      cases e
    · have hb2 : decide (sg < 0) = false := decide_eq_false (fun e => hneg (HNEG.out.1 e))
      repeat (refine wpLex_still (by rfl) ?_; go_big_quiet_step (fail); refine wpQuiet_nil ?_)
      refine wpLex_move (by rfl) (by rfl) ?_
      go_wp2_with fail
      refine (sum_any A n c xs w3 (HSd.out.below hE3) hn).mono ?_
      rintro e w4 ⟨rfl, hE4⟩
      have hE34 := Ext.trans hE3 hE4
      obtain ⟨T, hT⟩ : ∃ T, total xs = T := ⟨_, rfl⟩
      rw [hT] at HT HAE ⊢
      obtain ⟨hT1, hT2⟩ := HT.out
      clear hT
      go_wp2_with fail
      refine And.intro (inX_of_ext _ hE34) ?_
      repeat (refine wpLex_still (by rfl) ?_; go_big_quiet_step (fail); refine wpQuiet_nil ?_)
      refine wpLex_move (by rfl) (by rfl) ?_
      go_wp2_with fail
      refine (qfrom_any T w4 ⟨by omega, by omega⟩).mono ?_
      rintro e w5 ⟨s5, A5, n5, c5, t5, B5, m5, d5, rfl, hQ5, hE5⟩
      have hE35 := Ext.trans hE34 hE5
      have hA5 := hQ5.arg (sz_small (z := T) (by omega) (by omega)) (by omega)
      go_wp2_with fail
      refine And.intro (inX_of_ext _ hE35) ?_
      repeat (refine wpLex_still (by rfl) ?_; go_big_quiet_step (fail); refine wpQuiet_nil ?_)
      refine wpLex_move (by rfl) (by rfl) ?_
      go_wp2_with fail
      refine (qcmp_any s1 A1 n1 c1 t1 B1 m1 d1 q s5 A5 n5 c5 t5 B5 m5 d5 (T : Rat) w5 ⟨(HQ.out.ext HEd.out).ext hE35, by omega, by omega⟩ hA5).mono ?_
      rintro e w6 ⟨rfl, hE6⟩
      have hE36 := Ext.trans hE35 hE6
      have HPOS := Lib.hid (cmpQ_pos q (T : Rat))
      generalize cmpQ q (T : Rat) = cq at *
      by_cases hgt : (T : Rat) < q
      · have hb3 : decide (0 < cq) = true := decide_eq_true (HPOS.out.2 hgt)
        have HE1 : Hid (allocE xs q = 1) := by unfold Hid; rw [HAE.out, if_pos (.inr hgt)]
        go_wp2_with fail
        refine And.intro (inX_of_ext _ hE36) ?_
        repeat (refine wpLex_still (by rfl) ?_; go_big_quiet_step (fail); refine wpQuiet_nil ?_)
        refine wpLex_nil ?_
        clear x0 x1 x2 x3
        have HE6 := Lib.hid (Ext.trans HEd.out hE36)
        have HS6 := Lib.hid (HSd.out.below hE36)
        have K6 := Lib.hid (K.out.ext hE36)
        clear hQ5 hA5 hE3 hE4 hE34 hE5 hE35 hE6 hE36 K HEd HSd
        go_wp2_with fail
        go_ret2
        refine ⟨HE6.out, _, ret_e HE1.out.symm, fun _ => rfl, fun e => ?_⟩
        rw [HE1.out] at e
        cases e
      · have hb3 : decide (0 < cq) = false := decide_eq_false (fun e => hgt (HPOS.out.1 e))
        have HE1 : Hid (allocE xs q = 0) := by unfold Hid; rw [HAE.out, if_neg (by rintro (e | e); exact hneg e; exact hgt e)]
        clear HPOS hgt hneg HNEG HAE
        go_wp2_with fail
        refine And.intro (inX_of_ext _ hE36) ?_
        repeat (refine wpLex_still (by rfl) ?_; go_big_quiet_step (fail); refine wpQuiet_nil ?_)
        refine wpLex_nil ?_
        clear x0 x1 x2 x3
        have HE6 := Lib.hid (Ext.trans HEd.out hE36)
        have HS6 := Lib.hid (HSd.out.below hE36)
        have K6 := Lib.hid (K.out.ext hE36)
        clear hQ5 hA5 hE3 hE4 hE34 hE5 hE35 hE6 hE36 K HEd HSd
        obtain ⟨⟨e0, e1, e2, e3⟩, _, el⟩ := K6.out
        have hmk := make_qs n (by omega)
        go_wp2_with fail
        have k7 := (Cell4.new w6 _ rfl (.bool s1) (.slice A1 n1 c1) (.bool t1) (.slice B1 m1 d1) 30).ext (Ext.al Ext.rfl' (.cells (madeCells #[.bool false, .slice none 0 0, .bool false, .slice none 0 0] (n * 4)) 30))
        have r8 := row4_made (w6.alloc (.cells #[.bool s1, .slice A1 n1 c1, .bool t1, .slice B1 m1 d1] 30)) n #[.bool false, .slice none 0 0, .bool false, .slice none 0 0] 30
        have hE8 : Ext w6 ((w6.alloc (.cells #[.bool s1, .slice A1 n1 c1, .bool t1, .slice B1 m1 d1] 30)).alloc (.cells (madeCells #[.bool false, .slice none 0 0, .bool false, .slice none 0 0] (n * 4)) 30)) := Ext.al (Ext.al Ext.rfl' _) _
        rw [show (w6.alloc (.cells #[.bool s1, .slice A1 n1 c1, .bool t1, .slice B1 m1 d1] 30)).heap.size = w6.heap.size + 1 by simp] at r8
        generalize ((w6.alloc (.cells #[.bool s1, .slice A1 n1 c1, .bool t1, .slice B1 m1 d1] 30)).alloc (.cells (madeCells #[.bool false, .slice none 0 0, .bool false, .slice none 0 0] (n * 4)) 30)) = w8 at *
        have K7 := Lib.hid k7
        have R8 := Lib.hid r8
        have HE8 := Lib.hid (Ext.trans HE6.out hE8)
        have HS8 := Lib.hid (HS6.out.below hE8)
        have hl8 : w6.heap.size + 1 < w8.heap.size := r8.1
        have hl6 : w.heap.size ≤ w6.heap.size := HE6.out.size
        clear k7 r8 hE8 HS6 K6 HE6 e0 e1 e2 e3 hmk
        obtain ⟨b, off, rfl, hlt, hcell⟩ := HS0.out.2 (by omega)
        have HC := Lib.hid hcell
        clear hcell HS8 HS0
        go_loopw [9, 10, 33] (fun _ _ i wr => ∃ k : Nat, k ≤ n ∧ i = .int .i64 k ∧ w8.heap.size ≤ wr.heap.size ∧ Hid (Ext w wr ∧ PartsAt wr w8.heap.size (w6.heap.size + 1) n k (partAt q xs) ∧ ∃ s A m c t B j d, Cell4 wr w6.heap.size (.bool s) (.slice A m c) (.bool t) (.slice B j d) ∧ QArg wr s A m c t B j d (restR q (xs.take k)) ∧ Away w.heap.size w8.heap.size A m ∧ Away w.heap.size w8.heap.size B j)) (fun _ _ i _ => n - (intOf i).toNat)
        case atStart => exact ⟨0, by omega, rfl, Nat.le_refl _, HE8.out, ⟨R8.out, fun i hi => by omega⟩, _, _, _, _, _, _, _, _, K7.out, ⟨HQ.out.ext HE8.out, by omega, by omega⟩, HQ.out.away _⟩
        case round =>
          obtain ⟨k, hk, rfl, hsr, HI⟩ := hrel
          by_cases hlt2 : k < n
          · obtain ⟨hEr, hPr, s, B2, m2, c2, t, B3, m3, d3, hcl, harg, haw1, haw2⟩ := HI.out
            have HAW := Lib.hid (And.intro haw1 haw2)
            obtain ⟨c1', c2'⟩ := HC.out k hlt2
            have d1' := Ext.cellOf hEr c1'
            have d2' := Ext.cellOf hEr c2'
            have hbv : decide ((k : Int) < (n : Int)) = true := by simp; omega
            have hsb : b < wr.heap.size := Nat.lt_of_lt_of_le hlt hEr.size
            have hmem : xs.getD k (0, 0) ∈ xs := by simp [List.getD, show k < xs.length by rw [HL.out]; exact hlt2]
            have hr1 := HR.out _ hmem
            have HPA : Hid (partAt q xs k = minQ (restR q (xs.take k)) ((xs.getD k (0, 0)).1 : Int)) := rfl
            have HRS : Hid (restR q (xs.take (k + 1)) = restR q (xs.take k) - partAt q xs k) := rest_succ (by rw [HL.out]; exact hlt2)
            have HZR : Hid (Sz 33554432 (partAt q xs k) ∧ Sz 33554432 (restR q (xs.take (k + 1)))) := by
              have h8 := pow2_le (show k ≤ 3 by omega)
              have h9 := pow2_le (show k + 1 ≤ 3 by omega)
              exact ⟨(szL_part HSZ.out HR.out k (by rw [HL.out]; exact hlt2)).mono (by omega), (szL_rest HSZ.out HR.out (k + 1) (by rw [HL.out]; omega)).mono (by omega)⟩
            generalize (xs.getD k (0, 0)).1 = qy at *
            generalize (xs.getD k (0, 0)).2 = py at *
            generalize restR q (xs.take k) = rk at *
            obtain ⟨r1, r2, _, _⟩ := hr1
            have HPR := Lib.hid hPr
            have HCL := Lib.hid hcl
            have HAR := Lib.hid harg
            have HER := Lib.hid hEr
            clear hPr hcl harg hEr c1' c2' HI hmem haw1 haw2
            go_wp2_with fail
            have k10 := Cell2.new wr _ rfl (.int .i64 qy) (.int .i64 py) 71
            have hEa : Ext wr (wr.alloc (.cells #[.int .i64 qy, .int .i64 py] 71)).drew := (Ext.al Ext.rfl' _).drew
            have k10' := k10.ext (Ext.rfl' (w := wr.alloc (.cells #[.int .i64 qy, .int .i64 py] 71))).drew
            refine wp_region_lex (C := InX (wr.alloc (.cells #[.int .i64 qy, .int .i64 py] 71)).drew []) (by kernel_rfl) (by kernel_rfl) (inX_self _ _) ?_
            generalize (wr.alloc (.cells #[.int .i64 qy, .int .i64 py] 71)).drew = wa at *
            have L10 := Lib.hid k10'
            have HCLa := Lib.hid (HCL.out.ext hEa)
            have HPRa := Lib.hid (HPR.out.ext hEa)
            have HARa := Lib.hid (HAR.out.ext hEa)
            have HERa := Lib.hid (Ext.trans HER.out hEa)
            have hsa : w8.heap.size ≤ wa.heap.size := Nat.le_trans hsr hEa.size
            clear k10 k10' hEa d1' d2' HCL HPR HAR HER
            have x0 := fun y : ExtX wa [] => y.cell (p := ⟨w6.heap.size, 0, none⟩) HCLa.out.1.1 (by simp)
            have x1 := fun y : ExtX wa [] => y.cell (p := ⟨w6.heap.size, 1, none⟩) HCLa.out.1.2.1 (by simp)
            have x2 := fun y : ExtX wa [] => y.cell (p := ⟨w6.heap.size, 2, none⟩) HCLa.out.1.2.2.1 (by simp)
            have x3 := fun y : ExtX wa [] => y.cell (p := ⟨w6.heap.size, 3, none⟩) HCLa.out.1.2.2.2 (by simp)
            have x4 := fun y : ExtX wa [] => y.cell (p := ⟨wr.heap.size, 0, none⟩) L10.out.1 (by simp)
            have hz0 : (0 : Int) ≤ (k : Int) := by omega
            have hzn : (k : Int) < (n : Int) := by omega
            repeat (refine wpLex_still (by rfl) ?_; go_big_quiet_step (fail); refine wpQuiet_nil ?_)
            refine wpLex_move (by rfl) (by rfl) ?_
            go_wp2_with fail
            refine (qfrom_any qy wa ⟨by omega, by omega⟩).mono ?_
            rintro e w9 ⟨s9, A9, n9, c9, t9, B9, m9, d9, rfl, hQ9, hE9⟩
            have hA9 := hQ9.arg (sz_small (z := qy) (by omega) (by omega)) (by omega)
            go_wp2_with fail
            refine And.intro (inX_of_ext _ hE9) ?_
            repeat (refine wpLex_still (by rfl) ?_; go_big_quiet_step (fail); refine wpQuiet_nil ?_)
            refine wpLex_move (by rfl) (by rfl) ?_
            go_wp2_with fail
            refine (qmin_any s B2 m2 c2 t B3 m3 d3 rk s9 A9 n9 c9 t9 B9 m9 d9 (qy : Rat) w9 (HARa.out.ext hE9) hA9).mono ?_
            rintro e wb ⟨s', A', i', c', t', B', j', d', rfl, hQb, hEb⟩
            have hEab := Ext.trans hE9 hEb
            have HQb : Hid (QCan wb w8.heap.size s' A' i' c' t' B' j' d' (partAt q xs k)) := by
              unfold Hid
              rw [HPA.out]
              exact hQb.base (Nat.le_trans hsa hE9.size)
            have HCLb := Lib.hid (HCLa.out.ext hEab)
            have HPRb := Lib.hid (HPRa.out.ext hEab)
            have HARb := Lib.hid (HARa.out.ext hEab)
            have HERb := Lib.hid (Ext.trans HERa.out hEab)
            have HXb := Lib.hid (inX_of_ext [] hEab)
            have hsb2 : w8.heap.size ≤ wb.heap.size := Nat.le_trans hsa hEab.size
            clear hQ9 hA9 hE9 hQb hEb hEab HCLa HPRa HARa HERa
            go_wp2_with fail
            refine And.intro HXb.out ?_
            repeat (refine wpLex_still (by rfl) ?_; go_big_quiet_step (fail); refine wpQuiet_nil ?_)
            obtain ⟨v0, hv0⟩ := HPRb.out.1.2.1 (k * 4) (by omega)
            obtain ⟨v1, hv1⟩ := HPRb.out.1.2.1 (k * 4 + 1) (by omega)
            obtain ⟨v2, hv2⟩ := HPRb.out.1.2.1 (k * 4 + 2) (by omega)
            obtain ⟨v3, hv3⟩ := HPRb.out.1.2.1 (k * 4 + 3) (by omega)
            have f0 := HPRb.out.1.2.2 (k * 4)
            have f1 := HPRb.out.1.2.2 (k * 4 + 1)
            have f2 := HPRb.out.1.2.2 (k * 4 + 2)
            have f3 := HPRb.out.1.2.2 (k * 4 + 3)
            refine wpLex_last (by rfl) (by kernel_rfl) (by rfl) ?_
            go_wp2_with fail
            refine And.intro trivial (wpLex_nil ?_)
            go_wp2_with fail
            have HPc := Lib.hid (HPRb.out.put hlt2 hl8 HQb.out)
            have HCc := Lib.hid (HCLb.out.far4 (g := w6.heap.size + 1) (off := k * 4) (by omega) (.bool s') (.slice A' i' c') (.bool t') (.slice B' j' d'))
            have HAc := Lib.hid (HARb.out.put4Away HAW.out.1 HAW.out.2 (g := w6.heap.size + 1) (by omega) (by omega) (k * 4) (.bool s') (.slice A' i' c') (.bool t') (.slice B' j' d'))
            have HEc := Lib.hid (ext_put4 HERb.out (g := w6.heap.size + 1) (by omega) (k * 4) (.bool s') (.slice A' i' c') (.bool t') (.slice B' j' d'))
            have HQc := Lib.hid (HQb.out.put4 (g := w6.heap.size + 1) (by omega) (k * 4) (.bool s') (.slice A' i' c') (.bool t') (.slice B' j' d'))
            have hsc := put4_size wb (w6.heap.size + 1) (k * 4) (.bool s') (.slice A' i' c') (.bool t') (.slice B' j' d')
            have HHc := Lib.hid (put4_here (w := wb) (g := w6.heap.size + 1) (off := k * 4) (.bool s') (.slice A' i' c') (.bool t') (.slice B' j' d') ⟨_, hv0⟩ ⟨_, hv1⟩ ⟨_, hv2⟩ ⟨_, hv3⟩)
            unfold put4 at HPc HCc HAc HEc HQc hsc HHc
            refine wp_region_lex (C := InX ((((wb.setCell ⟨w6.heap.size + 1, k * 4, none⟩ (.bool s')).setCell ⟨w6.heap.size + 1, k * 4 + 1, none⟩ (.slice A' i' c')).setCell ⟨w6.heap.size + 1, k * 4 + 2, none⟩ (.bool t')).setCell ⟨w6.heap.size + 1, k * 4 + 3, none⟩ (.slice B' j' d')).drew []) (by kernel_rfl) (by kernel_rfl) (inX_self _ _) ?_
            generalize ((((wb.setCell ⟨w6.heap.size + 1, k * 4, none⟩ (.bool s')).setCell ⟨w6.heap.size + 1, k * 4 + 1, none⟩ (.slice A' i' c')).setCell ⟨w6.heap.size + 1, k * 4 + 2, none⟩ (.bool t')).setCell ⟨w6.heap.size + 1, k * 4 + 3, none⟩ (.slice B' j' d')) = wc at *
            have hEd : Ext wc wc.drew := Ext.rfl'.drew
            generalize wc.drew = wd2 at *
            have HPd := Lib.hid (HPc.out.ext hEd)
            have HCd := Lib.hid (HCc.out.ext hEd)
            have HAd := Lib.hid (HAc.out.ext hEd)
            have HEd2 := Lib.hid (Ext.trans HEc.out hEd)
            have HQd := Lib.hid (HQc.out.ext hEd)
            have hsd : w8.heap.size ≤ wd2.heap.size := by have := hEd.size; omega
            clear x0 x1 x2 x3 x4 hv0 hv1 hv2 hv3 f0 f1 f2 f3
            have x0 := fun y : ExtX wd2 [] => y.cell (p := ⟨w6.heap.size, 0, none⟩) HCd.out.1.1 (by simp)
            have x1 := fun y : ExtX wd2 [] => y.cell (p := ⟨w6.heap.size, 1, none⟩) HCd.out.1.2.1 (by simp)
            have x2 := fun y : ExtX wd2 [] => y.cell (p := ⟨w6.heap.size, 2, none⟩) HCd.out.1.2.2.1 (by simp)
            have x3 := fun y : ExtX wd2 [] => y.cell (p := ⟨w6.heap.size, 3, none⟩) HCd.out.1.2.2.2 (by simp)
            have x4 := fun y : ExtX wd2 [] => y.cell (p := ⟨w6.heap.size + 1, k * 4, none⟩) (Ext.cellOf hEd HHc.out.1) (by simp)
            have x5 := fun y : ExtX wd2 [] => y.cell (p := ⟨w6.heap.size + 1, k * 4 + 1, none⟩) (Ext.cellOf hEd HHc.out.2.1) (by simp)
            have x6 := fun y : ExtX wd2 [] => y.cell (p := ⟨w6.heap.size + 1, k * 4 + 2, none⟩) (Ext.cellOf hEd HHc.out.2.2.1) (by simp)
            have x7 := fun y : ExtX wd2 [] => y.cell (p := ⟨w6.heap.size + 1, k * 4 + 3, none⟩) (Ext.cellOf hEd HHc.out.2.2.2) (by simp)
            clear HPc HCc HAc HEc HQc HHc hEd HPRb HCLb HARb HERb HQb HXb
            repeat (refine wpLex_still (by rfl) ?_; go_big_quiet_step (fail); refine wpQuiet_nil ?_)
            refine wpLex_move (by rfl) (by rfl) ?_
            go_wp2_with fail
            refine (qsub_any s B2 m2 c2 t B3 m3 d3 rk s' A' i' c' t' B' j' d' (partAt q xs k) wd2 HAd.out (HQd.out.arg HZR.out.1 (by omega))).mono ?_
            rintro e we ⟨s'', A'', i'', c'', t'', B'', j'', d'', rfl, hQe, hEe⟩
            have HQe : Hid (QCan we w8.heap.size s'' A'' i'' c'' t'' B'' j'' d'' (restR q (xs.take (k + 1)))) := by
              unfold Hid
              rw [HRS.out]
              exact hQe.base hsd
            have HCe := Lib.hid (HCd.out.ext hEe)
            have HPe := Lib.hid (HPd.out.ext hEe)
            have HEe := Lib.hid (Ext.trans HEd2.out hEe)
            have HXe := Lib.hid (inX_of_ext [] hEe)
            have hse : w8.heap.size ≤ we.heap.size := Nat.le_trans hsd hEe.size
            clear hQe hEe HPd HCd HAd HEd2 HQd
            obtain ⟨⟨e0, e1, e2, e3⟩, ⟨f0, f1, f2, f3⟩, el2⟩ := HCe.out
            go_wp2_with fail
            refine And.intro HXe.out ?_
            refine wpLex_last (by rfl) (by kernel_rfl) (by rfl) ?_
            go_wp2_with fail
            refine And.intro trivial (wpLex_nil ?_)
            go_wp2_with fail
            go_roundw
            case rel =>
              have hsf := put4_size we w6.heap.size 0 (.bool s'') (.slice A'' i'' c'') (.bool t'') (.slice B'' j'' d'')
              exact ⟨k + 1, by omega, by go_num, by rw [← put4_size we w6.heap.size 0 (.bool s'') (.slice A'' i'' c'') (.bool t'') (.slice B'' j'' d'')] at hse; exact hse, ext_put4 HEe.out (g := w6.heap.size) (by omega) 0 _ _ _ _, HPe.out.far (g' := w6.heap.size) (by omega) (by omega) 0 _ _ _ _, _, _, _, _, _, _, _, _, HCe.out.put4 _ _ _ _, (HQe.out.put4 (g := w6.heap.size) (by omega) 0 _ _ _ _).arg HZR.out.2 (by omega), HQe.out.away _⟩
            case measure => simp [intOf]; omega
          · have hbv : decide ((k : Int) < (n : Int)) = false := by simp; omega
            have hkn : k = n := by omega
            subst hkn
            have HF := Lib.hid HI.out
            clear HI
            go_wp2_with fail
            go_ret2
            refine ⟨HF.out.1, _, ret_e HE1.out.symm, fun e => absurd HE1.out e, fun _ => ⟨w6.heap.size + 1, by rw [HL.out]; rfl, by omega, ?_⟩⟩
            rw [HL.out]
            exact ⟨HF.out.2.1.1, fun i hi => by
              obtain ⟨a1, a2, a3, a4, a5, a6, a7, a8, b1, b2, b3, b4, b5⟩ := HF.out.2.1.2 i hi
              exact ⟨a1, a2, a3, a4, a5, a6, a7, a8, b1, b2, b3, b4, b5.base (by omega)⟩⟩
  · have hb : (crv xs != 0) = true := by simp [h0]
    have HE1 : Hid (allocE xs q = crv xs ∧ crv xs ≠ 0) := by
      refine ⟨?_, h0⟩
      unfold allocE
      rw [if_pos h0]
    have HEX := Lib.hid (Ext.trans hE hE2)
    clear h0 hE hE2 k0
    generalize hcv : crv xs = cv at *
    clear hcv
    go_wp2_with fail
    go_ret2
    refine ⟨HEX.out, _, ret_e HE1.out.1.symm, fun _ => rfl, fun e => ?_⟩
    rw [HE1.out.1] at e
    exact absurd e HE1.out.2
set_option maxRecDepth 100000 in
set_option maxHeartbeats 8000000 in
theorem costL_any (A : Option Addr) (n c : Nat) (xs : List (Int × Int)) (s1 : Bool) (A1 : Option Addr) (n1 c1 : Nat) (t1 : Bool) (B1 : Option Addr) (m1 d1 : Nat) (q : Rat) (w : World) (hs : StepsAt w A n xs) (hn : n ≤ maxLen) (h1 : QIs w s1 A1 n1 c1 t1 B1 m1 d1 q) (l1 : n1 ≤ 1048576) (l2 : m1 ≤ 1048576) :
    Calls Try.prog 38 #[.slice A n c, .agg #[.bool s1, .slice A1 n1 c1, .bool t1, .slice B1 m1 d1]] w (RetCost w xs q) := by
  have HSZ : Hid (Sz 1048576 q) := h1.sz l1 l2 (by omega)
  go_enter Try.func38, Try.ntmps38
  go_wp2_with fail
  obtain ⟨k1, k2, hE⟩ := boxQ2 w (.bool s1) (.slice A1 n1 c1) (.bool t1) (.slice B1 m1 d1) (.bool false) (.slice none 0 0) (.bool false) (.slice none 0 0) 30
  generalize (w.alloc (.cells #[.bool s1, .slice A1 n1 c1, .bool t1, .slice B1 m1 d1] 30)).alloc (.cells #[.bool false, .slice none 0 0, .bool false, .slice none 0 0] 30) = w1 at *
  refine (allocL_any A n c xs s1 A1 n1 c1 t1 B1 m1 d1 q w1 (hs.below hE) hn (h1.ext hE) l1 l2).mono ?_
  rintro e w2 ⟨hE2, v, rfl, hv1, hv2⟩
  have HS := Lib.hid (hs.below (Ext.trans hE hE2))
  have HL := Lib.hid hs.1
  have K2 := Lib.hid (k2.ext hE2)
  have HE := Lib.hid (Ext.trans hE hE2)
  have hl : w.heap.size + 1 < w2.heap.size := K2.out.2.2
  by_cases h0 : allocE xs q = 0
  · obtain ⟨g, rfl, hg, hP⟩ := hv2 h0
    obtain ⟨hl1, hl3, hr⟩ := crv_range (allocE_range h0)
    have hn3 : n ≤ 3 := by rw [← hs.1]; exact hl3
    have hn1 : 1 ≤ n := by rw [← hs.1]; exact hl1
    have HP := Lib.hid hP
    have HR := Lib.hid hr
    have HV : Hid (costV xs q = costTo q xs n) := by unfold Hid costV; rw [if_pos h0, HL.out]
    rw [h0, HL.out]
    have H0 := Lib.hid h0
    obtain ⟨b, off, rfl, hlt, hcell⟩ := HS.out.2 (by omega)
    have HC := Lib.hid hcell
    have hgl : g < w2.heap.size := hP.1.1
    clear hs hE hE2 h1 k1 k2 hv1 hv2 hP h0 hl1 hl3 hr hcell HS
    rw [HL.out] at HP
    go_wp2_with fail
    have k8 := Cell4.new w2 _ rfl (.bool false) (.slice none 0 0) (.bool false) (.slice none 0 0) 30
    have hE8 : Ext w2 (w2.alloc (.cells #[.bool false, .slice none 0 0, .bool false, .slice none 0 0] 30)) := Ext.al Ext.rfl' _
    generalize w2.alloc (.cells #[.bool false, .slice none 0 0, .bool false, .slice none 0 0] 30) = w8 at *
    have K8 := Lib.hid k8
    have HE8 := Lib.hid hE8
    have hl8 : w2.heap.size < w8.heap.size := k8.2.2
    clear k8 hE8
    go_loopw [9, 10, 23] (fun _ _ i wr => ∃ k : Nat, k ≤ n ∧ i = .int .i64 k ∧ w8.heap.size ≤ wr.heap.size ∧ Hid (Ext w2 wr ∧ ∃ s A m c t B j d, Cell4 wr w2.heap.size (.bool s) (.slice A m c) (.bool t) (.slice B j d) ∧ QCan wr (w2.heap.size + 1) s A m c t B j d (costTo q xs k))) (fun _ _ i _ => n - (intOf i).toNat)
    case atStart => exact ⟨0, by omega, rfl, Nat.le_refl _, HE8.out, _, _, _, _, _, _, _, _, K8.out, qcan_zero _ _⟩
    case round =>
      obtain ⟨k, hk, rfl, hsr, HI⟩ := hrel
      by_cases hlt2 : k < n
      · obtain ⟨hEr, s, B2, m2, c2, t, B3, m3, d3, hcl, hcan⟩ := HI.out
        obtain ⟨c1', c2'⟩ := HC.out k hlt2
        have d1' := Ext.cellOf hEr c1'
        have d2' := Ext.cellOf hEr c2'
        have hbv : decide ((k : Int) < (n : Int)) = true := by simp; omega
        have hsb : b < wr.heap.size := Nat.lt_of_lt_of_le hlt hEr.size
        have hmem : xs.getD k (0, 0) ∈ xs := by simp [List.getD, show k < xs.length by rw [HL.out]; exact hlt2]
        have hr1 := HR.out _ hmem
        have HCS : Hid (costTo q xs (k + 1) = costTo q xs k + partAt q xs k * ((xs.getD k (0, 0)).2 : Int)) := rfl
        have HZR : Hid (Sz 16777216 (partAt q xs k) ∧ Sz 16777216 (costTo q xs k)) := by
          have h8 := pow2_le (show k ≤ 3 by omega)
          exact ⟨(szL_part HSZ.out HR.out k (by rw [HL.out]; exact hlt2)).mono (by omega), (szL_cost HSZ.out HR.out k (by rw [HL.out]; omega)).mono (by omega)⟩
        obtain ⟨ps, pA, pn, pc, pt, pB, pm, pd, p0, p1, p2, p3, hpc⟩ := HP.out.2 k hlt2
        generalize (xs.getD k (0, 0)).1 = qy at *
        generalize (xs.getD k (0, 0)).2 = py at *
        generalize costTo q xs k = ck at *
        generalize partAt q xs k = pk at *
        obtain ⟨_, _, r1, r2⟩ := hr1
        have HCL := Lib.hid hcl
        have HCN := Lib.hid hcan
        have HER := Lib.hid hEr
        have HP0 := Lib.hid (And.intro p0 (And.intro p1 (And.intro p2 p3)))
        have HPC := Lib.hid hpc
        clear hcl hcan hEr c1' c2' HI hmem p0 p1 p2 p3 hpc
        go_wp2_with fail
        have k10 := Cell2.new wr _ rfl (.int .i64 qy) (.int .i64 py) 71
        have hEa : Ext wr (wr.alloc (.cells #[.int .i64 qy, .int .i64 py] 71)).drew := (Ext.al Ext.rfl' _).drew
        have k10' := k10.ext (Ext.rfl' (w := wr.alloc (.cells #[.int .i64 qy, .int .i64 py] 71))).drew
        refine wp_region_lex (C := InX (wr.alloc (.cells #[.int .i64 qy, .int .i64 py] 71)).drew []) (by kernel_rfl) (by kernel_rfl) (inX_self _ _) ?_
        generalize (wr.alloc (.cells #[.int .i64 qy, .int .i64 py] 71)).drew = wa at *
        have L10 := Lib.hid k10'
        have HCLa := Lib.hid (HCL.out.ext hEa)
        have HCNa := Lib.hid (HCN.out.ext hEa)
        have HERa := Lib.hid (Ext.trans HER.out hEa)
        have hsa : w8.heap.size ≤ wa.heap.size := Nat.le_trans hsr hEa.size
        clear k10 k10' hEa d1' d2' HCL HCN HER
        have x0 := fun y : ExtX wa [] => y.cell (p := ⟨w2.heap.size, 0, none⟩) HCLa.out.1.1 (by simp)
        have x1 := fun y : ExtX wa [] => y.cell (p := ⟨w2.heap.size, 1, none⟩) HCLa.out.1.2.1 (by simp)
        have x2 := fun y : ExtX wa [] => y.cell (p := ⟨w2.heap.size, 2, none⟩) HCLa.out.1.2.2.1 (by simp)
        have x3 := fun y : ExtX wa [] => y.cell (p := ⟨w2.heap.size, 3, none⟩) HCLa.out.1.2.2.2 (by simp)
        have x4 := fun y : ExtX wa [] => y.cell (p := ⟨wr.heap.size, 1, none⟩) L10.out.2.1 (by simp)
        have x5 := fun y : ExtX wa [] => y.cell (p := ⟨g, k * 4, none⟩) (Ext.cellOf HERa.out HP0.out.1) (by simp)
        have x6 := fun y : ExtX wa [] => y.cell (p := ⟨g, k * 4 + 1, none⟩) (Ext.cellOf HERa.out HP0.out.2.1) (by simp)
        have x7 := fun y : ExtX wa [] => y.cell (p := ⟨g, k * 4 + 2, none⟩) (Ext.cellOf HERa.out HP0.out.2.2.1) (by simp)
        have x8 := fun y : ExtX wa [] => y.cell (p := ⟨g, k * 4 + 3, none⟩) (Ext.cellOf HERa.out HP0.out.2.2.2) (by simp)
        have hz0 : (0 : Int) ≤ (k : Int) := by omega
        have hzn : (k : Int) < (n : Int) := by omega
        repeat (refine wpLex_still (by rfl) ?_; go_big_quiet_step (fail); refine wpQuiet_nil ?_)
        refine wpLex_move (by rfl) (by rfl) ?_
        go_wp2_with fail
        refine (qfrom_any py wa ⟨by omega, by omega⟩).mono ?_
        rintro e w9 ⟨s9, A9, n9, c9, t9, B9, m9, d9, rfl, hQ9, hE9⟩
        have hA9 := hQ9.arg (sz_small (z := py) (by omega) (by omega)) (by omega)
        go_wp2_with fail
        refine And.intro (inX_of_ext _ hE9) ?_
        repeat (refine wpLex_still (by rfl) ?_; go_big_quiet_step (fail); refine wpQuiet_nil ?_)
        refine wpLex_move (by rfl) (by rfl) ?_
        go_wp2_with fail
        refine (qmul_any ps pA pn pc pt pB pm pd pk s9 A9 n9 c9 t9 B9 m9 d9 (py : Rat) w9 (((HPC.out.ext HERa.out).ext hE9).arg HZR.out.1 (by omega)) hA9).mono ?_
        rintro e wb ⟨s', A', i', c', t', B', j', d', rfl, hQb, hEb⟩
        have hAb := hQb.arg (HZR.out.1.mul (sz_small (z := py) (by omega) (by omega))) (by omega)
        have hEab := Ext.trans hE9 hEb
        have HAb := Lib.hid hAb
        clear hQ9 hA9 hQb hAb
        go_wp2_with fail
        refine And.intro (inX_of_ext _ hEab) ?_
        repeat (refine wpLex_still (by rfl) ?_; go_big_quiet_step (fail); refine wpQuiet_nil ?_)
        refine wpLex_move (by rfl) (by rfl) ?_
        go_wp2_with fail
        refine (qadd_any s B2 m2 c2 t B3 m3 d3 ck s' A' i' c' t' B' j' d' _ wb ((HCNa.out.ext hEab).arg HZR.out.2 (by omega)) HAb.out).mono ?_
        rintro e we ⟨s'', A'', i'', c'', t'', B'', j'', d'', rfl, hQe, hEe⟩
        have hEae := Ext.trans hEab hEe
        have HQe : Hid (QCan we (w2.heap.size + 1) s'' A'' i'' c'' t'' B'' j'' d'' (costTo q xs (k + 1))) := by
          unfold Hid
          rw [HCS.out]
          exact hQe.base (Nat.le_trans (by omega) hEab.size)
        have HCe := Lib.hid (HCLa.out.ext hEae)
        have HEe := Lib.hid (Ext.trans HERa.out hEae)
        have HXe := Lib.hid (inX_of_ext [] hEae)
        have hse : w8.heap.size ≤ we.heap.size := Nat.le_trans hsa hEae.size
        clear hQe hEe hEae hEab hEb hE9 HCLa HCNa HERa HAb x0 x1 x2 x3 x4 x5 x6 x7 x8
        obtain ⟨⟨e0, e1, e2, e3⟩, ⟨f0, f1, f2, f3⟩, el2⟩ := HCe.out
        go_wp2_with fail
        refine And.intro HXe.out ?_
        refine wpLex_last (by rfl) (by kernel_rfl) (by rfl) ?_
        go_wp2_with fail
        refine And.intro trivial (wpLex_nil ?_)
        go_wp2_with fail
        go_roundw
        case rel =>
          exact ⟨k + 1, by omega, by go_num, by rw [← put4_size we w2.heap.size 0 (.bool s'') (.slice A'' i'' c'') (.bool t'') (.slice B'' j'' d'')] at hse; exact hse, ext_put4 HEe.out (g := w2.heap.size) (Nat.le_refl _) 0 _ _ _ _, _, _, _, _, _, _, _, _, HCe.out.put4 _ _ _ _, HQe.out.put4 (g := w2.heap.size) (by omega) 0 _ _ _ _⟩
        case measure => simp [intOf]; omega
      · have hbv : decide ((k : Int) < (n : Int)) = false := by simp; omega
        have hkn : k = n := by omega
        subst hkn
        obtain ⟨hEr, s, B2, m2, c2, t, B3, m3, d3, hcl, hcan⟩ := HI.out
        have HCN := Lib.hid hcan
        have HEF := Lib.hid (Ext.trans HE.out hEr)
        obtain ⟨⟨a0, a1, a2, a3⟩, _, _⟩ := hcl
        obtain ⟨⟨e0, e1, e2, e3⟩, ⟨f0, f1, f2, f3⟩, el2⟩ := K2.out.ext hEr
        clear HI hcan hEr
        go_wp2_with fail
        refine bodyPost_ret (v := .tuple #[.agg #[.bool s, .slice B2 m2 c2, .bool t, .slice B3 m3 d3], .int .i64 0]) (by simp [results, Try.results38, go_sem, e0, e1, e2, e3]) rfl ?_
        refine ⟨_, _, _, _, _, _, _, _, ret_qe H0.out.symm, ?_⟩
        rw [HV.out]
        exact retQ_fill (r := w.heap.size + 1) (B0 := w2.heap.size + 1) (by omega) (by omega) HCN.out HEF.out _ _ _ _
  · have hv := hv1 h0
    subst hv
    have hb : (allocE xs q != 0) = true := by simp [h0]
    have HV : Hid (costV xs q = 0) := by unfold Hid costV; rw [if_neg h0]
    have hae : ∃ ae, allocE xs q = ae := ⟨_, rfl⟩
    obtain ⟨ae, hae⟩ := hae
    have HAE := Lib.hid hae
    rw [hae] at hb ⊢
    obtain ⟨⟨e0, e1, e2, e3⟩, ⟨f0, f1, f2, f3⟩, el2⟩ := K2.out
    clear hae h0 hv1 hv2 hs hE hE2 h1 k1 k2 HS
    go_wp2_with fail
    refine bodyPost_ret (v := .tuple #[.agg #[.bool false, .slice none 0 0, .bool false, .slice none 0 0], .int .i64 ae]) (by simp [results, Try.results38, go_sem, e0, e1, e2, e3]) rfl ?_
    refine ⟨_, _, _, _, _, _, _, _, ret_qe HAE.out.symm, ?_⟩
    rw [HV.out]
    exact retQ_fill (r := w.heap.size + 1) (B0 := w.heap.size + 1 + 1) (by omega) (by omega) (qcan_zero _ _) HE.out _ _ _ _
/-- x is a q + b with integers that are no greater than these. -/
def LinQ (α β : Nat) (q x : Rat) : Prop := ∃ a b : Int, a.natAbs ≤ α ∧ b.natAbs ≤ β ∧ x = (a : Rat) * q + (b : Rat)
theorem LinQ.mono {α β α' β' : Nat} {q x : Rat} (h : LinQ α β q x) (h1 : α ≤ α') (h2 : β ≤ β') : LinQ α' β' q x := by
  obtain ⟨a, b, ha, hb, e⟩ := h
  exact ⟨a, b, by omega, by omega, e⟩
theorem LinQ.int (q : Rat) (z : Int) : LinQ 0 z.natAbs q (z : Rat) := ⟨0, z, by simp, by omega, by grind⟩
theorem lin_rest {q : Rat} {xs : List (Int × Int)} (hr : ∀ x ∈ xs, 1 ≤ x.1 ∧ x.1 ≤ 1000000 ∧ -1000000 ≤ x.2 ∧ x.2 ≤ 1000000) : ∀ k, k ≤ xs.length → LinQ 1 (1000000 * k) q (restR q (xs.take k))
  | 0, _ => ⟨1, 0, by decide, by decide, by simp [restR]; grind⟩
  | k + 1, hk => by
    obtain ⟨a, b, ha, hb, e⟩ := lin_rest hr k (by omega)
    have hm : xs.getD k (0, 0) ∈ xs := by simp [List.getD, show k < xs.length by omega]
    have h1 := hr _ hm
    rw [rest_succ (by omega)]
    unfold partAt minQ
    split
    · refine ⟨a, b - (xs.getD k (0, 0)).1, ha, by omega, ?_⟩
      rw [e, Rat.intCast_sub]
      grind
    · exact ⟨0, 0, by decide, by simp, by grind⟩
theorem lin_part {q : Rat} {xs : List (Int × Int)} (hr : ∀ x ∈ xs, 1 ≤ x.1 ∧ x.1 ≤ 1000000 ∧ -1000000 ≤ x.2 ∧ x.2 ≤ 1000000) (k : Nat) (hk : k < xs.length) : LinQ 1 (1000000 * (k + 1)) q (partAt q xs k) := by
  have hm : xs.getD k (0, 0) ∈ xs := by simp [List.getD, hk]
  have h1 := hr _ hm
  unfold partAt minQ
  split
  · exact (LinQ.int q _).mono (by omega) (by omega)
  · exact (lin_rest hr k (by omega)).mono (by omega) (by omega)
theorem lin_cost {q : Rat} {xs : List (Int × Int)} (hr : ∀ x ∈ xs, 1 ≤ x.1 ∧ x.1 ≤ 1000000 ∧ -1000000 ≤ x.2 ∧ x.2 ≤ 1000000) (h3 : xs.length ≤ 3) : ∀ k, k ≤ xs.length → LinQ (1000000 * k) (4000000000000 * k) q (costTo q xs k)
  | 0, _ => ⟨0, 0, by decide, by decide, by simp [costTo]; grind⟩
  | k + 1, hk => by
    obtain ⟨a, b, ha, hb, e⟩ := lin_cost hr h3 k (by omega)
    have hm : xs.getD k (0, 0) ∈ xs := by simp [List.getD, show k < xs.length by omega]
    have h1 := hr _ hm
    obtain ⟨a', b', ha', hb', e'⟩ := lin_part (q := q) hr k (by omega)
    have m1 : (a' * (xs.getD k (0, 0)).2).natAbs ≤ 1 * 1000000 := by rw [Int.natAbs_mul]; exact Nat.mul_le_mul ha' (by omega)
    have m2 : (b' * (xs.getD k (0, 0)).2).natAbs ≤ 4000000 * 1000000 := by rw [Int.natAbs_mul]; exact Nat.mul_le_mul (by omega) (by omega)
    refine ⟨a + a' * (xs.getD k (0, 0)).2, b + b' * (xs.getD k (0, 0)).2, by omega, by omega, ?_⟩
    show costTo q xs k + partAt q xs k * (((xs.getD k (0, 0)).2 : Int) : Rat) = _
    rw [e, e', Rat.intCast_add, Rat.intCast_add, Rat.intCast_mul, Rat.intCast_mul]
    grind
theorem LinQ.sz {α β K : Nat} {q x : Rat} (h : LinQ α β q x) (hq : Sz K q) (h1 : α < 4294967296) (h2 : β < 18446744073709551616) : Sz (K + 4) x := by
  obtain ⟨a, b, ha, hb, rfl⟩ := h
  have s1 : Sz 1 (a : Rat) := sz_int (by omega) (by omega)
  have s2 : Sz 2 (b : Rat) := sz_int (by omega) (by omega)
  exact ((s1.mul hq).add s2).mono (by omega)
theorem szL_costV {xs : List (Int × Int)} {q : Rat} {K : Nat} (hq : Sz K q) : Sz (K + 4) (costV xs q) := by
  unfold costV
  split
  · obtain ⟨_, h3, hr⟩ := crv_range (allocE_range ‹_›)
    exact (lin_cost hr h3 xs.length (Nat.le_refl _)).sz hq (by omega) (by omega)
  · exact sz_zero.mono (by omega)
end Go.Proofs.Ytfokholpgakjpaa
