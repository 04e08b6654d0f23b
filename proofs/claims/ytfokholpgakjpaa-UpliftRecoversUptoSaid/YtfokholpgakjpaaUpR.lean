/- The walk of the law UpliftRecovers. Printed by gen_upr.py. -/
import Derived.Test.YtfokholpgakjpaaUpX
namespace Go.Proofs.Ytfokholpgakjpaa
open Go.RowKit

set_option maxRecDepth 100000 in
set_option maxHeartbeats 32000000 in
theorem recovers_any (P1 : Option Addr) (k1 c1 : Nat) (cs : List Rat) (P2 : Option Addr) (k2 c2 : Nat) (rs : List Rat) (w : World) (h1 : QsK 1048576 w P1 k1 cs) (h2 : QsK 1048576 w P2 k2 rs) (l1 : k1 ≤ maxLen) (l2 : k2 ≤ maxLen) :
    Calls Try.prog 3 #[.slice P1 k1 c1, .slice P2 k2 c2] w fun e w' => e = .returned (.bool true) ∧ Ext w w' := by
  have H1 := Lib.hid h1
  have H2 := Lib.hid h2
  clear h1 h2
  go_enter Try.func3, Try.ntmps3
  go_wp2_with fail
  have hlr := Lib.hid (lrows2 (c1 := c1) (c2 := c2) 22 (by omega) H1.out H2.out l1 l2)
  have hE : Ext w (w.alloc (.cells #[.slice P1 k1 c1, .slice P2 k2 c2] 22)) := Ext.al Ext.rfl' _
  obtain ⟨gL, hgL⟩ : ∃ g, w.heap.size = g := ⟨_, rfl⟩
  generalize (w.alloc (.cells #[.slice P1 k1 c1, .slice P2 k2 c2] 22)) = wl at *
  rw [hgL] at hlr ⊢
  clear hgL
  have Ewl := Lib.hid hE
  clear hE
  refine (long33_any gL 2 2 _ (fun i => if i = 0 then k1 else k2) _ wl hlr.out (by omega)).mono ?_
  rintro e w1 ⟨⟨bl, rfl, hbl⟩, hE⟩
  have Ew1 := Lib.hid hE
  clear hE
  have HLN := Lib.hid hbl
  clear hbl
  cases bl
  rotate_left
  · skip
    go_wp2_with fail
    refine (awake_any w1).mono ?_
    rintro e wz ⟨rfl, hEz⟩
    go_wp2_with fail
    go_ret
    exact ⟨rfl, Ext.trans (Ext.trans Ewl.out Ew1.out) hEz⟩
  have hk1 : k1 ≤ 40 := HLN.out rfl 0 (by omega)
  have hk2 : k2 ≤ 40 := HLN.out rfl 1 (by omega)
  clear HLN hlr
  go_wp2_with fail
  refine (awake_any w1).mono ?_
  rintro e w2 ⟨rfl, hE⟩
  have Ew2 := Lib.hid hE
  clear hE
  go_wp2_with fail
  obtain ⟨N, hN⟩ : ∃ v, max k1 k2 = v := ⟨_, rfl⟩
  have hN40 : N ≤ 40 := by omega
  have HN := Lib.hid hN
  have hnn : ((N : Int) != (N : Int)) = false := by simp
  have hnn2 : (N != N) = false := by simp
  have hmd := made_any P1 k1 c1 cs P2 k2 c2 rs w2 (H1.out.ext (Ext.trans Ewl.out (Ext.trans Ew1.out Ew2.out))) (H2.out.ext (Ext.trans Ewl.out (Ext.trans Ew1.out Ew2.out))) (by omega) (by omega)
  rw [hN] at hmd
  clear hN
  refine (hmd).mono ?_
  rintro e w3 ⟨gM, rfl, hg, hP, hE⟩
  have Ew3 := Lib.hid hE
  clear hE
  have HPM := Lib.hid hP
  clear hP hg
  clear hmd
  go_wp2_with (refine wpList_maxU _ rfl _ _ _ _ rfl k1 k2 N rfl rfl HN.out ?_)
  go_loopw [6] (fun i wr => ∃ q : Nat, q ≤ N ∧ i = .int .i64 (q : Int) ∧ Hid (Ext w3 wr)) (fun i _ => N - (intOf i).toNat)
  case atStart => exact ⟨0, by omega, rfl, Ext.rfl'⟩
  case round =>
    obtain ⟨q, hq, rfl, HER⟩ := hrel
    by_cases hlt : q < N
    rotate_left
    · have hbv : decide ((q : Int) < (N : Int)) = false := by simp; omega
      have hbv2 : decide (q < N) = false := by simp; omega
      go_wp2_with fail
      go_ret
      exact ⟨rfl, (Ext.trans Ewl.out (Ext.trans Ew1.out (Ext.trans Ew2.out (Ext.trans Ew3.out HER.out))))⟩
    have hbv : decide ((q : Int) < (N : Int)) = true := by simp; omega
    have hbv2 : decide (q < N) = true := by simp; omega
    have hz0 : (0 : Int) ≤ (q : Int) := by omega
    have hzn : (q : Int) < (N : Int) := by omega
    go_wp2_with fail
    refine (at33_any 1048576 P1 k1 c1 cs q wr (H1.out.ext (Ext.trans Ewl.out (Ext.trans Ew1.out (Ext.trans Ew2.out (Ext.trans Ew3.out HER.out))))) (by omega) (by omega)).mono ?_
    rintro e w4 ⟨sc, Ac, nc, cc, tc, Bc, mc, dc, rfl, hI, lc1, lc2, hE⟩
    have Hc := Lib.hid hI
    clear hI
    have Ew4 := Lib.hid hE
    clear hE
    go_wp2_with fail
    refine (at33_any 1048576 P2 k2 c2 rs q w4 (H2.out.ext (Ext.trans Ewl.out (Ext.trans Ew1.out (Ext.trans Ew2.out (Ext.trans Ew3.out (Ext.trans HER.out Ew4.out)))))) (by omega) (by omega)).mono ?_
    rintro e w5 ⟨sr, Ar, nr, cr, tr, Br, mr, dr, rfl, hI, lr1, lr2, hE⟩
    have Hr := Lib.hid hI
    clear hI
    have Ew5 := Lib.hid hE
    clear hE
    have HSC : Hid (Sz 1048576 (cs.getD q 0)) := H1.out.sz (by omega) q
    have HSR : Hid (Sz 1048576 (rs.getD q 0)) := H2.out.sz (by omega) q
    obtain ⟨sm, Am, nm, cm, tm, Bm, mm, dm, m0, m1, m2, m3, hqm⟩ := HPM.out.2 q hlt
    have Qm := Lib.hid hqm
    have HM4 := Lib.hid (And.intro m0 (And.intro m1 (And.intro m2 m3)))
    clear m0 m1 m2 m3 hqm
    have HMF : Hid (madeF cs rs q = maxQ (cs.getD q 0 - rs.getD q 0) 0) := rfl
    obtain ⟨pc, hpc⟩ : ∃ v, cs.getD q 0 = v := ⟨_, rfl⟩
    obtain ⟨pr, hpr⟩ : ∃ v, rs.getD q 0 = v := ⟨_, rfl⟩
    rw [hpc] at Hc HSC HMF
    rw [hpr] at Hr HSR HMF
    rw [HMF.out] at Qm
    clear hpc hpr HMF
    have HG1 := Lib.hid (made_ge pc pr)
    have HG2 := Lib.hid (made_has pc pr)
    have HG3 := Lib.hid (fun h => made_pos (c := pc) (r := pr) h)
    have HG4 := Lib.hid (fun h => made_zero (c := pc) (r := pr) h)
    have HSM : Hid (Sz 2097154 (maxQ (pc - pr) 0)) := (sz_made HSC.out HSR.out).mono (by omega)
    obtain ⟨pm, hpm⟩ : ∃ v, maxQ (pc - pr) 0 = v := ⟨_, rfl⟩
    rw [hpm] at Qm HG1 HG2 HSM
    rw [hpm] at HG3 HG4
    clear hpm
    go_wp2_with fail
    have k0 := Cell4.new (w5) (w5.heap.size) (by simp) (.bool sc) (.slice Ac nc cc) (.bool tc) (.slice Bc mc dc) 30
    have k1 := Cell4.new ((w5).alloc (.cells #[.bool sc, .slice Ac nc cc, .bool tc, .slice Bc mc dc] 30)) (w5.heap.size + 1) (by simp) (.bool sr) (.slice Ar nr cr) (.bool tr) (.slice Br mr dr) 30
    have hE : Ext w5 (((w5).alloc (.cells #[.bool sc, .slice Ac nc cc, .bool tc, .slice Bc mc dc] 30)).alloc (.cells #[.bool sr, .slice Ar nr cr, .bool tr, .slice Br mr dr] 30)) := (Ext.al (Ext.al Ext.rfl' _) _)
    have k0 := k0.ext (show Ext ((w5).alloc (.cells #[.bool sc, .slice Ac nc cc, .bool tc, .slice Bc mc dc] 30)) (((w5).alloc (.cells #[.bool sc, .slice Ac nc cc, .bool tc, .slice Bc mc dc] 30)).alloc (.cells #[.bool sr, .slice Ar nr cr, .bool tr, .slice Br mr dr] 30)) from (Ext.al Ext.rfl' _))
    generalize ((w5).alloc (.cells #[.bool sc, .slice Ac nc cc, .bool tc, .slice Bc mc dc] 30)).alloc (.cells #[.bool sr, .slice Ar nr cr, .bool tr, .slice Br mr dr] 30) = w6 at *
    have Ew6 := Lib.hid hE
    clear hE
    have Kc := Lib.hid k0
    clear k0
    have Kr := Lib.hid k1
    clear k1
    refine wp_region_havS [6] [0, 1, 2, 3, 4, 5] [7] (fun _ => .cells #[.bool false, .slice none 0 0, .bool false, .slice none 0 0] 30) (by kernel_rfl) (by kernel_rfl) ?_ ?_
    · intro f hf
      simp only [List.mem_cons, List.not_mem_nil, or_false] at hf
      rcases hf with rfl
      all_goals exact makes_q (by rfl) rfl
    have hE : Ext w6 w6.drew := Ext.rfl'.drew
    generalize w6.drew = w7 at *
    have Ew7 := Lib.hid hE
    clear hE
    have fr0 := fun z : ExtX w7 [] => z.cell (p := ⟨w5.heap.size + 1, 0, none⟩) (Kr.out.ext Ew7.out).1.1 (by simp)
    have fr1 := fun z : ExtX w7 [] => z.cell (p := ⟨w5.heap.size + 1, 1, none⟩) (Kr.out.ext Ew7.out).1.2.1 (by simp)
    have fr2 := fun z : ExtX w7 [] => z.cell (p := ⟨w5.heap.size + 1, 2, none⟩) (Kr.out.ext Ew7.out).1.2.2.1 (by simp)
    have fr3 := fun z : ExtX w7 [] => z.cell (p := ⟨w5.heap.size + 1, 3, none⟩) (Kr.out.ext Ew7.out).1.2.2.2 (by simp)
    have fm0 := fun z : ExtX w7 [] => z.cell (p := ⟨gM, q * 4, none⟩) (Ext.cellOf (Ext.trans HER.out (Ext.trans Ew4.out (Ext.trans Ew5.out (Ext.trans Ew6.out Ew7.out)))) HM4.out.1) (by simp)
    have fm1 := fun z : ExtX w7 [] => z.cell (p := ⟨gM, q * 4 + 1, none⟩) (Ext.cellOf (Ext.trans HER.out (Ext.trans Ew4.out (Ext.trans Ew5.out (Ext.trans Ew6.out Ew7.out)))) HM4.out.2.1) (by simp)
    have fm2 := fun z : ExtX w7 [] => z.cell (p := ⟨gM, q * 4 + 2, none⟩) (Ext.cellOf (Ext.trans HER.out (Ext.trans Ew4.out (Ext.trans Ew5.out (Ext.trans Ew6.out Ew7.out)))) HM4.out.2.2.1) (by simp)
    have fm3 := fun z : ExtX w7 [] => z.cell (p := ⟨gM, q * 4 + 3, none⟩) (Ext.cellOf (Ext.trans HER.out (Ext.trans Ew4.out (Ext.trans Ew5.out (Ext.trans Ew6.out Ew7.out)))) HM4.out.2.2.2) (by simp)
    intro w8 hE
    have Ew8 := Lib.hid hE
    clear hE
    repeat (refine havAt_still (by rfl) (by rfl) ?_; go_big_quiet_step (fail); refine wpQuiet_nil ?_)
    refine havAt_move (by rfl) (by rfl) (by kernel_rfl) ?_
    go_wp2_with fail
    refine (qadd_any sr Ar nr cr tr Br mr dr _ sm Am nm cm tm Bm mm dm _ w8 ⟨(Hr.out.ext (Ext.trans Ew6.out (Ext.trans Ew7.out Ew8.out))), by omega, by omega⟩ ((Qm.out.ext (Ext.trans HER.out (Ext.trans Ew4.out (Ext.trans Ew5.out (Ext.trans Ew6.out (Ext.trans Ew7.out Ew8.out)))))).arg HSM.out (by omega))).mono ?_
    rintro e w9 ⟨sh, Ah, nh, ch, th, Bh, mh, dh, rfl, hQ, hE⟩
    have Ew9 := Lib.hid hE
    clear hE
    have Qh := Lib.hid hQ
    clear hQ
    go_wp2_with fail
    refine And.intro Ew9.out (fun w10 hE => ?_)
    have Ew10 := Lib.hid hE
    clear hE
    repeat (refine havAt_still (by rfl) (by rfl) ?_; go_big_quiet_step (fail); refine wpQuiet_nil ?_)
    refine havAt_end ?_
    intro gs hgs hne
    have hph := hgs 6 (by simp)
    change IdxAt _ _ _ _ _ _ (Act.put _ (some 9) (.pointer (some ⟨gs 6, 0, none⟩))) _
    generalize gs 6 = gh at *
    clear hgs hne
    simp only [Act.put, List.setIfInBounds_toArray, List.set_cons_succ, List.set_cons_zero]
    have Ph := Lib.hid hph
    have Kh := Lib.hid (Cell4.of_blk hph.2.1)
    clear hph
    repeat (refine idxAt_still (by rfl) (by rfl) ?_; go_big_quiet_step (fail); refine wpQuiet_nil ?_)
    obtain ⟨⟨o0, o1, o2, o3⟩, ⟨q0, q1, q2, q3⟩, ol⟩ := Kh.out
    refine idxAt_move (by rfl) (by rfl) (by kernel_rfl) ?_
    go_wp2_with fail
    refine And.intro (inX_put (p := ⟨gh, 3, none⟩) (inX_put (p := ⟨gh, 2, none⟩) (inX_put (p := ⟨gh, 1, none⟩) (inX_put (p := ⟨gh, 0, none⟩) (inX_of_ext _ (Ext.trans Ew8.out (Ext.trans Ew9.out Ew10.out))) (.inr Ph.out.1) _) (.inr Ph.out.1) _) (.inr Ph.out.1) _) (.inr Ph.out.1) _) ?_
    clear o0 o1 o2 o3 q0 q1 q2 q3 ol
    have Kh_1 := Lib.hid (Kh.out.put4 (.bool sh) (.slice Ah nh ch) (.bool th) (.slice Bh mh dh))
    have NJ1 := Lib.hid (ext_put4 (Ext.trans Ew8.out (Ext.trans Ew9.out Ew10.out)) (g := gh) Ph.out.1 0 (.bool sh) (.slice Ah nh ch) (.bool th) (.slice Bh mh dh))
    have NZ1 : Hid (w10.heap.size ≤ (put4 w10 (gh) 0 (.bool sh) (.slice Ah nh ch) (.bool th) (.slice Bh mh dh)).heap.size) := by unfold Hid; rw [put4_size]; exact Nat.le_refl _
    have Qh_1 := Lib.hid ((Qh.out.ext Ew10.out).put4A (g := gh) (Qh.out.span (Ph.out.2.2 (w8.heap.size, w9.heap.size) (by simp))) 0 (.bool sh) (.slice Ah nh ch) (.bool th) (.slice Bh mh dh))
    unfold put4 at Kh_1 NJ1 NZ1 Qh_1
    simp only [Nat.zero_add] at Kh_1 NJ1 NZ1 Qh_1
    generalize ((((w10.setCell ⟨gh, 0, none⟩ (.bool sh)).setCell ⟨gh, 1, none⟩ (.slice Ah nh ch)).setCell ⟨gh, 2, none⟩ (.bool th)).setCell ⟨gh, 3, none⟩ (.slice Bh mh dh)) = w11 at *
    repeat (refine idxAt_still (by rfl) (by rfl) ?_; go_big_quiet_step (fail); refine wpQuiet_nil ?_)
    refine idxAt_nil ?_
    clear fr0 fr1 fr2 fr3 fm0 fm1 fm2 fm3
    have xm0 := Ext.cellOf (Ext.trans HER.out (Ext.trans Ew4.out (Ext.trans Ew5.out (Ext.trans Ew6.out (Ext.trans Ew7.out NJ1.out))))) HM4.out.1
    have xm1 := Ext.cellOf (Ext.trans HER.out (Ext.trans Ew4.out (Ext.trans Ew5.out (Ext.trans Ew6.out (Ext.trans Ew7.out NJ1.out))))) HM4.out.2.1
    have xm2 := Ext.cellOf (Ext.trans HER.out (Ext.trans Ew4.out (Ext.trans Ew5.out (Ext.trans Ew6.out (Ext.trans Ew7.out NJ1.out))))) HM4.out.2.2.1
    have xm3 := Ext.cellOf (Ext.trans HER.out (Ext.trans Ew4.out (Ext.trans Ew5.out (Ext.trans Ew6.out (Ext.trans Ew7.out NJ1.out))))) HM4.out.2.2.2
    have zm := World.block_lt_of_cell? _ _ xm0
    go_wp2_with fail
    clear xm0 xm1 xm2 xm3 zm
    refine (qsign_any sm Am nm cm tm Bm mm dm _ w11 (Qm.out.ext (Ext.trans HER.out (Ext.trans Ew4.out (Ext.trans Ew5.out (Ext.trans Ew6.out (Ext.trans Ew7.out NJ1.out)))))).is).mono ?_
    rintro e w12 ⟨rfl, hE⟩
    have Ew12 := Lib.hid hE
    clear hE
    obtain ⟨sg, hsg⟩ : ∃ x, Int.sign (Rat.num (pm)) = x := ⟨_, rfl⟩
    rw [hsg]
    have Hsg := Lib.hid hsg
    clear hsg
    have HS1 := Lib.hid (sign_lt pm)
    have HS2 := Lib.hid (sign_gt pm)
    rw [Hsg.out] at HS1 HS2
    have hs0 : decide (sg < 0) = false := decide_eq_false (fun e => Rat.not_lt.2 HG1.out (HS1.out.1 e))
    obtain ⟨⟨xh0, xh1, xh2, xh3⟩, -, zh⟩ := (Kh_1.out.ext Ew12.out)
    obtain ⟨⟨xc0, xc1, xc2, xc3⟩, -, zc⟩ := (Kc.out.ext (Ext.trans Ew7.out (Ext.trans NJ1.out Ew12.out)))
    go_wp2_with fail
    clear xh0 xh1 xh2 xh3 zh xc0 xc1 xc2 xc3 zc
    refine (qcmp_any sh Ah nh ch th Bh mh dh _ sc Ac nc cc tc Bc mc dc _ w12 ((Qh_1.out.ext Ew12.out).arg (HSR.out.add HSM.out) (by omega)) ⟨(Hc.out.ext (Ext.trans Ew5.out (Ext.trans Ew6.out (Ext.trans Ew7.out (Ext.trans NJ1.out Ew12.out))))), by omega, by omega⟩).mono ?_
    rintro e w13 ⟨rfl, hE⟩
    have Ew13 := Lib.hid hE
    clear hE
    obtain ⟨cm, hcm⟩ : ∃ x, cmpQ ((pr + pm)) (pc) = x := ⟨_, rfl⟩
    rw [hcm]
    have Hcm := Lib.hid hcm
    clear hcm
    have hcm : decide (cm < 0) = false := by
      have hge := cmpQ_neg (pr + pm) pc
      rw [Hcm.out] at hge
      exact decide_eq_false (fun e => Rat.not_lt.2 HG2.out (hge.1 e))
    by_cases hp : 0 < pm
    · have hs1 : decide (0 < sg) = true := decide_eq_true (HS2.out.2 hp)
      have HEQ := Lib.hid (HG3.out hp)
      have HPOS := Lib.hid hp
      clear hp
      obtain ⟨⟨xh0, xh1, xh2, xh3⟩, -, zh⟩ := (Kh_1.out.ext (Ext.trans Ew12.out Ew13.out))
      obtain ⟨⟨xc0, xc1, xc2, xc3⟩, -, zc⟩ := (Kc.out.ext (Ext.trans Ew7.out (Ext.trans NJ1.out (Ext.trans Ew12.out Ew13.out))))
      go_wp2_with fail
      clear xh0 xh1 xh2 xh3 zh xc0 xc1 xc2 xc3 zc
      refine (qequal_any sh Ah nh ch th Bh mh dh _ sc Ac nc cc tc Bc mc dc _ w13 ((Qh_1.out.ext (Ext.trans Ew12.out Ew13.out)).arg (HSR.out.add HSM.out) (by omega)) ⟨(Hc.out.ext (Ext.trans Ew5.out (Ext.trans Ew6.out (Ext.trans Ew7.out (Ext.trans NJ1.out (Ext.trans Ew12.out Ew13.out)))))), by omega, by omega⟩).mono ?_
      rintro e w14 ⟨rfl, hE⟩
      have Ew14 := Lib.hid hE
      clear hE
      rw [decide_eq_true HEQ.out]
      obtain ⟨⟨xr0, xr1, xr2, xr3⟩, -, zr⟩ := (Kr.out.ext (Ext.trans Ew7.out (Ext.trans NJ1.out (Ext.trans Ew12.out (Ext.trans Ew13.out Ew14.out)))))
      obtain ⟨⟨xc0, xc1, xc2, xc3⟩, -, zc⟩ := (Kc.out.ext (Ext.trans Ew7.out (Ext.trans NJ1.out (Ext.trans Ew12.out (Ext.trans Ew13.out Ew14.out)))))
      go_wp2_with fail
      clear xr0 xr1 xr2 xr3 zr xc0 xc1 xc2 xc3 zc
      refine (qcmp_any sr Ar nr cr tr Br mr dr _ sc Ac nc cc tc Bc mc dc _ w14 ⟨(Hr.out.ext (Ext.trans Ew6.out (Ext.trans Ew7.out (Ext.trans NJ1.out (Ext.trans Ew12.out (Ext.trans Ew13.out Ew14.out)))))), by omega, by omega⟩ ⟨(Hc.out.ext (Ext.trans Ew5.out (Ext.trans Ew6.out (Ext.trans Ew7.out (Ext.trans NJ1.out (Ext.trans Ew12.out (Ext.trans Ew13.out Ew14.out))))))), by omega, by omega⟩).mono ?_
      rintro e w15 ⟨rfl, hE⟩
      have Ew15 := Lib.hid hE
      clear hE
      obtain ⟨cn, hcn⟩ : ∃ x, cmpQ (pr) (pc) = x := ⟨_, rfl⟩
      rw [hcn]
      have Hcn := Lib.hid hcn
      clear hcn
      have hcn : decide (0 ≤ cn) = false := by
        have hge := cmpQ_neg pr pc
        rw [Hcn.out] at hge
        have : pr < pc := by
          rcases Rat.not_le.1 (fun h : pc ≤ pr => by have h0 := HG4.out h; have := HPOS.out; rw [h0] at this; exact absurd this (by decide)) with h
          exact h
        have := hge.2 this
        exact decide_eq_false (by omega)
      go_wp2_with fail
      go_roundw
      case rel => exact ⟨q + 1, by omega, by go_num, (Ext.trans HER.out (Ext.trans Ew4.out (Ext.trans Ew5.out (Ext.trans Ew6.out (Ext.trans Ew7.out (Ext.trans NJ1.out (Ext.trans Ew12.out (Ext.trans Ew13.out (Ext.trans Ew14.out Ew15.out)))))))))⟩
      case measure => simp [intOf]; omega
    have hs1 : decide (0 < sg) = false := decide_eq_false (fun e => hp (HS2.out.1 e))
    have hsz : sg = 0 := by
      have h1 : ¬ sg < 0 := fun e => by simp [e] at hs0
      have h2 : ¬ 0 < sg := fun e => by simp [e] at hs1
      omega
    have hs2 : (sg != 0) = false := by simp [hsz]
    clear hsz hp
    obtain ⟨⟨xr0, xr1, xr2, xr3⟩, -, zr⟩ := (Kr.out.ext (Ext.trans Ew7.out (Ext.trans NJ1.out (Ext.trans Ew12.out Ew13.out))))
    obtain ⟨⟨xc0, xc1, xc2, xc3⟩, -, zc⟩ := (Kc.out.ext (Ext.trans Ew7.out (Ext.trans NJ1.out (Ext.trans Ew12.out Ew13.out))))
    go_wp2_with fail
    clear xr0 xr1 xr2 xr3 zr xc0 xc1 xc2 xc3 zc
    refine (qcmp_any sr Ar nr cr tr Br mr dr _ sc Ac nc cc tc Bc mc dc _ w13 ⟨(Hr.out.ext (Ext.trans Ew6.out (Ext.trans Ew7.out (Ext.trans NJ1.out (Ext.trans Ew12.out Ew13.out))))), by omega, by omega⟩ ⟨(Hc.out.ext (Ext.trans Ew5.out (Ext.trans Ew6.out (Ext.trans Ew7.out (Ext.trans NJ1.out (Ext.trans Ew12.out Ew13.out)))))), by omega, by omega⟩).mono ?_
    rintro e w16 ⟨rfl, hE⟩
    have Ew16 := Lib.hid hE
    clear hE
    obtain ⟨cn, hcn⟩ : ∃ x, cmpQ (pr) (pc) = x := ⟨_, rfl⟩
    rw [hcn]
    have Hcn := Lib.hid hcn
    clear hcn
    by_cases hcn : 0 ≤ cn
    · have hcn1 : decide (0 ≤ cn) = true := decide_eq_true hcn
      go_wp2_with fail
      go_roundw
      case rel => exact ⟨q + 1, by omega, by go_num, (Ext.trans HER.out (Ext.trans Ew4.out (Ext.trans Ew5.out (Ext.trans Ew6.out (Ext.trans Ew7.out (Ext.trans NJ1.out (Ext.trans Ew12.out (Ext.trans Ew13.out Ew16.out))))))))⟩
      case measure => simp [intOf]; omega
    have hcn1 : decide (0 ≤ cn) = false := decide_eq_false hcn
    go_wp2_with fail
    go_roundw
    case rel => exact ⟨q + 1, by omega, by go_num, (Ext.trans HER.out (Ext.trans Ew4.out (Ext.trans Ew5.out (Ext.trans Ew6.out (Ext.trans Ew7.out (Ext.trans NJ1.out (Ext.trans Ew12.out (Ext.trans Ew13.out Ew16.out))))))))⟩
    case measure => simp [intOf]; omega
end Go.Proofs.Ytfokholpgakjpaa
