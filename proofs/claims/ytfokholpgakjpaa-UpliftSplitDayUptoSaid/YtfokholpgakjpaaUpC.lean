/- The closure of uplift.Cost, and uplift.each. Printed by gen_upc.py. -/
import Derived.Test.YtfokholpgakjpaaUpB
namespace Go.Proofs.Ytfokholpgakjpaa
open Go.RowKit

/-- What the closure of Cost holds. -/
structure DayM (w : World) (u : U) (A : Option Addr) (n c bG bM bR bI bU : Nat) (P : Option Addr) (k cp : Nat) (gs : List Rat) (R : Option Addr) (dR : Nat) (ran : List Bool) : Prop where
  gen : w.cell? ⟨bG, 0, none⟩ = some (.slice P k cp)
  gs : QsK 1048576 w P k gs
  ranc : w.cell? ⟨bR, 0, none⟩ = some (.slice R k dR)
  ran : BoolsAt w R k ran
  most : VarQ w 0 [] bM ((u.top : Int) : Rat)
  idle : VarQ w 0 [] bI ((u.idle : Int) : Rat)
  unit : UBox w bU u A n c
  steps : StepsAt w A n u.steps
theorem Cell4.there {w : World} {g : Nat} {v0 v1 v2 v3 : Value} (h : Cell4 w g v0 v1 v2 v3) : w.there g 0 4 := fun j hj => by
  obtain ⟨⟨a0, a1, a2, a3⟩, ⟨b0, b1, b2, b3⟩, _⟩ := h
  match j, hj with
  | 0, _ => exact ⟨by rw [a0]; rfl, b0⟩
  | 1, _ => exact ⟨by rw [a1]; rfl, b1⟩
  | 2, _ => exact ⟨by rw [a2]; rfl, b2⟩
  | 3, _ => exact ⟨by rw [a3]; rfl, b3⟩
theorem Cell4.putVs {w w' : World} {g : Nat} {v0 v1 v2 v3 u0 u1 u2 u3 : Value} (h : Cell4 w g v0 v1 v2 v3) (hp : PutVs g 0 [u0, u1, u2, u3] w w') : Cell4 w' g u0 u1 u2 u3 := by
  obtain ⟨-, ⟨b0, b1, b2, b3⟩, hl⟩ := h
  have e : ∀ i v, [u0, u1, u2, u3][i]? = some v → w'.cell? ⟨g, i, none⟩ = some v := fun i v hv => by simpa using hp.here i v hv
  exact ⟨⟨e 0 _ rfl, e 1 _ rfl, e 2 _ rfl, e 3 _ rfl⟩, ⟨by rw [hp.touch.frozen]; exact b0, by rw [hp.touch.frozen]; exact b1, by rw [hp.touch.frozen]; exact b2, by rw [hp.touch.frozen]; exact b3⟩, by rw [hp.touch.size]; exact hl⟩
theorem ret_intU {a b : Int} (h : a = b) : Ending.returned (.int .i64 a) = .returned (.int .i64 b) := by rw [h]
/-- What the closure, and each, answer. -/
def RetVis (WV : World) (p : Prop) [Decidable p] (V : World → Prop) (e : Ending) (w' : World) : Prop := e = .returned (.int .i64 (if p then 0 else 1)) ∧ Ext WV w' ∧ (p → V w')
theorem sign_ne (q : Rat) : (q.num.sign != 0) = decide (q ≠ 0) := by
  by_cases h : q = 0
  · subst h; rfl
  · have : q.num.sign ≠ 0 := fun e => h ((sign_zero_iff q).1 e)
    simp [h, this]
set_option maxRecDepth 100000 in
set_option maxHeartbeats 8000000 in
theorem visit_any (u : U) (A : Option Addr) (n c bG bM bR bI bU : Nat) (P : Option Addr) (k cp : Nat) (gs : List Rat) (R : Option Addr) (dR : Nat) (ran : List Bool) (plan : List Bool) (bC h : Nat) (WV w : World) (hok : u.ok = true) (hk8 : k ≤ 8) (hpl : plan.length ≤ 8) (hn : n ≤ maxLen) (hh : h < k) (hm : DayM WV u A n c bG bM bR bI bU P k cp gs R dR ran) (hE : Ext WV w) (hC : WV.heap.size ≤ bC) (hv : VarQ w WV.heap.size [bC] bC (u.dayTo plan ran gs h)) :
    Calls Try.prog 37 #[.int .i64 (h : Int), .pointer (some ⟨bG, 0, none⟩), .pointer (some ⟨bM, 0, none⟩), .pointer (some ⟨bR, 0, none⟩), .pointer (some ⟨bC, 0, none⟩), .pointer (some ⟨bI, 0, none⟩), .pointer (some ⟨bU, 0, none⟩)] w (RetVis WV (u.hourOk (ran.getD h false) (gs.getD h 0)) fun w' => VarQ w' WV.heap.size [bC] bC (u.dayTo plan ran gs (h + 1))) := by
  have HM := Lib.hid hm
  have HE := Lib.hid hE
  have HBC := Lib.hid hC
  obtain ⟨sv, Av, nv, cv, tv, Bv, mv, dv, hKv, hQv, hAv⟩ := hv
  have KC := Lib.hid hKv
  have Qv := Lib.hid hQv
  have HAv := Lib.hid hAv
  have HOKU := Lib.hid hok
  have HPLN := Lib.hid hpl
  clear hm hE hC hKv hQv hAv hok hpl
  have HZ : Hid (∀ j, j ≤ k → Sz 8388674 (u.dayTo plan ran gs j)) := fun j hj => (sz_dayTo HOKU.out (K := 1048576) HPLN.out (fun i hi => HM.out.gs.sz (by omega) i) j (by rw [HM.out.gs.1]; exact hj)).mono (by have := Nat.mul_le_mul_right (1048576 + 8) (show j ≤ 8 by omega); omega)
  have HZh := Lib.hid (HZ.out h (by omega))
  have HZh1 := Lib.hid (HZ.out (h + 1) (by omega))
  clear HZ
  obtain ⟨bP, oP, hP, hbP, hcP⟩ := HM.out.gs.2 (by omega)
  subst hP
  obtain ⟨se, Ae, ne, ce, te, Be, me, de, p0, p1, p2, p3, hpi, lp1, lp2⟩ := hcP h hh
  have HP4 := Lib.hid (And.intro p0 (And.intro p1 (And.intro p2 p3)))
  have He := Lib.hid hpi
  have HSE : Hid (Sz 1048576 (gs.getD h 0)) := HM.out.gs.sz (by omega) h
  obtain ⟨bQ, oR, hR, hbR, hcR⟩ := HM.out.ran.2 (by omega)
  subst hR
  have HRW := Lib.hid (hcR h hh)
  have HDT := Lib.hid (dayTo_succ u plan ran gs h)
  have HAE := Lib.hid (fun a b => allocE_ok (q := gs.getD h 0) HOKU.out a b)
  clear hcP hcR p0 p1 p2 p3 hpi hbP hbR
  have HHO : Hid (∀ r q, u.hourOk r q = (¬ q < 0 ∧ ¬ ((u.top : Int) : Rat) < q ∧ (r = false → q = 0))) := fun _ _ => rfl
  obtain ⟨pk, hpk⟩ : ∃ v, gs.getD h 0 = v := ⟨_, rfl⟩
  obtain ⟨bb, hbb⟩ : ∃ v, ran.getD h false = v := ⟨_, rfl⟩
  rw [hpk] at HDT He HSE HAE ⊢
  rw [hbb] at HDT HRW ⊢
  clear hpk hbb
  obtain ⟨sm, Am, nm, cm, tm, Bm, mm, dm, hKm, hQm, -⟩ := HM.out.most
  have KM := Lib.hid hKm
  have Qm := Lib.hid hQm
  obtain ⟨si, Ai, ni, ci, ti, Bi, mi, di, hKi, hQi, -⟩ := HM.out.idle
  have KI := Lib.hid hKi
  have Qi := Lib.hid hQi
  clear hKm hQm hKi hQi
  have htb := total_bd u.steps
  have htop : 0 ≤ u.top ∧ u.top ≤ 3000000 := by
    unfold U.top
    split <;> omega
  obtain ⟨ht0, ht1⟩ := htop
  have hid0 := (U.good HOKU.out).id0
  have hid9 := (U.good HOKU.out).id9
  clear htb
  obtain ⟨top, htop⟩ : ∃ v, u.top = v := ⟨_, rfl⟩
  obtain ⟨idl, hidl⟩ : ∃ v, u.idle = v := ⟨_, rfl⟩
  rw [htop] at Qm HAE HHO ht0 ht1
  rw [hidl] at Qi HDT hid0 hid9
  clear htop hidl
  have HNEG := Lib.hid (sign_neg_iff pk)
  have HNE := Lib.hid (sign_ne pk)
  go_enter Try.func37, Try.ntmps37
  have xg := Ext.cellOf HE.out HM.out.gen
  have zg := World.block_lt_of_cell? _ _ xg
  have xp0 := Ext.cellOf HE.out HP4.out.1
  have xp1 := Ext.cellOf HE.out HP4.out.2.1
  have xp2 := Ext.cellOf HE.out HP4.out.2.2.1
  have xp3 := Ext.cellOf HE.out HP4.out.2.2.2
  have zp := World.block_lt_of_cell? _ _ xp0
  have hz0 : (0 : Int) ≤ (h : Int) := by omega
  have hzn : (h : Int) < (k : Int) := by omega
  go_wp2_with fail
  clear xp0 xp1 xp2 xp3 zp xg zg
  have kw1 := Cell4.new w _ rfl (.bool se) (.slice Ae ne ce) (.bool te) (.slice Be me de) 30
  have hE : Ext w (w.alloc (.cells #[.bool se, .slice Ae ne ce, .bool te, .slice Be me de] 30)) := Ext.al Ext.rfl' _
  generalize w.alloc (.cells #[.bool se, .slice Ae ne ce, .bool te, .slice Be me de] 30) = w1 at *
  have Ew1 := Lib.hid hE
  clear hE
  have Kq := Lib.hid kw1
  clear kw1
  refine (qsign_any se Ae ne ce te Be me de _ w1 (He.out.ext (Ext.trans HE.out Ew1.out))).mono ?_
  rintro e w2 ⟨rfl, hE⟩
  have Ew2 := Lib.hid hE
  clear hE
  obtain ⟨sg, hsg⟩ : ∃ x, Int.sign (Rat.num (pk)) = x := ⟨_, rfl⟩
  rw [hsg]
  have Hsg := Lib.hid hsg
  clear hsg
  rw [Hsg.out] at HNEG HNE
  by_cases h0 : pk < 0
  · have hb : decide (sg < 0) = true := decide_eq_true (HNEG.out.2 h0)
    have H0 := Lib.hid h0
    clear h0
    go_wp2_with fail
    go_ret
    refine ⟨ret_intU ?_, (Ext.trans HE.out (Ext.trans Ew1.out Ew2.out)), fun hh => absurd hh ?_⟩
    · rw [if_neg]
      rw [HHO.out]
      exact fun hh => hh.1 H0.out
    · rw [HHO.out]
      exact fun hh => hh.1 H0.out
  have hb : decide (sg < 0) = false := decide_eq_false (fun e => h0 (HNEG.out.1 e))
  have H0 := Lib.hid h0
  clear h0
  obtain ⟨⟨xq0, xq1, xq2, xq3⟩, -, zq⟩ := (Kq.out.ext Ew2.out)
  obtain ⟨⟨xM0, xM1, xM2, xM3⟩, -, zM⟩ := (KM.out.ext (Ext.trans HE.out (Ext.trans Ew1.out Ew2.out)))
  go_wp2_with fail
  clear xq0 xq1 xq2 xq3 zq xM0 xM1 xM2 xM3 zM
  refine (qcmp_any se Ae ne ce te Be me de _ sm Am nm cm tm Bm mm dm _ w2 ⟨(He.out.ext (Ext.trans HE.out (Ext.trans Ew1.out Ew2.out))), by omega, by omega⟩ ((Qm.out.ext (Ext.trans HE.out (Ext.trans Ew1.out Ew2.out))).arg (sz_small (z := top) (by omega) (by omega)) (by omega))).mono ?_
  rintro e w3 ⟨rfl, hE⟩
  have Ew3 := Lib.hid hE
  clear hE
  obtain ⟨cm, hcm⟩ : ∃ x, cmpQ (pk) (((top : Int) : Rat)) = x := ⟨_, rfl⟩
  rw [hcm]
  have Hcm := Lib.hid hcm
  clear hcm
  have HPOS := Lib.hid (cmpQ_pos pk ((top : Int) : Rat))
  rw [Hcm.out] at HPOS
  by_cases h1 : ((top : Int) : Rat) < pk
  · have hb3 : decide (0 < cm) = true := decide_eq_true (HPOS.out.2 h1)
    have H1 := Lib.hid h1
    clear h1
    go_wp2_with fail
    go_ret
    refine ⟨ret_intU ?_, (Ext.trans HE.out (Ext.trans Ew1.out (Ext.trans Ew2.out Ew3.out))), fun hh => absurd hh ?_⟩
    · rw [if_neg]
      rw [HHO.out]
      exact fun hh => hh.2.1 H1.out
    · rw [HHO.out]
      exact fun hh => hh.2.1 H1.out
  have hb3 : decide (0 < cm) = false := decide_eq_false (fun e => h1 (HPOS.out.1 e))
  have H1 := Lib.hid h1
  clear h1
  have HA0 := Lib.hid (HAE.out H0.out H1.out)
  cases bb
  · skip
    have xr := Ext.cellOf (Ext.trans HE.out (Ext.trans Ew1.out (Ext.trans Ew2.out Ew3.out))) HM.out.ranc
    have zr := World.block_lt_of_cell? _ _ xr
    have xb := Ext.cellOf (Ext.trans HE.out (Ext.trans Ew1.out (Ext.trans Ew2.out Ew3.out))) HRW.out
    have zb := World.block_lt_of_cell? _ _ xb
    obtain ⟨⟨xq0, xq1, xq2, xq3⟩, -, zq⟩ := (Kq.out.ext (Ext.trans Ew2.out Ew3.out))
    go_wp2_with fail
    clear xq0 xq1 xq2 xq3 zq
    clear xr zr xb zb
    refine (qsign_any se Ae ne ce te Be me de _ w3 (He.out.ext (Ext.trans HE.out (Ext.trans Ew1.out (Ext.trans Ew2.out Ew3.out))))).mono ?_
    rintro e w4 ⟨rfl, hE⟩
    have Ew4 := Lib.hid hE
    clear hE
    obtain ⟨sh, hsh⟩ : ∃ x, Int.sign (Rat.num (pk)) = x := ⟨_, rfl⟩
    rw [hsh]
    have Hsh := Lib.hid hsh
    clear hsh
    rw [Hsg.out] at Hsh
    obtain rfl := Hsh.out
    clear Hsh
    by_cases h2 : pk = 0
    rotate_left
    · have hb4 : (sg != 0) = true := by rw [HNE.out]; exact decide_eq_true h2
      have H2 := Lib.hid h2
      clear h2
      have xr := Ext.cellOf (Ext.trans HE.out (Ext.trans Ew1.out (Ext.trans Ew2.out (Ext.trans Ew3.out Ew4.out)))) HM.out.ranc
      have zr := World.block_lt_of_cell? _ _ xr
      have xb := Ext.cellOf (Ext.trans HE.out (Ext.trans Ew1.out (Ext.trans Ew2.out (Ext.trans Ew3.out Ew4.out)))) HRW.out
      have zb := World.block_lt_of_cell? _ _ xb
      go_wp2_with fail
      go_ret
      refine ⟨ret_intU ?_, (Ext.trans HE.out (Ext.trans Ew1.out (Ext.trans Ew2.out (Ext.trans Ew3.out Ew4.out)))), fun hh => absurd hh ?_⟩
      · rw [if_neg]
        rw [HHO.out]
        exact fun hh => H2.out (hh.2.2 rfl)
      · rw [HHO.out]
        exact fun hh => H2.out (hh.2.2 rfl)
    have hb4 : (sg != 0) = false := by rw [HNE.out]; exact decide_eq_false (fun e => e h2)
    have H2 := Lib.hid h2
    clear h2
    have xr := Ext.cellOf (Ext.trans HE.out (Ext.trans Ew1.out (Ext.trans Ew2.out (Ext.trans Ew3.out Ew4.out)))) HM.out.ranc
    have zr := World.block_lt_of_cell? _ _ xr
    have xb := Ext.cellOf (Ext.trans HE.out (Ext.trans Ew1.out (Ext.trans Ew2.out (Ext.trans Ew3.out Ew4.out)))) HRW.out
    have zb := World.block_lt_of_cell? _ _ xb
    obtain ⟨⟨xq0, xq1, xq2, xq3⟩, -, zq⟩ := (Kq.out.ext (Ext.trans Ew2.out (Ext.trans Ew3.out Ew4.out)))
    have xu2 := Ext.cellOf (Ext.trans HE.out (Ext.trans Ew1.out (Ext.trans Ew2.out (Ext.trans Ew3.out Ew4.out)))) HM.out.unit.2.2.1
    have zu := World.block_lt_of_cell? _ _ xu2
    go_wp2_with fail
    clear xq0 xq1 xq2 xq3 zq
    clear xr zr xb zb
    clear xu2 zu
    refine (costL_any A n c u.steps se Ae ne ce te Be me de pk w4 (HM.out.steps.below (Ext.trans HE.out (Ext.trans Ew1.out (Ext.trans Ew2.out (Ext.trans Ew3.out Ew4.out))))) hn (He.out.ext (Ext.trans HE.out (Ext.trans Ew1.out (Ext.trans Ew2.out (Ext.trans Ew3.out Ew4.out))))) (by omega) (by omega)).mono ?_
    rintro e w5 ⟨sy, Ay, ny, cy, ty, By, my, dy, rfl, hQ, hE⟩
    have Ew5 := Lib.hid hE
    clear hE
    have Qy := Lib.hid hQ
    clear hQ
    rw [HA0.out]
    obtain ⟨⟨xC0, xC1, xC2, xC3⟩, -, zC⟩ := (KC.out.ext (Ext.trans Ew1.out (Ext.trans Ew2.out (Ext.trans Ew3.out (Ext.trans Ew4.out Ew5.out)))))
    go_wp2_with fail
    clear xC0 xC1 xC2 xC3 zC
    have kw6 := Cell4.new w5 _ rfl (.bool sy) (.slice Ay ny cy) (.bool ty) (.slice By my dy) 30
    have hE : Ext w5 (w5.alloc (.cells #[.bool sy, .slice Ay ny cy, .bool ty, .slice By my dy] 30)) := Ext.al Ext.rfl' _
    generalize w5.alloc (.cells #[.bool sy, .slice Ay ny cy, .bool ty, .slice By my dy] 30) = w6 at *
    have Ew6 := Lib.hid hE
    clear hE
    have Ky := Lib.hid kw6
    clear kw6
    refine (qadd_any sv Av nv cv tv Bv mv dv _ sy Ay ny cy ty By my dy _ w6 ((Qv.out.ext (Ext.trans Ew1.out (Ext.trans Ew2.out (Ext.trans Ew3.out (Ext.trans Ew4.out (Ext.trans Ew5.out Ew6.out)))))).arg HZh.out (by omega)) ((Qy.out.ext Ew6.out).arg (szL_costV HSE.out) (by omega))).mono ?_
    rintro e w7 ⟨sf, Af, nf, cf, tf, Bf, mf, df, rfl, hQ, hE⟩
    have Ew7 := Lib.hid hE
    clear hE
    have Qf := Lib.hid hQ
    clear hQ
    obtain ⟨⟨xC0, xC1, xC2, xC3⟩, ⟨yC0, yC1, yC2, yC3⟩, zC⟩ := (KC.out.ext (Ext.trans Ew1.out (Ext.trans Ew2.out (Ext.trans Ew3.out (Ext.trans Ew4.out (Ext.trans Ew5.out (Ext.trans Ew6.out Ew7.out)))))))
    go_wp2_with fail
    clear xC0 xC1 xC2 xC3 yC0 yC1 yC2 yC3 zC
    have KC_1 := Lib.hid ((KC.out.ext (Ext.trans Ew1.out (Ext.trans Ew2.out (Ext.trans Ew3.out (Ext.trans Ew4.out (Ext.trans Ew5.out (Ext.trans Ew6.out Ew7.out))))))).put4 (.bool sf) (.slice Af nf cf) (.bool tf) (.slice Bf mf df))
    have NJ1 := Lib.hid (ext_put4 (Ext.trans HE.out (Ext.trans Ew1.out (Ext.trans Ew2.out (Ext.trans Ew3.out (Ext.trans Ew4.out (Ext.trans Ew5.out (Ext.trans Ew6.out Ew7.out))))))) (g := bC) HBC.out 0 (.bool sf) (.slice Af nf cf) (.bool tf) (.slice Bf mf df))
    have NZ1 : Hid (w7.heap.size ≤ (put4 w7 (bC) 0 (.bool sf) (.slice Af nf cf) (.bool tf) (.slice Bf mf df)).heap.size) := by unfold Hid; rw [put4_size]; exact Nat.le_refl _
    have Qf_1 := Lib.hid (Qf.out.put4A (g := bC) (Qf.out.span (.inl (Nat.lt_of_lt_of_le KC.out.2.2 (Nat.le_trans Ew1.out.size (Nat.le_trans Ew2.out.size (Nat.le_trans Ew3.out.size (Nat.le_trans Ew4.out.size (Nat.le_trans Ew5.out.size Ew6.out.size)))))))) 0 (.bool sf) (.slice Af nf cf) (.bool tf) (.slice Bf mf df))
    unfold put4 at KC_1 NJ1 NZ1 Qf_1
    simp only [Nat.zero_add] at KC_1 NJ1 NZ1 Qf_1
    generalize ((((w7.setCell ⟨bC, 0, none⟩ (.bool sf)).setCell ⟨bC, 1, none⟩ (.slice Af nf cf)).setCell ⟨bC, 2, none⟩ (.bool tf)).setCell ⟨bC, 3, none⟩ (.slice Bf mf df)) = w8 at *
    go_ret
    refine ⟨ret_intU ?_, NJ1.out, fun _ => ⟨sf, Af, nf, cf, tf, Bf, mf, df, KC_1.out, ?_, ?_⟩⟩
    · rw [if_pos]
      rw [HHO.out]
      exact ⟨H0.out, H1.out, fun _ => H2.out⟩
    · rw [HDT.out]
      first | rw [if_pos trivial] | rw [if_pos rfl] | rw [if_neg (by decide), Rat.add_zero]
      exact Qf_1.out.base (Nat.le_trans HE.out.size (Nat.le_trans Ew1.out.size (Nat.le_trans Ew2.out.size (Nat.le_trans Ew3.out.size (Nat.le_trans Ew4.out.size (Nat.le_trans Ew5.out.size Ew6.out.size))))))
    · intro x hx
      simp only [List.mem_cons, List.not_mem_nil, or_false] at hx
      subst hx
      exact (Qf.out.span (.inl (Nat.lt_of_lt_of_le KC.out.2.2 (Nat.le_trans Ew1.out.size (Nat.le_trans Ew2.out.size (Nat.le_trans Ew3.out.size (Nat.le_trans Ew4.out.size (Nat.le_trans Ew5.out.size Ew6.out.size))))))))
  have xr := Ext.cellOf (Ext.trans HE.out (Ext.trans Ew1.out (Ext.trans Ew2.out Ew3.out))) HM.out.ranc
  have zr := World.block_lt_of_cell? _ _ xr
  have xb := Ext.cellOf (Ext.trans HE.out (Ext.trans Ew1.out (Ext.trans Ew2.out Ew3.out))) HRW.out
  have zb := World.block_lt_of_cell? _ _ xb
  obtain ⟨⟨xC0, xC1, xC2, xC3⟩, -, zC⟩ := (KC.out.ext (Ext.trans Ew1.out (Ext.trans Ew2.out Ew3.out)))
  obtain ⟨⟨xI0, xI1, xI2, xI3⟩, -, zI⟩ := (KI.out.ext (Ext.trans HE.out (Ext.trans Ew1.out (Ext.trans Ew2.out Ew3.out))))
  go_wp2_with fail
  clear xC0 xC1 xC2 xC3 zC xI0 xI1 xI2 xI3 zI
  clear xr zr xb zb
  refine (qadd_any sv Av nv cv tv Bv mv dv _ si Ai ni ci ti Bi mi di _ w3 ((Qv.out.ext (Ext.trans Ew1.out (Ext.trans Ew2.out Ew3.out))).arg HZh.out (by omega)) ((Qi.out.ext (Ext.trans HE.out (Ext.trans Ew1.out (Ext.trans Ew2.out Ew3.out)))).arg (sz_small (z := idl) (by omega) (by omega)) (by omega))).mono ?_
  rintro e w9 ⟨sz, Az, nz, cz, tz, Bz, mz, dz, rfl, hQ, hE⟩
  have Ew9 := Lib.hid hE
  clear hE
  have Qz := Lib.hid hQ
  clear hQ
  go_wp2_with (
    refine wpList_storeV rfl 30 _ _ rfl bC 0 [.bool sz, .slice Az nz cz, .bool tz, .slice Bz mz dz] rfl rfl (KC.out.ext (Ext.trans Ew1.out (Ext.trans Ew2.out (Ext.trans Ew3.out Ew9.out)))).there (by kernel_rfl) rfl ?_
    intro w10 hp
    have HP2 := Lib.hid hp
    clear hp
    have KC_2 := Lib.hid ((KC.out.ext (Ext.trans Ew1.out (Ext.trans Ew2.out (Ext.trans Ew3.out Ew9.out)))).putVs HP2.out)
    have NJ2 := Lib.hid (HP2.out.touch.ext _ (Ext.trans HE.out (Ext.trans Ew1.out (Ext.trans Ew2.out (Ext.trans Ew3.out Ew9.out)))) HBC.out)
    have NZ2 : Hid (w9.heap.size ≤ w10.heap.size) := by unfold Hid; rw [HP2.out.touch.size]; exact Nat.le_refl _
    have Kq_2 := Lib.hid (Cell4.touch HP2.out.touch (Kq.out.ext (Ext.trans Ew2.out (Ext.trans Ew3.out Ew9.out))) (Ne.symm (Nat.ne_of_lt (Nat.lt_of_lt_of_le KC.out.2.2 (Nat.le_trans (Nat.le_refl _) (Nat.le_refl _))))))
    have Qz_2 := Lib.hid (QCan.touch HP2.out.touch Qz.out (Qz.out.span (.inl (Nat.lt_of_lt_of_le KC.out.2.2 (Nat.le_trans Ew1.out.size (Nat.le_trans Ew2.out.size Ew3.out.size))))))
    have xu2 := Ext.cellOf NJ2.out HM.out.unit.2.2.1
    have zu := World.block_lt_of_cell? _ _ xu2
    obtain ⟨⟨xq0, xq1, xq2, xq3⟩, -, zq⟩ := Kq_2.out)
  clear xq0 xq1 xq2 xq3 zq
  clear xu2 zu
  refine (costL_any A n c u.steps se Ae ne ce te Be me de pk w10 (HM.out.steps.below NJ2.out) hn (He.out.ext NJ2.out) (by omega) (by omega)).mono ?_
  rintro e w11 ⟨sy, Ay, ny, cy, ty, By, my, dy, rfl, hQ, hE⟩
  have Ew11 := Lib.hid hE
  clear hE
  have Qy := Lib.hid hQ
  clear hQ
  rw [HA0.out]
  obtain ⟨⟨xC0, xC1, xC2, xC3⟩, -, zC⟩ := (KC_2.out.ext Ew11.out)
  go_wp2_with fail
  clear xC0 xC1 xC2 xC3 zC
  have kw12 := Cell4.new w11 _ rfl (.bool sy) (.slice Ay ny cy) (.bool ty) (.slice By my dy) 30
  have hE : Ext w11 (w11.alloc (.cells #[.bool sy, .slice Ay ny cy, .bool ty, .slice By my dy] 30)) := Ext.al Ext.rfl' _
  generalize w11.alloc (.cells #[.bool sy, .slice Ay ny cy, .bool ty, .slice By my dy] 30) = w12 at *
  have Ew12 := Lib.hid hE
  clear hE
  have Ky := Lib.hid kw12
  clear kw12
  refine (qadd_any sz Az nz cz tz Bz mz dz _ sy Ay ny cy ty By my dy _ w12 ((Qz_2.out.ext (Ext.trans Ew11.out Ew12.out)).arg (HZh.out.add (sz_small (z := idl) (by omega) (by omega))) (by omega)) ((Qy.out.ext Ew12.out).arg (szL_costV HSE.out) (by omega))).mono ?_
  rintro e w13 ⟨sf, Af, nf, cf, tf, Bf, mf, df, rfl, hQ, hE⟩
  have Ew13 := Lib.hid hE
  clear hE
  have Qf := Lib.hid hQ
  clear hQ
  obtain ⟨⟨xC0, xC1, xC2, xC3⟩, ⟨yC0, yC1, yC2, yC3⟩, zC⟩ := (KC_2.out.ext (Ext.trans Ew11.out (Ext.trans Ew12.out Ew13.out)))
  go_wp2_with fail
  clear xC0 xC1 xC2 xC3 yC0 yC1 yC2 yC3 zC
  have KC_3 := Lib.hid ((KC_2.out.ext (Ext.trans Ew11.out (Ext.trans Ew12.out Ew13.out))).put4 (.bool sf) (.slice Af nf cf) (.bool tf) (.slice Bf mf df))
  have NJ3 := Lib.hid (ext_put4 (Ext.trans NJ2.out (Ext.trans Ew11.out (Ext.trans Ew12.out Ew13.out))) (g := bC) HBC.out 0 (.bool sf) (.slice Af nf cf) (.bool tf) (.slice Bf mf df))
  have NZ3 : Hid (w13.heap.size ≤ (put4 w13 (bC) 0 (.bool sf) (.slice Af nf cf) (.bool tf) (.slice Bf mf df)).heap.size) := by unfold Hid; rw [put4_size]; exact Nat.le_refl _
  have Qf_3 := Lib.hid (Qf.out.put4A (g := bC) (Qf.out.span (.inl (Nat.lt_of_lt_of_le KC.out.2.2 (Nat.le_trans Ew1.out.size (Nat.le_trans Ew2.out.size (Nat.le_trans Ew3.out.size (Nat.le_trans Ew9.out.size (Nat.le_trans NZ2.out (Nat.le_trans Ew11.out.size Ew12.out.size))))))))) 0 (.bool sf) (.slice Af nf cf) (.bool tf) (.slice Bf mf df))
  unfold put4 at KC_3 NJ3 NZ3 Qf_3
  simp only [Nat.zero_add] at KC_3 NJ3 NZ3 Qf_3
  generalize ((((w13.setCell ⟨bC, 0, none⟩ (.bool sf)).setCell ⟨bC, 1, none⟩ (.slice Af nf cf)).setCell ⟨bC, 2, none⟩ (.bool tf)).setCell ⟨bC, 3, none⟩ (.slice Bf mf df)) = w14 at *
  go_ret
  refine ⟨ret_intU ?_, NJ3.out, fun _ => ⟨sf, Af, nf, cf, tf, Bf, mf, df, KC_3.out, ?_, ?_⟩⟩
  · rw [if_pos]
    rw [HHO.out]
    exact ⟨H0.out, H1.out, fun e => by cases e⟩
  · rw [HDT.out]
    first | rw [if_pos trivial] | rw [if_pos rfl] | rw [if_neg (by decide), Rat.add_zero]
    exact Qf_3.out.base (Nat.le_trans HE.out.size (Nat.le_trans Ew1.out.size (Nat.le_trans Ew2.out.size (Nat.le_trans Ew3.out.size (Nat.le_trans Ew9.out.size (Nat.le_trans NZ2.out (Nat.le_trans Ew11.out.size Ew12.out.size)))))))
  · intro x hx
    simp only [List.mem_cons, List.not_mem_nil, or_false] at hx
    subst hx
    exact (Qf.out.span (.inl (Nat.lt_of_lt_of_le KC.out.2.2 (Nat.le_trans Ew1.out.size (Nat.le_trans Ew2.out.size (Nat.le_trans Ew3.out.size (Nat.le_trans Ew9.out.size (Nat.le_trans NZ2.out (Nat.le_trans Ew11.out.size Ew12.out.size)))))))))
set_option maxRecDepth 100000 in
set_option maxHeartbeats 4000000 in
theorem each_any (u : U) (A : Option Addr) (n c bG bM bR bI bU : Nat) (P : Option Addr) (k cp : Nat) (gs : List Rat) (R : Option Addr) (dR : Nat) (ran : List Bool) (plan : List Bool) (bC : Nat) (WV w : World) (hok : u.ok = true) (hk8 : k ≤ 8) (hpl : plan.length ≤ 8) (hn : n ≤ maxLen) (hm : DayM WV u A n c bG bM bR bI bU P k cp gs R dR ran) (hE : Ext WV w) (hC : WV.heap.size ≤ bC) (hv : VarQ w WV.heap.size [bC] bC (u.dayTo plan ran gs 0)) :
    Calls Try.prog 36 #[.int .i64 (k : Int), .func (.func 37) #[] #[.pointer (some ⟨bG, 0, none⟩), .pointer (some ⟨bM, 0, none⟩), .pointer (some ⟨bR, 0, none⟩), .pointer (some ⟨bC, 0, none⟩), .pointer (some ⟨bI, 0, none⟩), .pointer (some ⟨bU, 0, none⟩)]] w (RetVis WV (u.hoursOk ran gs k) fun w' => VarQ w' WV.heap.size [bC] bC (u.dayTo plan ran gs k)) := by
  have HM := Lib.hid hm
  have HE := Lib.hid hE
  have HBC := Lib.hid hC
  have HV := Lib.hid hv
  have HOKU := Lib.hid hok
  have HPLN := Lib.hid hpl
  clear hm hE hC hv hok hpl
  go_enter Try.func36, Try.ntmps36
  go_wp2_with fail
  go_loopw [8] (fun i wr => ∃ h : Nat, h ≤ k ∧ i = .int .i64 (h : Int) ∧ Hid (Ext WV wr) ∧ Hid (VarQ wr WV.heap.size [bC] bC (u.dayTo plan ran gs h)) ∧ Hid (u.hoursOk ran gs h)) (fun i _ => k - (intOf i).toNat)
  case atStart => exact ⟨0, by omega, rfl, HE.out, HV.out, fun i hi => by omega⟩
  case round =>
    clear HE HV
    obtain ⟨h, hh, rfl, HE, HV, HO⟩ := hrel
    by_cases hlt : h < k
    rotate_left
    · have hkn : h = k := by omega
      subst hkn
      have hbv : decide ((h : Int) < (h : Int)) = false := by simp
      have hbv2 : decide (h < h) = false := by simp
      go_wp2_with fail
      go_ret
      exact ⟨ret_intU (by rw [if_pos HO.out]), HE.out, fun _ => HV.out⟩
    have hbv : decide ((h : Int) < (k : Int)) = true := by simp; omega
    have hbv2 : decide (h < k) = true := by simp; omega
    go_wp2_with fail
    refine (visit_any u A n c bG bM bR bI bU P k cp gs R dR ran plan bC h WV wr HOKU.out hk8 HPLN.out hn hlt HM.out HE.out HBC.out HV.out).mono ?_
    rintro e w2 ⟨rfl, hE2, hv2⟩
    have HE2 := Lib.hid hE2
    have HV2 := Lib.hid hv2
    clear hE2 hv2
    by_cases hq : (u.hourOk (ran.getD h false) (gs.getD h 0))
    · rw [if_pos hq]
      have HQ := Lib.hid hq
      have hbq : ((0 : Int) != 0) = false := by decide
      clear hq
      go_wp2_with fail
      go_roundw
      case rel => exact ⟨h + 1, by omega, by go_num, HE2.out, HV2.out HQ.out, fun i hi => by
        by_cases e : i = h
        · rw [e]; exact HQ.out
        · exact HO.out i (by omega)⟩
      case measure => simp [intOf]; omega
    · rw [if_neg hq]
      have HQ := Lib.hid hq
      have hbq : ((1 : Int) != 0) = true := by decide
      clear hq
      go_wp2_with fail
      go_ret
      exact ⟨ret_intU (by rw [if_neg (fun hx => HQ.out (hx h hlt))]), HE2.out, fun hx => absurd (hx h hlt) HQ.out⟩
end Go.Proofs.Ytfokholpgakjpaa
