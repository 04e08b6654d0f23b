/- The walk of the law PathHigherCosts. Printed by gen_pcost.py. -/
import Derived.Test.YtjinpfnefeiooaaVBox
namespace Go.Proofs.Ytjinpfnefeiooaa
open Go.RowKit

theorem U16.of {n : Int} (h : (Lit.int .u16 n).wf = true) : 0 ≤ n ∧ n ≤ 65535 := by
  have h' := h
  simp [Lit.wf, IntKind.min, IntKind.max, IntKind.signed, IntKind.bits] at h'
  exact ⟨by omega, by omega⟩
set_option maxRecDepth 100000 in
set_option maxHeartbeats 16000000 in
theorem pcost_any (u : U) (A : Option Addr) (n c : Nat) (P : Option Addr) (k cp : Nat) (ps : List Rat) (ln : Nat → Nat × Nat) (z1 z2 : Int) (w : World) (hs : StepsAt w A n u.steps) (hn : n ≤ maxLen) (hp : QsRaw w P k ps ln) (hk : k ≤ maxLen) (hz1 : 0 ≤ z1 ∧ z1 ≤ 65535) (hz2 : 0 ≤ z2 ∧ z2 ≤ 65535) :
    Calls Try.prog 3 #[u.val A n c, .slice P k cp, .int .u16 z1, .int .u16 z2] w fun e w' => e = .returned (.bool true) ∧ Ext w w' := by
  have HS := Lib.hid hs
  have HP := Lib.hid hp
  have HPL := Lib.hid hp.1
  clear hs hp
  have HKM := Lib.hid hk
  obtain ⟨hza, hzb⟩ := hz1
  obtain ⟨hzc, hzd⟩ := hz2
  go_enter Try.func3, Try.ntmps3
  go_wp2_with fail
  have k0 := UBox.new (w) (w.heap.size) (by simp) u A n c 24
  have hE : Ext w ((w).alloc (.cells #[.int .i64 u.bus, .int .i64 u.mn, .slice A n c, .int .i64 u.up, .int .i64 u.down, .int .i64 u.start, .int .i64 u.idle, .int .i64 u.spin, .int .i64 u.on] 24)) := (Ext.al Ext.rfl' _)
  have hsz : ((w).alloc (.cells #[.int .i64 u.bus, .int .i64 u.mn, .slice A n c, .int .i64 u.up, .int .i64 u.down, .int .i64 u.start, .int .i64 u.idle, .int .i64 u.spin, .int .i64 u.on] 24)).heap.size = w.heap.size + 1 := by simp
  generalize (w).alloc (.cells #[.int .i64 u.bus, .int .i64 u.mn, .slice A n c, .int .i64 u.up, .int .i64 u.down, .int .i64 u.start, .int .i64 u.idle, .int .i64 u.spin, .int .i64 u.on] 24) = w1 at *
  have SZw1 := Lib.hid hsz
  clear hsz
  have Ew1 := Lib.hid hE
  clear hE
  have Ku := Lib.hid k0
  clear k0
  refine (long27_any u A n c P k cp ps ln none 0 0 w1 (HP.out.ext Ew1.out) hk).mono ?_
  rintro e w2 ⟨⟨bl, rfl, hbl⟩, hE⟩
  have Ew2 := Lib.hid hE
  clear hE
  have HLN := Lib.hid hbl
  clear hbl
  cases bl
  rotate_left
  · skip
    go_wp2_with fail
    refine (awake_any w2).mono ?_
    rintro e wz ⟨rfl, hEz⟩
    go_wp2_with fail
    go_ret
    exact ⟨rfl, Ext.trans (Ext.trans Ew1.out Ew2.out) hEz⟩
  obtain ⟨hn100, hm100, hk30, hl6⟩ := HLN.out rfl
  clear HLN
  have HPA := Lib.hid (HP.out.at hl6)
  have HS6 : Hid (∀ i, i < k → Sz 6 (ps.getD i 0)) := fun i hi => HP.out.sz6 hl6 hi
  have HSZ : Hid (∀ i, i < ps.length → Sz 1000 (ps.getD i 0)) := fun i hi => (HS6.out i (by rw [← HPL.out]; exact hi)).mono (by omega)
  clear hl6
  go_wp2_with fail
  refine (awake_any w2).mono ?_
  rintro e w3 ⟨rfl, hE⟩
  have Ew3 := Lib.hid hE
  clear hE
  obtain ⟨st, hst⟩ : ∃ v, IntKind.i64.wrap (u.start + z1) = v := ⟨_, rfl⟩
  obtain ⟨id, hid⟩ : ∃ v, IntKind.i64.wrap (u.idle + z2) = v := ⟨_, rfl⟩
  have HST := Lib.hid hst
  have HID := Lib.hid hid
  have zu := World.block_lt_of_cell? _ _ (Ku.out.ext (Ext.trans Ew2.out Ew3.out)).1
  have xu0 := (Ku.out.ext (Ext.trans Ew2.out Ew3.out)).1
  have xu1 := (Ku.out.ext (Ext.trans Ew2.out Ew3.out)).2.1
  have xu2 := (Ku.out.ext (Ext.trans Ew2.out Ew3.out)).2.2.1
  have xu3 := (Ku.out.ext (Ext.trans Ew2.out Ew3.out)).2.2.2.1
  have xu4 := (Ku.out.ext (Ext.trans Ew2.out Ew3.out)).2.2.2.2.1
  have xu5 := (Ku.out.ext (Ext.trans Ew2.out Ew3.out)).2.2.2.2.2.1
  have xu6 := (Ku.out.ext (Ext.trans Ew2.out Ew3.out)).2.2.2.2.2.2.1
  have xu7 := (Ku.out.ext (Ext.trans Ew2.out Ew3.out)).2.2.2.2.2.2.2.1
  have xu8 := (Ku.out.ext (Ext.trans Ew2.out Ew3.out)).2.2.2.2.2.2.2.2
  go_wp2_with fail
  clear zu xu0 xu1 xu2 xu3 xu4 xu5 xu6 xu7 xu8
  have kv := UBox.new w3 (w3.heap.size) rfl u A n c 24
  have rv := rowN_new w3 #[.int .i64 u.bus, .int .i64 u.mn, .slice A n c, .int .i64 u.up, .int .i64 u.down, .int .i64 u.start, .int .i64 u.idle, .int .i64 u.spin, .int .i64 u.on] 24
  have hE : Ext w3 (w3.alloc (.cells #[.int .i64 u.bus, .int .i64 u.mn, .slice A n c, .int .i64 u.up, .int .i64 u.down, .int .i64 u.start, .int .i64 u.idle, .int .i64 u.spin, .int .i64 u.on] 24)) := Ext.al Ext.rfl' _
  generalize w3.alloc (.cells #[.int .i64 u.bus, .int .i64 u.mn, .slice A n c, .int .i64 u.up, .int .i64 u.down, .int .i64 u.start, .int .i64 u.idle, .int .i64 u.spin, .int .i64 u.on] 24) = w4 at *
  have Ew4 := Lib.hid hE
  clear hE
  have KV := Lib.hid kv
  have RV := Lib.hid rv
  clear kv rv
  refine wp_region_lexS (C := InX w4.drew [w3.heap.size]) (by kernel_rfl) (by kernel_rfl) (inX_self _ _) ?_
  have hE : Ext w4 w4.drew := Ext.rfl'.drew
  generalize w4.drew = w5 at *
  have Ew5 := Lib.hid hE
  clear hE
  have hgu : w.heap.size ≠ w3.heap.size := by have h1 : w.heap.size < w1.heap.size := World.block_lt_of_cell? _ _ Ku.out.1; have := (Nat.le_trans Ew2.out.size Ew3.out.size); omega
  have fu5 := fun z : ExtX w5 [w3.heap.size] => z.cell (p := ⟨w.heap.size, 5, none⟩) (Ku.out.ext (Ext.trans Ew2.out (Ext.trans Ew3.out (Ext.trans Ew4.out Ew5.out)))).2.2.2.2.2.1 (by simp; omega)
  have fu6 := fun z : ExtX w5 [w3.heap.size] => z.cell (p := ⟨w.heap.size, 6, none⟩) (Ku.out.ext (Ext.trans Ew2.out (Ext.trans Ew3.out (Ext.trans Ew4.out Ew5.out)))).2.2.2.2.2.2.1 (by simp; omega)
  have HTA := Lib.hid ((RV.out.ext Ew5.out).there (o := 5) (k := 1) (by simp))
  have KV1 := Lib.hid (KV.out.ext Ew5.out)
  have RV1 := Lib.hid (RV.out.ext Ew5.out)
  repeat (refine lexAt_still (by rfl) ?_; go_big_quiet_step (fail); refine wpQuiet_nil ?_)
  refine lexAt_move (by rfl) (by kernel_rfl) ?_
  refine wpList_storeS rfl 2 _ _ rfl (w3.heap.size) 5 (.int .i64 st) rfl rfl rfl HTA.out (by kernel_rfl) rfl ?_
  intro wa hpa
  go_wp2_with fail
  have HXA := Lib.hid (inX_touch (inX_self w5 [w3.heap.size]) hpa.touch (.inl (by simp)))
  have KV2 := Lib.hid (KV1.out.set5 hpa)
  have RV2 := Lib.hid (RV1.out.putVs hpa)
  have EA := Lib.hid (hpa.touch.ext w3 (Ext.trans Ew4.out Ew5.out) (Nat.le_refl _))
  have HTB := Lib.hid (RV2.out.there (o := 6) (k := 1) (by simp))
  clear hpa
  refine And.intro HXA.out ?_
  repeat (refine lexAt_still (by rfl) ?_; go_big_quiet_step (fail); refine wpQuiet_nil ?_)
  refine lexAt_move (by rfl) (by kernel_rfl) ?_
  refine wpList_storeS rfl 2 _ _ rfl (w3.heap.size) 6 (.int .i64 id) rfl rfl rfl HTB.out (by kernel_rfl) rfl ?_
  intro wb hpb
  go_wp2_with fail
  have HXB := Lib.hid (inX_touch HXA.out hpb.touch (.inl (by simp)))
  have KV3 : Hid (UBox wb (w3.heap.size) (u.setCosts st id) A n c) := KV2.out.set6 hpb
  have EB := Lib.hid (hpb.touch.ext w3 EA.out (Nat.le_refl _))
  clear hpb
  refine And.intro HXB.out (lexAt_nil ?_)
  clear fu5 fu6 hst hid HXA HXB HTA HTB KV KV1 KV2 RV RV1 RV2
  obtain ⟨v, hv⟩ : ∃ v, u.setCosts st id = v := ⟨_, rfl⟩
  have HVS : Hid (v.steps = u.steps) := by unfold Hid; rw [← hv]; rfl
  have HV := Lib.hid hv
  rw [hv] at KV3
  clear hv
  by_cases h0 : u.pchk ps.length = 0
  rotate_left
  · obtain ⟨ck, hck⟩ : ∃ v, u.pchk ps.length = v := ⟨_, rfl⟩
    have hb : (ck != 0) = true := by rw [← hck]; simp [h0]
    have HCK := Lib.hid hck
    have HNZ := Lib.hid h0
    clear h0 hck
    have zu := World.block_lt_of_cell? _ _ (Ku.out.ext (Ext.trans Ew2.out (Ext.trans Ew3.out EB.out))).1
    have xu0 := (Ku.out.ext (Ext.trans Ew2.out (Ext.trans Ew3.out EB.out))).1
    have xu1 := (Ku.out.ext (Ext.trans Ew2.out (Ext.trans Ew3.out EB.out))).2.1
    have xu2 := (Ku.out.ext (Ext.trans Ew2.out (Ext.trans Ew3.out EB.out))).2.2.1
    have xu3 := (Ku.out.ext (Ext.trans Ew2.out (Ext.trans Ew3.out EB.out))).2.2.2.1
    have xu4 := (Ku.out.ext (Ext.trans Ew2.out (Ext.trans Ew3.out EB.out))).2.2.2.2.1
    have xu5 := (Ku.out.ext (Ext.trans Ew2.out (Ext.trans Ew3.out EB.out))).2.2.2.2.2.1
    have xu6 := (Ku.out.ext (Ext.trans Ew2.out (Ext.trans Ew3.out EB.out))).2.2.2.2.2.2.1
    have xu7 := (Ku.out.ext (Ext.trans Ew2.out (Ext.trans Ew3.out EB.out))).2.2.2.2.2.2.2.1
    have xu8 := (Ku.out.ext (Ext.trans Ew2.out (Ext.trans Ew3.out EB.out))).2.2.2.2.2.2.2.2
    go_wp2_with fail
    clear zu xu0 xu1 xu2 xu3 xu4 xu5 xu6 xu7 xu8
    refine (best_any u A n c P k cp ps wb (HS.out.below (Ext.trans Ew1.out (Ext.trans Ew2.out (Ext.trans Ew3.out EB.out)))) hn (HPA.out.ext (Ext.trans Ew1.out (Ext.trans Ew2.out (Ext.trans Ew3.out EB.out)))) HKM.out).mono ?_
    rintro e w6 ⟨vB, sx, Ax, nx, cx, tx, Bx, mx, dx, rfl, hQ, hE, hno, hrow⟩
    have Ew6 := Lib.hid hE
    clear hE
    obtain rfl := hno HNZ.out
    clear hno hrow
    rw [HCK.out]
    rw [bestV_bad HNZ.out] at hQ
    have Qx := Lib.hid hQ
    clear hQ
    have zv := World.block_lt_of_cell? _ _ (KV3.out.ext Ew6.out).1
    have xv0 := (KV3.out.ext Ew6.out).1
    have xv1 := (KV3.out.ext Ew6.out).2.1
    have xv2 := (KV3.out.ext Ew6.out).2.2.1
    have xv3 := (KV3.out.ext Ew6.out).2.2.2.1
    have xv4 := (KV3.out.ext Ew6.out).2.2.2.2.1
    have xv5 := (KV3.out.ext Ew6.out).2.2.2.2.2.1
    have xv6 := (KV3.out.ext Ew6.out).2.2.2.2.2.2.1
    have xv7 := (KV3.out.ext Ew6.out).2.2.2.2.2.2.2.1
    have xv8 := (KV3.out.ext Ew6.out).2.2.2.2.2.2.2.2
    go_wp2_with fail
    clear zv xv0 xv1 xv2 xv3 xv4 xv5 xv6 xv7 xv8
    have kw7 := Cell4.new w6 _ rfl (.bool sx) (.slice Ax nx cx) (.bool tx) (.slice Bx mx dx) 34
    have hE : Ext w6 (w6.alloc (.cells #[.bool sx, .slice Ax nx cx, .bool tx, .slice Bx mx dx] 34)) := Ext.al Ext.rfl' _
    generalize w6.alloc (.cells #[.bool sx, .slice Ax nx cx, .bool tx, .slice Bx mx dx] 34) = w7 at *
    have Ew7 := Lib.hid hE
    clear hE
    have Kx := Lib.hid kw7
    clear kw7
    refine (best_any v A n c P k cp ps w7 (HVS.out ▸ (HS.out.below (Ext.trans Ew1.out (Ext.trans Ew2.out (Ext.trans Ew3.out (Ext.trans EB.out (Ext.trans Ew6.out Ew7.out))))))) hn (HPA.out.ext (Ext.trans Ew1.out (Ext.trans Ew2.out (Ext.trans Ew3.out (Ext.trans EB.out (Ext.trans Ew6.out Ew7.out)))))) HKM.out).mono ?_
    rintro e w8 ⟨vB2, sy, Ay, ny, cy, ty, By, my, dy, rfl, hQ, hE, -, -⟩
    have Ew8 := Lib.hid hE
    clear hE
    clear hQ
    generalize v.pchk ps.length = c2 at *
    obtain ⟨⟨xx0, xx1, xx2, xx3⟩, -, zx⟩ := (Kx.out.ext Ew8.out)
    go_wp2_with fail
    clear xx0 xx1 xx2 xx3 zx
    have hE : Ext w8 (w8.alloc (.cells #[.bool sy, .slice Ay ny cy, .bool ty, .slice By my dy] 34)) := Ext.al Ext.rfl' _
    generalize w8.alloc (.cells #[.bool sy, .slice Ay ny cy, .bool ty, .slice By my dy] 34) = w9 at *
    have Ew9 := Lib.hid hE
    clear hE
    refine (qsign_any sx Ax nx cx tx Bx mx dx _ w9 (Qx.out.ext (Ext.trans Ew7.out (Ext.trans Ew8.out Ew9.out))).is).mono ?_
    rintro e w10 ⟨rfl, hE⟩
    have Ew10 := Lib.hid hE
    clear hE
    rw [sign_zero rfl]
    go_wp2_with fail
    go_ret
    exact ⟨rfl, (Ext.trans Ew1.out (Ext.trans Ew2.out (Ext.trans Ew3.out (Ext.trans EB.out (Ext.trans Ew6.out (Ext.trans Ew7.out (Ext.trans Ew8.out (Ext.trans Ew9.out Ew10.out))))))))⟩
  have HC0 := Lib.hid h0
  obtain ⟨hok, h8⟩ := pchk_zero.1 h0
  have g := U.good hok
  have hst2 : st = u.start + z1 := by rw [← HST.out]; exact IntWalk.i64_in _ (by have := g.st0; have := g.st9; omega)
  have hid2 : id = u.idle + z2 := by rw [← HID.out]; exact IntWalk.i64_in _ (by have := g.id0; have := g.id9; omega)
  have HCF : Hid (v.pchk ps.length = 0 → v.bestV ps ≤ u.bestV ps) := fun e => by
    rw [← HV.out] at e ⊢
    exact cost_facts (by omega) (by omega) h0 e
  have HVB : Hid (v.pchk ps.length ≠ 0 → v.ok = false) := fun e => pchk_bad e h8
  have HOF := Lib.hid (fun hf => off_facts (u := u) (ps := ps) h0 hf)
  clear h0 hok h8 g hst2 hid2
  have zu := World.block_lt_of_cell? _ _ (Ku.out.ext (Ext.trans Ew2.out (Ext.trans Ew3.out EB.out))).1
  have xu0 := (Ku.out.ext (Ext.trans Ew2.out (Ext.trans Ew3.out EB.out))).1
  have xu1 := (Ku.out.ext (Ext.trans Ew2.out (Ext.trans Ew3.out EB.out))).2.1
  have xu2 := (Ku.out.ext (Ext.trans Ew2.out (Ext.trans Ew3.out EB.out))).2.2.1
  have xu3 := (Ku.out.ext (Ext.trans Ew2.out (Ext.trans Ew3.out EB.out))).2.2.2.1
  have xu4 := (Ku.out.ext (Ext.trans Ew2.out (Ext.trans Ew3.out EB.out))).2.2.2.2.1
  have xu5 := (Ku.out.ext (Ext.trans Ew2.out (Ext.trans Ew3.out EB.out))).2.2.2.2.2.1
  have xu6 := (Ku.out.ext (Ext.trans Ew2.out (Ext.trans Ew3.out EB.out))).2.2.2.2.2.2.1
  have xu7 := (Ku.out.ext (Ext.trans Ew2.out (Ext.trans Ew3.out EB.out))).2.2.2.2.2.2.2.1
  have xu8 := (Ku.out.ext (Ext.trans Ew2.out (Ext.trans Ew3.out EB.out))).2.2.2.2.2.2.2.2
  go_wp2_with fail
  clear zu xu0 xu1 xu2 xu3 xu4 xu5 xu6 xu7 xu8
  refine (best_any u A n c P k cp ps wb (HS.out.below (Ext.trans Ew1.out (Ext.trans Ew2.out (Ext.trans Ew3.out EB.out)))) hn (HPA.out.ext (Ext.trans Ew1.out (Ext.trans Ew2.out (Ext.trans Ew3.out EB.out)))) HKM.out).mono ?_
  rintro e w11 ⟨vB, sx, Ax, nx, cx, tx, Bx, mx, dx, rfl, hQ, hE, hno, hrow⟩
  have Ew11 := Lib.hid hE
  clear hE
  obtain ⟨gB, rfl, hgB0, hRB, hcB⟩ := hrow HC0.out
  clear hno hrow
  rw [HC0.out, HPL.out]
  rw [HPL.out] at hRB hcB
  have HBB := Lib.hid (best_bools ((best_facts HC0.out).2.2.2.trans HPL.out) hRB hcB)
  have Qx := Lib.hid hQ
  clear hRB hcB hQ hgB0
  have zv := World.block_lt_of_cell? _ _ (KV3.out.ext Ew11.out).1
  have xv0 := (KV3.out.ext Ew11.out).1
  have xv1 := (KV3.out.ext Ew11.out).2.1
  have xv2 := (KV3.out.ext Ew11.out).2.2.1
  have xv3 := (KV3.out.ext Ew11.out).2.2.2.1
  have xv4 := (KV3.out.ext Ew11.out).2.2.2.2.1
  have xv5 := (KV3.out.ext Ew11.out).2.2.2.2.2.1
  have xv6 := (KV3.out.ext Ew11.out).2.2.2.2.2.2.1
  have xv7 := (KV3.out.ext Ew11.out).2.2.2.2.2.2.2.1
  have xv8 := (KV3.out.ext Ew11.out).2.2.2.2.2.2.2.2
  go_wp2_with fail
  clear zv xv0 xv1 xv2 xv3 xv4 xv5 xv6 xv7 xv8
  have kw12 := Cell4.new w11 _ rfl (.bool sx) (.slice Ax nx cx) (.bool tx) (.slice Bx mx dx) 34
  have hE : Ext w11 (w11.alloc (.cells #[.bool sx, .slice Ax nx cx, .bool tx, .slice Bx mx dx] 34)) := Ext.al Ext.rfl' _
  generalize w11.alloc (.cells #[.bool sx, .slice Ax nx cx, .bool tx, .slice Bx mx dx] 34) = w12 at *
  have Ew12 := Lib.hid hE
  clear hE
  have Kx := Lib.hid kw12
  clear kw12
  refine (best_any v A n c P k cp ps w12 (HVS.out ▸ (HS.out.below (Ext.trans Ew1.out (Ext.trans Ew2.out (Ext.trans Ew3.out (Ext.trans EB.out (Ext.trans Ew11.out Ew12.out))))))) hn (HPA.out.ext (Ext.trans Ew1.out (Ext.trans Ew2.out (Ext.trans Ew3.out (Ext.trans EB.out (Ext.trans Ew11.out Ew12.out)))))) HKM.out).mono ?_
  rintro e w13 ⟨vB2, sy, Ay, ny, cy, ty, By, my, dy, rfl, hQ, hE, -, -⟩
  have Ew13 := Lib.hid hE
  clear hE
  have Qy := Lib.hid hQ
  clear hQ
  obtain ⟨c2, hc2⟩ : ∃ v', v.pchk ps.length = v' := ⟨_, rfl⟩
  rw [hc2] at HCF HVB
  rw [hc2]
  clear hc2
  by_cases hc : c2 = 0
  · subst hc
    obtain ⟨⟨xx0, xx1, xx2, xx3⟩, -, zx⟩ := (Kx.out.ext Ew13.out)
    go_wp2_with fail
    clear xx0 xx1 xx2 xx3 zx
    have kw14 := Cell4.new w13 _ rfl (.bool sy) (.slice Ay ny cy) (.bool ty) (.slice By my dy) 34
    have hE : Ext w13 (w13.alloc (.cells #[.bool sy, .slice Ay ny cy, .bool ty, .slice By my dy] 34)) := Ext.al Ext.rfl' _
    generalize w13.alloc (.cells #[.bool sy, .slice Ay ny cy, .bool ty, .slice By my dy] 34) = w14 at *
    have Ew14 := Lib.hid hE
    clear hE
    have Ky := Lib.hid kw14
    clear kw14
    refine (qcmp_any sy Ay ny cy ty By my dy _ sx Ax nx cx tx Bx mx dx _ w14 ((Qy.out.ext Ew14.out).arg (sz_bestV HSZ.out) (by omega)) ((Qx.out.ext (Ext.trans Ew12.out (Ext.trans Ew13.out Ew14.out))).arg (sz_bestV HSZ.out) (by omega))).mono ?_
    rintro e w15 ⟨rfl, hE⟩
    have Ew15 := Lib.hid hE
    clear hE
    obtain ⟨cm, hcm⟩ : ∃ x, cmpQ ((v.bestV ps)) ((u.bestV ps)) = x := ⟨_, rfl⟩
    rw [hcm]
    have Hcm := Lib.hid hcm
    clear hcm
    have hcm : decide (0 < cm) = false := by
      have : ¬ 0 < cm := by rw [← Hcm.out]; exact fun e => Rat.not_lt.2 (HCF.out (by trivial)) ((cmpQ_pos _ _).1 e)
      simp; omega
    go_wp2_with fail
    refine wp_region_lexS (C := InX w15.drew []) (by kernel_rfl) (by kernel_rfl) (inX_self _ _) ?_
    have hE : Ext w15 w15.drew := Ext.rfl'.drew
    generalize w15.drew = w16 at *
    have Ew16 := Lib.hid hE
    clear hE
    have fx0 := fun z : ExtX w16 [] => z.cell (p := ⟨w11.heap.size, 0, none⟩) (Kx.out.ext (Ext.trans Ew13.out (Ext.trans Ew14.out (Ext.trans Ew15.out Ew16.out)))).1.1 (by simp)
    have fx1 := fun z : ExtX w16 [] => z.cell (p := ⟨w11.heap.size, 1, none⟩) (Kx.out.ext (Ext.trans Ew13.out (Ext.trans Ew14.out (Ext.trans Ew15.out Ew16.out)))).1.2.1 (by simp)
    have fx2 := fun z : ExtX w16 [] => z.cell (p := ⟨w11.heap.size, 2, none⟩) (Kx.out.ext (Ext.trans Ew13.out (Ext.trans Ew14.out (Ext.trans Ew15.out Ew16.out)))).1.2.2.1 (by simp)
    have fx3 := fun z : ExtX w16 [] => z.cell (p := ⟨w11.heap.size, 3, none⟩) (Kx.out.ext (Ext.trans Ew13.out (Ext.trans Ew14.out (Ext.trans Ew15.out Ew16.out)))).1.2.2.2 (by simp)
    have fu0 := fun z : ExtX w16 [] => z.cell (p := ⟨w.heap.size, 0, none⟩) (Ku.out.ext (Ext.trans Ew2.out (Ext.trans Ew3.out (Ext.trans EB.out (Ext.trans Ew11.out (Ext.trans Ew12.out (Ext.trans Ew13.out (Ext.trans Ew14.out (Ext.trans Ew15.out Ew16.out))))))))).1 (by simp)
    have fu1 := fun z : ExtX w16 [] => z.cell (p := ⟨w.heap.size, 1, none⟩) (Ku.out.ext (Ext.trans Ew2.out (Ext.trans Ew3.out (Ext.trans EB.out (Ext.trans Ew11.out (Ext.trans Ew12.out (Ext.trans Ew13.out (Ext.trans Ew14.out (Ext.trans Ew15.out Ew16.out))))))))).2.1 (by simp)
    have fu2 := fun z : ExtX w16 [] => z.cell (p := ⟨w.heap.size, 2, none⟩) (Ku.out.ext (Ext.trans Ew2.out (Ext.trans Ew3.out (Ext.trans EB.out (Ext.trans Ew11.out (Ext.trans Ew12.out (Ext.trans Ew13.out (Ext.trans Ew14.out (Ext.trans Ew15.out Ew16.out))))))))).2.2.1 (by simp)
    have fu3 := fun z : ExtX w16 [] => z.cell (p := ⟨w.heap.size, 3, none⟩) (Ku.out.ext (Ext.trans Ew2.out (Ext.trans Ew3.out (Ext.trans EB.out (Ext.trans Ew11.out (Ext.trans Ew12.out (Ext.trans Ew13.out (Ext.trans Ew14.out (Ext.trans Ew15.out Ew16.out))))))))).2.2.2.1 (by simp)
    have fu4 := fun z : ExtX w16 [] => z.cell (p := ⟨w.heap.size, 4, none⟩) (Ku.out.ext (Ext.trans Ew2.out (Ext.trans Ew3.out (Ext.trans EB.out (Ext.trans Ew11.out (Ext.trans Ew12.out (Ext.trans Ew13.out (Ext.trans Ew14.out (Ext.trans Ew15.out Ew16.out))))))))).2.2.2.2.1 (by simp)
    have fu5 := fun z : ExtX w16 [] => z.cell (p := ⟨w.heap.size, 5, none⟩) (Ku.out.ext (Ext.trans Ew2.out (Ext.trans Ew3.out (Ext.trans EB.out (Ext.trans Ew11.out (Ext.trans Ew12.out (Ext.trans Ew13.out (Ext.trans Ew14.out (Ext.trans Ew15.out Ew16.out))))))))).2.2.2.2.2.1 (by simp)
    have fu6 := fun z : ExtX w16 [] => z.cell (p := ⟨w.heap.size, 6, none⟩) (Ku.out.ext (Ext.trans Ew2.out (Ext.trans Ew3.out (Ext.trans EB.out (Ext.trans Ew11.out (Ext.trans Ew12.out (Ext.trans Ew13.out (Ext.trans Ew14.out (Ext.trans Ew15.out Ew16.out))))))))).2.2.2.2.2.2.1 (by simp)
    have fu7 := fun z : ExtX w16 [] => z.cell (p := ⟨w.heap.size, 7, none⟩) (Ku.out.ext (Ext.trans Ew2.out (Ext.trans Ew3.out (Ext.trans EB.out (Ext.trans Ew11.out (Ext.trans Ew12.out (Ext.trans Ew13.out (Ext.trans Ew14.out (Ext.trans Ew15.out Ew16.out))))))))).2.2.2.2.2.2.2.1 (by simp)
    have fu8 := fun z : ExtX w16 [] => z.cell (p := ⟨w.heap.size, 8, none⟩) (Ku.out.ext (Ext.trans Ew2.out (Ext.trans Ew3.out (Ext.trans EB.out (Ext.trans Ew11.out (Ext.trans Ew12.out (Ext.trans Ew13.out (Ext.trans Ew14.out (Ext.trans Ew15.out Ew16.out))))))))).2.2.2.2.2.2.2.2 (by simp)
    repeat (refine lexAt_still (by rfl) ?_; go_big_quiet_step (fail); refine wpQuiet_nil ?_)
    refine lexAt_move (by rfl) (by kernel_rfl) ?_
    refine wpList_makeV rfl 29 4 _ _ rfl (.bool false) 1 1 Try.underlying29 info_bool (k : Int) k rfl rfl rfl (by omega) (by omega) ?_
    intro wM hO
    have hbm := bools_made w16 k 4
    have hE : Ext w16 wM := by rw [← hO]; exact Ext.al Ext.rfl' _
    rw [show (Value.bool false).cells = #[.bool false] from rfl] at hO
    rw [hO] at hbm
    clear hO
    have HBM := Lib.hid hbm
    clear hbm
    go_wp2_with fail
    have EwM := Lib.hid hE
    clear hE
    refine And.intro (inX_of_ext _ EwM.out) ?_
    repeat (refine lexAt_still (by rfl) ?_; go_big_quiet_step (fail); refine wpQuiet_nil ?_)
    refine lexAt_move (by rfl) (by kernel_rfl) ?_
    go_wp2_with fail
    refine (feasible_any u A n c (some ⟨w16.heap.size, 0, none⟩) k k (List.replicate k false) wM (HS.out.below (Ext.trans Ew1.out (Ext.trans Ew2.out (Ext.trans Ew3.out (Ext.trans EB.out (Ext.trans Ew11.out (Ext.trans Ew12.out (Ext.trans Ew13.out (Ext.trans Ew14.out (Ext.trans Ew15.out (Ext.trans Ew16.out EwM.out))))))))))) hn HBM.out HKM.out).mono ?_
    rintro e w17 ⟨rfl, hE⟩
    have Ew17 := Lib.hid hE
    clear hE
    have HOG := HOF.out
    rw [HPL.out] at HOG
    have HOH := Lib.hid HOG
    clear HOG
    generalize u.feas (List.replicate k false) = fb at *
    cases fb
    · skip
      go_wp2_with fail
      refine And.intro (inX_of_ext _ (Ext.trans EwM.out Ew17.out)) ?_
      repeat (refine lexAt_still (by rfl) ?_; go_big_quiet_step (fail); refine wpQuiet_nil ?_)
      refine lexAt_skip (by kernel_rfl) ?_
      simp only [Act.put, List.setIfInBounds_toArray, List.set_cons_succ, List.set_cons_zero]
      repeat (refine lexAt_still (by rfl) ?_; go_big_quiet_step (fail); refine wpQuiet_nil ?_)
      refine lexAt_nil ?_
      clear fx0 fx1 fx2 fx3 fu0 fu1 fu2 fu3 fu4 fu5 fu6 fu7 fu8
      go_wp2_with fail
      go_ret
      exact ⟨rfl, (Ext.trans Ew1.out (Ext.trans Ew2.out (Ext.trans Ew3.out (Ext.trans EB.out (Ext.trans Ew11.out (Ext.trans Ew12.out (Ext.trans Ew13.out (Ext.trans Ew14.out (Ext.trans Ew15.out (Ext.trans Ew16.out (Ext.trans EwM.out Ew17.out)))))))))))⟩
    go_wp2_with fail
    refine And.intro (inX_of_ext _ (Ext.trans EwM.out Ew17.out)) ?_
    repeat (refine lexAt_still (by rfl) ?_; go_big_quiet_step (fail); refine wpQuiet_nil ?_)
    refine lexAt_move (by rfl) (by kernel_rfl) ?_
    go_wp2_with fail
    refine (qsign_any sx Ax nx cx tx Bx mx dx _ w17 (Qx.out.ext (Ext.trans Ew12.out (Ext.trans Ew13.out (Ext.trans Ew14.out (Ext.trans Ew15.out (Ext.trans Ew16.out (Ext.trans EwM.out Ew17.out))))))).is).mono ?_
    rintro e w18 ⟨rfl, hE⟩
    have Ew18 := Lib.hid hE
    clear hE
    obtain ⟨sg, hsg⟩ : ∃ x, Int.sign (Rat.num (u.bestV ps)) = x := ⟨_, rfl⟩
    rw [hsg]
    have Hsg := Lib.hid hsg
    clear hsg
    have hsg : decide (0 ≤ sg) = true := by rw [← Hsg.out]; exact decide_eq_true (sign_nonneg (HOH.out (by trivial)))
    go_wp2_with fail
    refine And.intro (inX_of_ext _ (Ext.trans EwM.out (Ext.trans Ew17.out Ew18.out))) ?_
    repeat (refine lexAt_still (by rfl) ?_; go_big_quiet_step (fail); refine wpQuiet_nil ?_)
    refine lexAt_nil ?_
    clear fx0 fx1 fx2 fx3 fu0 fu1 fu2 fu3 fu4 fu5 fu6 fu7 fu8
    go_wp2_with fail
    go_ret
    exact ⟨rfl, (Ext.trans Ew1.out (Ext.trans Ew2.out (Ext.trans Ew3.out (Ext.trans EB.out (Ext.trans Ew11.out (Ext.trans Ew12.out (Ext.trans Ew13.out (Ext.trans Ew14.out (Ext.trans Ew15.out (Ext.trans Ew16.out (Ext.trans EwM.out (Ext.trans Ew17.out Ew18.out))))))))))))⟩
  have hb1 : (c2 == 0) = false := by simp [hc]
  have hb2 : (c2 != 0) = true := by simp [hc]
  have zv := World.block_lt_of_cell? _ _ (KV3.out.ext (Ext.trans Ew11.out (Ext.trans Ew12.out Ew13.out))).1
  have xv0 := (KV3.out.ext (Ext.trans Ew11.out (Ext.trans Ew12.out Ew13.out))).1
  have xv1 := (KV3.out.ext (Ext.trans Ew11.out (Ext.trans Ew12.out Ew13.out))).2.1
  have xv2 := (KV3.out.ext (Ext.trans Ew11.out (Ext.trans Ew12.out Ew13.out))).2.2.1
  have xv3 := (KV3.out.ext (Ext.trans Ew11.out (Ext.trans Ew12.out Ew13.out))).2.2.2.1
  have xv4 := (KV3.out.ext (Ext.trans Ew11.out (Ext.trans Ew12.out Ew13.out))).2.2.2.2.1
  have xv5 := (KV3.out.ext (Ext.trans Ew11.out (Ext.trans Ew12.out Ew13.out))).2.2.2.2.2.1
  have xv6 := (KV3.out.ext (Ext.trans Ew11.out (Ext.trans Ew12.out Ew13.out))).2.2.2.2.2.2.1
  have xv7 := (KV3.out.ext (Ext.trans Ew11.out (Ext.trans Ew12.out Ew13.out))).2.2.2.2.2.2.2.1
  have xv8 := (KV3.out.ext (Ext.trans Ew11.out (Ext.trans Ew12.out Ew13.out))).2.2.2.2.2.2.2.2
  go_wp2_with fail
  clear zv xv0 xv1 xv2 xv3 xv4 xv5 xv6 xv7 xv8
  have kw19 := Cell4.new w13 _ rfl (.bool sy) (.slice Ay ny cy) (.bool ty) (.slice By my dy) 34
  have hE : Ext w13 (w13.alloc (.cells #[.bool sy, .slice Ay ny cy, .bool ty, .slice By my dy] 34)) := Ext.al Ext.rfl' _
  generalize w13.alloc (.cells #[.bool sy, .slice Ay ny cy, .bool ty, .slice By my dy] 34) = w19 at *
  have Ew19 := Lib.hid hE
  clear hE
  have Ky := Lib.hid kw19
  clear kw19
  refine (may_any v A n c w19 (HVS.out ▸ (HS.out.below (Ext.trans Ew1.out (Ext.trans Ew2.out (Ext.trans Ew3.out (Ext.trans EB.out (Ext.trans Ew11.out (Ext.trans Ew12.out (Ext.trans Ew13.out Ew19.out))))))))) hn).mono ?_
  rintro e w20 ⟨rfl, hE⟩
  have Ew20 := Lib.hid hE
  clear hE
  rw [HVB.out hc]
  clear hc
  go_wp2_with fail
  refine wp_region_lexS (C := InX w20.drew []) (by kernel_rfl) (by kernel_rfl) (inX_self _ _) ?_
  have hE : Ext w20 w20.drew := Ext.rfl'.drew
  generalize w20.drew = w21 at *
  have Ew21 := Lib.hid hE
  clear hE
  have fx0 := fun z : ExtX w21 [] => z.cell (p := ⟨w11.heap.size, 0, none⟩) (Kx.out.ext (Ext.trans Ew13.out (Ext.trans Ew19.out (Ext.trans Ew20.out Ew21.out)))).1.1 (by simp)
  have fx1 := fun z : ExtX w21 [] => z.cell (p := ⟨w11.heap.size, 1, none⟩) (Kx.out.ext (Ext.trans Ew13.out (Ext.trans Ew19.out (Ext.trans Ew20.out Ew21.out)))).1.2.1 (by simp)
  have fx2 := fun z : ExtX w21 [] => z.cell (p := ⟨w11.heap.size, 2, none⟩) (Kx.out.ext (Ext.trans Ew13.out (Ext.trans Ew19.out (Ext.trans Ew20.out Ew21.out)))).1.2.2.1 (by simp)
  have fx3 := fun z : ExtX w21 [] => z.cell (p := ⟨w11.heap.size, 3, none⟩) (Kx.out.ext (Ext.trans Ew13.out (Ext.trans Ew19.out (Ext.trans Ew20.out Ew21.out)))).1.2.2.2 (by simp)
  have fu0 := fun z : ExtX w21 [] => z.cell (p := ⟨w.heap.size, 0, none⟩) (Ku.out.ext (Ext.trans Ew2.out (Ext.trans Ew3.out (Ext.trans EB.out (Ext.trans Ew11.out (Ext.trans Ew12.out (Ext.trans Ew13.out (Ext.trans Ew19.out (Ext.trans Ew20.out Ew21.out))))))))).1 (by simp)
  have fu1 := fun z : ExtX w21 [] => z.cell (p := ⟨w.heap.size, 1, none⟩) (Ku.out.ext (Ext.trans Ew2.out (Ext.trans Ew3.out (Ext.trans EB.out (Ext.trans Ew11.out (Ext.trans Ew12.out (Ext.trans Ew13.out (Ext.trans Ew19.out (Ext.trans Ew20.out Ew21.out))))))))).2.1 (by simp)
  have fu2 := fun z : ExtX w21 [] => z.cell (p := ⟨w.heap.size, 2, none⟩) (Ku.out.ext (Ext.trans Ew2.out (Ext.trans Ew3.out (Ext.trans EB.out (Ext.trans Ew11.out (Ext.trans Ew12.out (Ext.trans Ew13.out (Ext.trans Ew19.out (Ext.trans Ew20.out Ew21.out))))))))).2.2.1 (by simp)
  have fu3 := fun z : ExtX w21 [] => z.cell (p := ⟨w.heap.size, 3, none⟩) (Ku.out.ext (Ext.trans Ew2.out (Ext.trans Ew3.out (Ext.trans EB.out (Ext.trans Ew11.out (Ext.trans Ew12.out (Ext.trans Ew13.out (Ext.trans Ew19.out (Ext.trans Ew20.out Ew21.out))))))))).2.2.2.1 (by simp)
  have fu4 := fun z : ExtX w21 [] => z.cell (p := ⟨w.heap.size, 4, none⟩) (Ku.out.ext (Ext.trans Ew2.out (Ext.trans Ew3.out (Ext.trans EB.out (Ext.trans Ew11.out (Ext.trans Ew12.out (Ext.trans Ew13.out (Ext.trans Ew19.out (Ext.trans Ew20.out Ew21.out))))))))).2.2.2.2.1 (by simp)
  have fu5 := fun z : ExtX w21 [] => z.cell (p := ⟨w.heap.size, 5, none⟩) (Ku.out.ext (Ext.trans Ew2.out (Ext.trans Ew3.out (Ext.trans EB.out (Ext.trans Ew11.out (Ext.trans Ew12.out (Ext.trans Ew13.out (Ext.trans Ew19.out (Ext.trans Ew20.out Ew21.out))))))))).2.2.2.2.2.1 (by simp)
  have fu6 := fun z : ExtX w21 [] => z.cell (p := ⟨w.heap.size, 6, none⟩) (Ku.out.ext (Ext.trans Ew2.out (Ext.trans Ew3.out (Ext.trans EB.out (Ext.trans Ew11.out (Ext.trans Ew12.out (Ext.trans Ew13.out (Ext.trans Ew19.out (Ext.trans Ew20.out Ew21.out))))))))).2.2.2.2.2.2.1 (by simp)
  have fu7 := fun z : ExtX w21 [] => z.cell (p := ⟨w.heap.size, 7, none⟩) (Ku.out.ext (Ext.trans Ew2.out (Ext.trans Ew3.out (Ext.trans EB.out (Ext.trans Ew11.out (Ext.trans Ew12.out (Ext.trans Ew13.out (Ext.trans Ew19.out (Ext.trans Ew20.out Ew21.out))))))))).2.2.2.2.2.2.2.1 (by simp)
  have fu8 := fun z : ExtX w21 [] => z.cell (p := ⟨w.heap.size, 8, none⟩) (Ku.out.ext (Ext.trans Ew2.out (Ext.trans Ew3.out (Ext.trans EB.out (Ext.trans Ew11.out (Ext.trans Ew12.out (Ext.trans Ew13.out (Ext.trans Ew19.out (Ext.trans Ew20.out Ew21.out))))))))).2.2.2.2.2.2.2.2 (by simp)
  repeat (refine lexAt_still (by rfl) ?_; go_big_quiet_step (fail); refine wpQuiet_nil ?_)
  refine lexAt_move (by rfl) (by kernel_rfl) ?_
  refine wpList_makeV rfl 29 4 _ _ rfl (.bool false) 1 1 Try.underlying29 info_bool (k : Int) k rfl rfl rfl (by omega) (by omega) ?_
  intro wM hO
  have hbm := bools_made w21 k 4
  have hE : Ext w21 wM := by rw [← hO]; exact Ext.al Ext.rfl' _
  rw [show (Value.bool false).cells = #[.bool false] from rfl] at hO
  rw [hO] at hbm
  clear hO
  have HBM := Lib.hid hbm
  clear hbm
  go_wp2_with fail
  have EwM := Lib.hid hE
  clear hE
  refine And.intro (inX_of_ext _ EwM.out) ?_
  repeat (refine lexAt_still (by rfl) ?_; go_big_quiet_step (fail); refine wpQuiet_nil ?_)
  refine lexAt_move (by rfl) (by kernel_rfl) ?_
  go_wp2_with fail
  refine (feasible_any u A n c (some ⟨w21.heap.size, 0, none⟩) k k (List.replicate k false) wM (HS.out.below (Ext.trans Ew1.out (Ext.trans Ew2.out (Ext.trans Ew3.out (Ext.trans EB.out (Ext.trans Ew11.out (Ext.trans Ew12.out (Ext.trans Ew13.out (Ext.trans Ew19.out (Ext.trans Ew20.out (Ext.trans Ew21.out EwM.out))))))))))) hn HBM.out HKM.out).mono ?_
  rintro e w22 ⟨rfl, hE⟩
  have Ew22 := Lib.hid hE
  clear hE
  have HOG := HOF.out
  rw [HPL.out] at HOG
  have HOH := Lib.hid HOG
  clear HOG
  generalize u.feas (List.replicate k false) = fb at *
  cases fb
  · skip
    go_wp2_with fail
    refine And.intro (inX_of_ext _ (Ext.trans EwM.out Ew22.out)) ?_
    repeat (refine lexAt_still (by rfl) ?_; go_big_quiet_step (fail); refine wpQuiet_nil ?_)
    refine lexAt_skip (by kernel_rfl) ?_
    simp only [Act.put, List.setIfInBounds_toArray, List.set_cons_succ, List.set_cons_zero]
    repeat (refine lexAt_still (by rfl) ?_; go_big_quiet_step (fail); refine wpQuiet_nil ?_)
    refine lexAt_nil ?_
    clear fx0 fx1 fx2 fx3 fu0 fu1 fu2 fu3 fu4 fu5 fu6 fu7 fu8
    go_wp2_with fail
    go_ret
    exact ⟨rfl, (Ext.trans Ew1.out (Ext.trans Ew2.out (Ext.trans Ew3.out (Ext.trans EB.out (Ext.trans Ew11.out (Ext.trans Ew12.out (Ext.trans Ew13.out (Ext.trans Ew19.out (Ext.trans Ew20.out (Ext.trans Ew21.out (Ext.trans EwM.out Ew22.out)))))))))))⟩
  go_wp2_with fail
  refine And.intro (inX_of_ext _ (Ext.trans EwM.out Ew22.out)) ?_
  repeat (refine lexAt_still (by rfl) ?_; go_big_quiet_step (fail); refine wpQuiet_nil ?_)
  refine lexAt_move (by rfl) (by kernel_rfl) ?_
  go_wp2_with fail
  refine (qsign_any sx Ax nx cx tx Bx mx dx _ w22 (Qx.out.ext (Ext.trans Ew12.out (Ext.trans Ew13.out (Ext.trans Ew19.out (Ext.trans Ew20.out (Ext.trans Ew21.out (Ext.trans EwM.out Ew22.out))))))).is).mono ?_
  rintro e w23 ⟨rfl, hE⟩
  have Ew23 := Lib.hid hE
  clear hE
  obtain ⟨sg, hsg⟩ : ∃ x, Int.sign (Rat.num (u.bestV ps)) = x := ⟨_, rfl⟩
  rw [hsg]
  have Hsg := Lib.hid hsg
  clear hsg
  have hsg : decide (0 ≤ sg) = true := by rw [← Hsg.out]; exact decide_eq_true (sign_nonneg (HOH.out (by trivial)))
  go_wp2_with fail
  refine And.intro (inX_of_ext _ (Ext.trans EwM.out (Ext.trans Ew22.out Ew23.out))) ?_
  repeat (refine lexAt_still (by rfl) ?_; go_big_quiet_step (fail); refine wpQuiet_nil ?_)
  refine lexAt_nil ?_
  clear fx0 fx1 fx2 fx3 fu0 fu1 fu2 fu3 fu4 fu5 fu6 fu7 fu8
  go_wp2_with fail
  go_ret
  exact ⟨rfl, (Ext.trans Ew1.out (Ext.trans Ew2.out (Ext.trans Ew3.out (Ext.trans EB.out (Ext.trans Ew11.out (Ext.trans Ew12.out (Ext.trans Ew13.out (Ext.trans Ew19.out (Ext.trans Ew20.out (Ext.trans Ew21.out (Ext.trans EwM.out (Ext.trans Ew22.out Ew23.out))))))))))))⟩
end Go.Proofs.Ytjinpfnefeiooaa
