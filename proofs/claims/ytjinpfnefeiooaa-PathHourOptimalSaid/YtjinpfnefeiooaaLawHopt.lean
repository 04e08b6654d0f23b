/- The walk of the law PathHourOptimal. Printed by gen_hopt.py. -/
import Derived.Test.YtjinpfnefeiooaaAwake27
namespace Go.Proofs.Ytjinpfnefeiooaa
open Go.RowKit

theorem qsRaw2 {w : World} {t : TypeId} {s1 : Bool} {A1 : Option Addr} {n1 c1 : Nat} {t1 : Bool} {B1 : Option Addr} {m1 d1 : Nat} {p : Rat} {s2 : Bool} {A2 : Option Addr} {n2 c2 : Nat} {t2 : Bool} {B2 : Option Addr} {m2 d2 : Nat} {q : Rat} (h1 : QIs w s1 A1 n1 c1 t1 B1 m1 d1 p) (h2 : QIs w s2 A2 n2 c2 t2 B2 m2 d2 q) :
    QsRaw (w.alloc (.cells #[.bool s1, .slice A1 n1 c1, .bool t1, .slice B1 m1 d1, .bool s2, .slice A2 n2 c2, .bool t2, .slice B2 m2 d2] t)) (some ⟨w.heap.size, 0, none⟩) 2 [p, q] (fun i => if i = 0 then (n1, m1) else (n2, m2)) := by
  have hE : Ext w (w.alloc (.cells #[.bool s1, .slice A1 n1 c1, .bool t1, .slice B1 m1 d1, .bool s2, .slice A2 n2 c2, .bool t2, .slice B2 m2 d2] t)) := Ext.al Ext.rfl' _
  have hb := Blk.new w t #[.bool s1, .slice A1 n1 c1, .bool t1, .slice B1 m1 d1, .bool s2, .slice A2 n2 c2, .bool t2, .slice B2 m2 d2]
  have l1 : n1 ≤ maxLen ∧ m1 ≤ maxLen := by obtain ⟨z, y, ⟨_, _, a1, a2, _⟩, ⟨_, _, a3, a4, _⟩, _⟩ := h1; exact ⟨by omega, by omega⟩
  have l2 : n2 ≤ maxLen ∧ m2 ≤ maxLen := by obtain ⟨z, y, ⟨_, _, a1, a2, _⟩, ⟨_, _, a3, a4, _⟩, _⟩ := h2; exact ⟨by omega, by omega⟩
  refine ⟨rfl, fun i => ?_, fun _ => ⟨w.heap.size, 0, rfl, by simp, fun i hi => ?_⟩⟩
  · by_cases e : i = 0
    · simp only [if_pos e]; exact l1
    · simp only [if_neg e]; exact l2
  · have : i = 0 ∨ i = 1 := by omega
    rcases this with rfl | rfl
    · exact ⟨s1, A1, c1, t1, B1, d1, by rw [hb.cell]; rfl, by rw [hb.cell]; rfl, by rw [hb.cell]; rfl, by rw [hb.cell]; rfl, h1.ext hE⟩
    · exact ⟨s2, A2, c2, t2, B2, d2, by rw [hb.cell]; rfl, by rw [hb.cell]; rfl, by rw [hb.cell]; rfl, by rw [hb.cell]; rfl, h2.ext hE⟩
theorem hour_same (u : U) (p : Rat) : (p * ((u.hq p : Int) : Rat) - costV u.steps ((u.hq p : Int) : Rat)) - ((u.idle : Int) : Rat) = u.hp p := by
  unfold U.hp
  grind
set_option maxRecDepth 100000 in
set_option maxHeartbeats 16000000 in
theorem hopt_any (u : U) (A : Option Addr) (n c : Nat) (s1 : Bool) (A1 : Option Addr) (n1 c1 : Nat) (t1 : Bool) (B1 : Option Addr) (m1 d1 : Nat) (p : Rat) (s2 : Bool) (A2 : Option Addr) (n2 c2 : Nat) (t2 : Bool) (B2 : Option Addr) (m2 d2 : Nat) (q : Rat) (w : World) (hs : StepsAt w A n u.steps) (hn : n ≤ maxLen) (h1 : QIs w s1 A1 n1 c1 t1 B1 m1 d1 p) (h2 : QIs w s2 A2 n2 c2 t2 B2 m2 d2 q) :
    Calls Try.prog 7 #[u.val A n c, .agg #[.bool s1, .slice A1 n1 c1, .bool t1, .slice B1 m1 d1], .agg #[.bool s2, .slice A2 n2 c2, .bool t2, .slice B2 m2 d2]] w fun e w' => e = .returned (.bool true) ∧ Ext w w' := by
  have HS := Lib.hid hs
  have H1 := Lib.hid h1
  have H2 := Lib.hid h2
  clear hs h1 h2
  go_enter Try.func7, Try.ntmps7
  go_wp2_with fail
  have k0 := UBox.new (w) (w.heap.size) (by simp) u A n c 24
  have k1 := Cell4.new ((w).alloc (.cells #[.int .i64 u.bus, .int .i64 u.mn, .slice A n c, .int .i64 u.up, .int .i64 u.down, .int .i64 u.start, .int .i64 u.idle, .int .i64 u.spin, .int .i64 u.on] 24)) (w.heap.size + 1) (by simp) (.bool s1) (.slice A1 n1 c1) (.bool t1) (.slice B1 m1 d1) 34
  have k2 := Cell4.new (((w).alloc (.cells #[.int .i64 u.bus, .int .i64 u.mn, .slice A n c, .int .i64 u.up, .int .i64 u.down, .int .i64 u.start, .int .i64 u.idle, .int .i64 u.spin, .int .i64 u.on] 24)).alloc (.cells #[.bool s1, .slice A1 n1 c1, .bool t1, .slice B1 m1 d1] 34)) (w.heap.size + 1 + 1) (by simp) (.bool s2) (.slice A2 n2 c2) (.bool t2) (.slice B2 m2 d2) 34
  have hE : Ext w ((((w).alloc (.cells #[.int .i64 u.bus, .int .i64 u.mn, .slice A n c, .int .i64 u.up, .int .i64 u.down, .int .i64 u.start, .int .i64 u.idle, .int .i64 u.spin, .int .i64 u.on] 24)).alloc (.cells #[.bool s1, .slice A1 n1 c1, .bool t1, .slice B1 m1 d1] 34)).alloc (.cells #[.bool s2, .slice A2 n2 c2, .bool t2, .slice B2 m2 d2] 34)) := (Ext.al (Ext.al (Ext.al Ext.rfl' _) _) _)
  have k0 := k0.ext (show Ext ((w).alloc (.cells #[.int .i64 u.bus, .int .i64 u.mn, .slice A n c, .int .i64 u.up, .int .i64 u.down, .int .i64 u.start, .int .i64 u.idle, .int .i64 u.spin, .int .i64 u.on] 24)) ((((w).alloc (.cells #[.int .i64 u.bus, .int .i64 u.mn, .slice A n c, .int .i64 u.up, .int .i64 u.down, .int .i64 u.start, .int .i64 u.idle, .int .i64 u.spin, .int .i64 u.on] 24)).alloc (.cells #[.bool s1, .slice A1 n1 c1, .bool t1, .slice B1 m1 d1] 34)).alloc (.cells #[.bool s2, .slice A2 n2 c2, .bool t2, .slice B2 m2 d2] 34)) from (Ext.al (Ext.al Ext.rfl' _) _))
  have k1 := k1.ext (show Ext (((w).alloc (.cells #[.int .i64 u.bus, .int .i64 u.mn, .slice A n c, .int .i64 u.up, .int .i64 u.down, .int .i64 u.start, .int .i64 u.idle, .int .i64 u.spin, .int .i64 u.on] 24)).alloc (.cells #[.bool s1, .slice A1 n1 c1, .bool t1, .slice B1 m1 d1] 34)) ((((w).alloc (.cells #[.int .i64 u.bus, .int .i64 u.mn, .slice A n c, .int .i64 u.up, .int .i64 u.down, .int .i64 u.start, .int .i64 u.idle, .int .i64 u.spin, .int .i64 u.on] 24)).alloc (.cells #[.bool s1, .slice A1 n1 c1, .bool t1, .slice B1 m1 d1] 34)).alloc (.cells #[.bool s2, .slice A2 n2 c2, .bool t2, .slice B2 m2 d2] 34)) from (Ext.al Ext.rfl' _))
  have hsz : ((((w).alloc (.cells #[.int .i64 u.bus, .int .i64 u.mn, .slice A n c, .int .i64 u.up, .int .i64 u.down, .int .i64 u.start, .int .i64 u.idle, .int .i64 u.spin, .int .i64 u.on] 24)).alloc (.cells #[.bool s1, .slice A1 n1 c1, .bool t1, .slice B1 m1 d1] 34)).alloc (.cells #[.bool s2, .slice A2 n2 c2, .bool t2, .slice B2 m2 d2] 34)).heap.size = w.heap.size + 1 + 1 + 1 := by simp
  generalize (((w).alloc (.cells #[.int .i64 u.bus, .int .i64 u.mn, .slice A n c, .int .i64 u.up, .int .i64 u.down, .int .i64 u.start, .int .i64 u.idle, .int .i64 u.spin, .int .i64 u.on] 24)).alloc (.cells #[.bool s1, .slice A1 n1 c1, .bool t1, .slice B1 m1 d1] 34)).alloc (.cells #[.bool s2, .slice A2 n2 c2, .bool t2, .slice B2 m2 d2] 34) = w1 at *
  have SZw1 := Lib.hid hsz
  clear hsz
  have Ew1 := Lib.hid hE
  clear hE
  have Ku := Lib.hid k0
  clear k0
  have K1 := Lib.hid k1
  clear k1
  have K2 := Lib.hid k2
  clear k2
  refine wp_region_lexS (C := InX w1.drew []) (by kernel_rfl) (by kernel_rfl) (inX_self _ _) ?_
  have hE : Ext w1 w1.drew := Ext.rfl'.drew
  generalize w1.drew = w2 at *
  have Ew2 := Lib.hid hE
  clear hE
  have f10 := fun z : ExtX w2 [] => z.cell (p := ⟨w.heap.size + 1, 0, none⟩) (K1.out.ext Ew2.out).1.1 (by simp)
  have f11 := fun z : ExtX w2 [] => z.cell (p := ⟨w.heap.size + 1, 1, none⟩) (K1.out.ext Ew2.out).1.2.1 (by simp)
  have f12 := fun z : ExtX w2 [] => z.cell (p := ⟨w.heap.size + 1, 2, none⟩) (K1.out.ext Ew2.out).1.2.2.1 (by simp)
  have f13 := fun z : ExtX w2 [] => z.cell (p := ⟨w.heap.size + 1, 3, none⟩) (K1.out.ext Ew2.out).1.2.2.2 (by simp)
  have f20 := fun z : ExtX w2 [] => z.cell (p := ⟨w.heap.size + 1 + 1, 0, none⟩) (K2.out.ext Ew2.out).1.1 (by simp)
  have f21 := fun z : ExtX w2 [] => z.cell (p := ⟨w.heap.size + 1 + 1, 1, none⟩) (K2.out.ext Ew2.out).1.2.1 (by simp)
  have f22 := fun z : ExtX w2 [] => z.cell (p := ⟨w.heap.size + 1 + 1, 2, none⟩) (K2.out.ext Ew2.out).1.2.2.1 (by simp)
  have f23 := fun z : ExtX w2 [] => z.cell (p := ⟨w.heap.size + 1 + 1, 3, none⟩) (K2.out.ext Ew2.out).1.2.2.2 (by simp)
  have fu0 := fun z : ExtX w2 [] => z.cell (p := ⟨w.heap.size, 0, none⟩) (Ku.out.ext Ew2.out).1 (by simp)
  have fu1 := fun z : ExtX w2 [] => z.cell (p := ⟨w.heap.size, 1, none⟩) (Ku.out.ext Ew2.out).2.1 (by simp)
  have fu2 := fun z : ExtX w2 [] => z.cell (p := ⟨w.heap.size, 2, none⟩) (Ku.out.ext Ew2.out).2.2.1 (by simp)
  have fu3 := fun z : ExtX w2 [] => z.cell (p := ⟨w.heap.size, 3, none⟩) (Ku.out.ext Ew2.out).2.2.2.1 (by simp)
  have fu4 := fun z : ExtX w2 [] => z.cell (p := ⟨w.heap.size, 4, none⟩) (Ku.out.ext Ew2.out).2.2.2.2.1 (by simp)
  have fu5 := fun z : ExtX w2 [] => z.cell (p := ⟨w.heap.size, 5, none⟩) (Ku.out.ext Ew2.out).2.2.2.2.2.1 (by simp)
  have fu6 := fun z : ExtX w2 [] => z.cell (p := ⟨w.heap.size, 6, none⟩) (Ku.out.ext Ew2.out).2.2.2.2.2.2.1 (by simp)
  have fu7 := fun z : ExtX w2 [] => z.cell (p := ⟨w.heap.size, 7, none⟩) (Ku.out.ext Ew2.out).2.2.2.2.2.2.2.1 (by simp)
  have fu8 := fun z : ExtX w2 [] => z.cell (p := ⟨w.heap.size, 8, none⟩) (Ku.out.ext Ew2.out).2.2.2.2.2.2.2.2 (by simp)
  repeat (refine lexAt_still (by rfl) ?_; go_big_quiet_step (fail); refine wpQuiet_nil ?_)
  refine lexAt_move (by rfl) (by kernel_rfl) ?_
  go_wp2_with fail
  have hraw := qsRaw2 (t := 34) (H1.out.ext (Ext.trans Ew1.out Ew2.out)) (H2.out.ext (Ext.trans Ew1.out Ew2.out))
  have hE : Ext w2 (w2.alloc (.cells #[.bool s1, .slice A1 n1 c1, .bool t1, .slice B1 m1 d1, .bool s2, .slice A2 n2 c2, .bool t2, .slice B2 m2 d2] 34)) := Ext.al Ext.rfl' _
  generalize w2.alloc (.cells #[.bool s1, .slice A1 n1 c1, .bool t1, .slice B1 m1 d1, .bool s2, .slice A2 n2 c2, .bool t2, .slice B2 m2 d2] 34) = w3 at *
  have Ew3 := Lib.hid hE
  clear hE
  have HRAW := Lib.hid hraw
  clear hraw
  refine And.intro (inX_of_ext _ Ew3.out) ?_
  repeat (refine lexAt_still (by rfl) ?_; go_big_quiet_step (fail); refine wpQuiet_nil ?_)
  refine lexAt_move (by rfl) (by kernel_rfl) ?_
  go_wp2_with fail
  refine (long27_any u A n c (some ⟨w2.heap.size, 0, none⟩) 2 2 [p, q] _ none 0 0 w3 HRAW.out (by simp [maxLen])).mono ?_
  rintro e w4 ⟨⟨bl, rfl, hbl⟩, hE⟩
  have Ew4 := Lib.hid hE
  clear hE
  have HLN : Hid (bl = false → n ≤ 100 ∧ (n1 ≤ 6 ∧ m1 ≤ 6) ∧ n2 ≤ 6 ∧ m2 ≤ 6) := fun e => ⟨(hbl e).1, by simpa using (hbl e).2.2.2 0 (by omega), by simpa using (hbl e).2.2.2 1 (by omega)⟩
  clear hbl HRAW
  cases bl
  rotate_left
  · skip
    go_wp2_with fail
    refine And.intro (inX_of_ext _ (Ext.trans Ew3.out Ew4.out)) ?_
    repeat (refine lexAt_still (by rfl) ?_; go_big_quiet_step (fail); refine wpQuiet_nil ?_)
    refine lexAt_skip (by kernel_rfl) ?_
    simp only [Act.put, List.setIfInBounds_toArray, List.set_cons_succ, List.set_cons_zero]
    repeat (refine lexAt_still (by rfl) ?_; go_big_quiet_step (fail); refine wpQuiet_nil ?_)
    refine lexAt_skip (by kernel_rfl) ?_
    simp only [Act.put, List.setIfInBounds_toArray, List.set_cons_succ, List.set_cons_zero]
    repeat (refine lexAt_still (by rfl) ?_; go_big_quiet_step (fail); refine wpQuiet_nil ?_)
    refine lexAt_skip (by kernel_rfl) ?_
    simp only [Act.put, List.setIfInBounds_toArray, List.set_cons_succ, List.set_cons_zero]
    repeat (refine lexAt_still (by rfl) ?_; go_big_quiet_step (fail); refine wpQuiet_nil ?_)
    refine lexAt_skip (by kernel_rfl) ?_
    simp only [Act.put, List.setIfInBounds_toArray, List.set_cons_succ, List.set_cons_zero]
    repeat (refine lexAt_still (by rfl) ?_; go_big_quiet_step (fail); refine wpQuiet_nil ?_)
    refine lexAt_skip (by kernel_rfl) ?_
    simp only [Act.put, List.setIfInBounds_toArray, List.set_cons_succ, List.set_cons_zero]
    repeat (refine lexAt_still (by rfl) ?_; go_big_quiet_step (fail); refine wpQuiet_nil ?_)
    refine lexAt_skip (by kernel_rfl) ?_
    simp only [Act.put, List.setIfInBounds_toArray, List.set_cons_succ, List.set_cons_zero]
    repeat (refine lexAt_still (by rfl) ?_; go_big_quiet_step (fail); refine wpQuiet_nil ?_)
    refine lexAt_skip (by kernel_rfl) ?_
    simp only [Act.put, List.setIfInBounds_toArray, List.set_cons_succ, List.set_cons_zero]
    repeat (refine lexAt_still (by rfl) ?_; go_big_quiet_step (fail); refine wpQuiet_nil ?_)
    refine lexAt_nil ?_
    clear f10 f11 f12 f13 f20 f21 f22 f23 fu0 fu1 fu2 fu3 fu4 fu5 fu6 fu7 fu8
    go_wp2_with fail
    refine (awake_any w4).mono ?_
    rintro e wz ⟨rfl, hEz⟩
    go_wp2_with fail
    go_ret
    exact ⟨rfl, Ext.trans (Ext.trans Ew1.out (Ext.trans Ew2.out (Ext.trans Ew3.out Ew4.out))) hEz⟩
  obtain ⟨hn100, ⟨ln1, lm1⟩, ln2, lm2⟩ := HLN.out rfl
  clear HLN
  have HZ1 : Hid (Sz 6 p) := H1.out.sz (by omega) (by omega) (by omega)
  have HZ2 : Hid (Sz 6 q) := H2.out.sz (by omega) (by omega) (by omega)
  go_wp2_with fail
  refine And.intro (inX_of_ext _ (Ext.trans Ew3.out Ew4.out)) ?_
  repeat (refine lexAt_still (by rfl) ?_; go_big_quiet_step (fail); refine wpQuiet_nil ?_)
  refine lexAt_move (by rfl) (by kernel_rfl) ?_
  go_wp2_with fail
  refine (may_any u A n c w4 (HS.out.below (Ext.trans Ew1.out (Ext.trans Ew2.out (Ext.trans Ew3.out Ew4.out)))) hn).mono ?_
  rintro e w5 ⟨rfl, hE⟩
  have Ew5 := Lib.hid hE
  clear hE
  by_cases hok : u.ok = true
  rotate_left
  · have hok2 : u.ok = false := by simpa using hok
    rw [hok2]
    clear hok hok2
    go_wp2_with fail
    refine And.intro (inX_of_ext _ (Ext.trans Ew3.out (Ext.trans Ew4.out Ew5.out))) ?_
    repeat (refine lexAt_still (by rfl) ?_; go_big_quiet_step (fail); refine wpQuiet_nil ?_)
    refine lexAt_skip (by kernel_rfl) ?_
    simp only [Act.put, List.setIfInBounds_toArray, List.set_cons_succ, List.set_cons_zero]
    repeat (refine lexAt_still (by rfl) ?_; go_big_quiet_step (fail); refine wpQuiet_nil ?_)
    refine lexAt_skip (by kernel_rfl) ?_
    simp only [Act.put, List.setIfInBounds_toArray, List.set_cons_succ, List.set_cons_zero]
    repeat (refine lexAt_still (by rfl) ?_; go_big_quiet_step (fail); refine wpQuiet_nil ?_)
    refine lexAt_skip (by kernel_rfl) ?_
    simp only [Act.put, List.setIfInBounds_toArray, List.set_cons_succ, List.set_cons_zero]
    repeat (refine lexAt_still (by rfl) ?_; go_big_quiet_step (fail); refine wpQuiet_nil ?_)
    refine lexAt_skip (by kernel_rfl) ?_
    simp only [Act.put, List.setIfInBounds_toArray, List.set_cons_succ, List.set_cons_zero]
    repeat (refine lexAt_still (by rfl) ?_; go_big_quiet_step (fail); refine wpQuiet_nil ?_)
    refine lexAt_skip (by kernel_rfl) ?_
    simp only [Act.put, List.setIfInBounds_toArray, List.set_cons_succ, List.set_cons_zero]
    repeat (refine lexAt_still (by rfl) ?_; go_big_quiet_step (fail); refine wpQuiet_nil ?_)
    refine lexAt_skip (by kernel_rfl) ?_
    simp only [Act.put, List.setIfInBounds_toArray, List.set_cons_succ, List.set_cons_zero]
    repeat (refine lexAt_still (by rfl) ?_; go_big_quiet_step (fail); refine wpQuiet_nil ?_)
    refine lexAt_nil ?_
    clear f10 f11 f12 f13 f20 f21 f22 f23 fu0 fu1 fu2 fu3 fu4 fu5 fu6 fu7 fu8
    go_wp2_with fail
    refine (awake_any w5).mono ?_
    rintro e wz ⟨rfl, hEz⟩
    go_wp2_with fail
    go_ret
    exact ⟨rfl, Ext.trans (Ext.trans Ew1.out (Ext.trans Ew2.out (Ext.trans Ew3.out (Ext.trans Ew4.out Ew5.out)))) hEz⟩
  rw [hok]
  have HOK := Lib.hid hok
  have hmn := U.okm hok
  have htb := total_bd u.steps
  have hmn0 := hmn.1
  have hmn1 : u.mn ≤ 3000000 := by omega
  have hid0 := (U.good hok).id0
  have hid9 := (U.good hok).id9
  have HQR := Lib.hid (u.hq_range hok p)
  have HTOP : Hid (u.top = total u.steps) := by unfold Hid U.top; rw [if_pos (U.chk0 hok)]
  have HCK := Lib.hid ((ok_iff u).1 hok)
  clear hmn hok
  go_wp2_with fail
  refine And.intro (inX_of_ext _ (Ext.trans Ew3.out (Ext.trans Ew4.out Ew5.out))) ?_
  repeat (refine lexAt_still (by rfl) ?_; go_big_quiet_step (fail); refine wpQuiet_nil ?_)
  refine lexAt_move (by rfl) (by kernel_rfl) ?_
  go_wp2_with fail
  refine (qfrom_any u.mn w5 ⟨by omega, by omega⟩).mono ?_
  rintro e w6 ⟨si, Ai, ni, ci, ti, Bi, mi, di, rfl, hQ, hE⟩
  have Ew6 := Lib.hid hE
  clear hE
  have Qi := Lib.hid hQ
  clear hQ
  go_wp2_with fail
  refine And.intro (inX_of_ext _ (Ext.trans Ew3.out (Ext.trans Ew4.out (Ext.trans Ew5.out Ew6.out)))) ?_
  repeat (refine lexAt_still (by rfl) ?_; go_big_quiet_step (fail); refine wpQuiet_nil ?_)
  refine lexAt_move (by rfl) (by kernel_rfl) ?_
  go_wp2_with fail
  refine (qcmp_any s2 A2 n2 c2 t2 B2 m2 d2 _ si Ai ni ci ti Bi mi di _ w6 ⟨(H2.out.ext (Ext.trans Ew1.out (Ext.trans Ew2.out (Ext.trans Ew3.out (Ext.trans Ew4.out (Ext.trans Ew5.out Ew6.out)))))), by omega, by omega⟩ (Qi.out.arg (sz_small (z := u.mn) (by omega) (by omega)) (by omega))).mono ?_
  rintro e w7 ⟨rfl, hE⟩
  have Ew7 := Lib.hid hE
  clear hE
  obtain ⟨ca, hca⟩ : ∃ x, cmpQ q ((u.mn : Int) : Rat) = x := ⟨_, rfl⟩
  rw [hca]
  have Hca := Lib.hid hca
  clear hca
  by_cases hlo : q < ((u.mn : Int) : Rat)
  · have hb1 : decide (ca < 0) = true := by
      have : ca < 0 := by rw [← Hca.out]; exact (cmpQ_neg _ _).2 hlo
      simp; omega
    clear hlo
    go_wp2_with fail
    refine And.intro (inX_of_ext _ (Ext.trans Ew3.out (Ext.trans Ew4.out (Ext.trans Ew5.out (Ext.trans Ew6.out Ew7.out))))) ?_
    repeat (refine lexAt_still (by rfl) ?_; go_big_quiet_step (fail); refine wpQuiet_nil ?_)
    refine lexAt_skip (by kernel_rfl) ?_
    simp only [Act.put, List.setIfInBounds_toArray, List.set_cons_succ, List.set_cons_zero]
    repeat (refine lexAt_still (by rfl) ?_; go_big_quiet_step (fail); refine wpQuiet_nil ?_)
    refine lexAt_skip (by kernel_rfl) ?_
    simp only [Act.put, List.setIfInBounds_toArray, List.set_cons_succ, List.set_cons_zero]
    repeat (refine lexAt_still (by rfl) ?_; go_big_quiet_step (fail); refine wpQuiet_nil ?_)
    refine lexAt_skip (by kernel_rfl) ?_
    simp only [Act.put, List.setIfInBounds_toArray, List.set_cons_succ, List.set_cons_zero]
    repeat (refine lexAt_still (by rfl) ?_; go_big_quiet_step (fail); refine wpQuiet_nil ?_)
    refine lexAt_skip (by kernel_rfl) ?_
    simp only [Act.put, List.setIfInBounds_toArray, List.set_cons_succ, List.set_cons_zero]
    repeat (refine lexAt_still (by rfl) ?_; go_big_quiet_step (fail); refine wpQuiet_nil ?_)
    refine lexAt_nil ?_
    clear f10 f11 f12 f13 f20 f21 f22 f23 fu0 fu1 fu2 fu3 fu4 fu5 fu6 fu7 fu8
    go_wp2_with fail
    refine (awake_any w7).mono ?_
    rintro e wz ⟨rfl, hEz⟩
    go_wp2_with fail
    go_ret
    exact ⟨rfl, Ext.trans (Ext.trans Ew1.out (Ext.trans Ew2.out (Ext.trans Ew3.out (Ext.trans Ew4.out (Ext.trans Ew5.out (Ext.trans Ew6.out Ew7.out)))))) hEz⟩
  have hb1 : decide (ca < 0) = false := by
    have : ¬ ca < 0 := by rw [← Hca.out]; exact fun e => hlo ((cmpQ_neg _ _).1 e)
    simp; omega
  have HLO : Hid (((u.mn : Int) : Rat) ≤ q) := Rat.not_lt.1 hlo
  clear hlo
  go_wp2_with fail
  refine And.intro (inX_of_ext _ (Ext.trans Ew3.out (Ext.trans Ew4.out (Ext.trans Ew5.out (Ext.trans Ew6.out Ew7.out))))) ?_
  repeat (refine lexAt_still (by rfl) ?_; go_big_quiet_step (fail); refine wpQuiet_nil ?_)
  refine lexAt_move (by rfl) (by kernel_rfl) ?_
  go_wp2_with fail
  refine (max_any u A n c w7 (HS.out.below (Ext.trans Ew1.out (Ext.trans Ew2.out (Ext.trans Ew3.out (Ext.trans Ew4.out (Ext.trans Ew5.out (Ext.trans Ew6.out Ew7.out))))))) hn).mono ?_
  rintro e w8 ⟨rfl, hE⟩
  have Ew8 := Lib.hid hE
  clear hE
  obtain ⟨tp, htp⟩ : ∃ x, u.top = x := ⟨_, rfl⟩
  rw [htp]
  have Htp := Lib.hid htp
  clear htp
  go_wp2_with fail
  refine And.intro (inX_of_ext _ (Ext.trans Ew3.out (Ext.trans Ew4.out (Ext.trans Ew5.out (Ext.trans Ew6.out (Ext.trans Ew7.out Ew8.out)))))) ?_
  repeat (refine lexAt_still (by rfl) ?_; go_big_quiet_step (fail); refine wpQuiet_nil ?_)
  have htp0 : 0 ≤ tp := by rw [← Htp.out, HTOP.out]; exact htb.1
  have htp1 : tp ≤ 3000000 := by rw [← Htp.out, HTOP.out]; exact htb.2
  refine lexAt_move (by rfl) (by kernel_rfl) ?_
  go_wp2_with fail
  refine (qfrom_any tp w8 ⟨by omega, by omega⟩).mono ?_
  rintro e w9 ⟨sj, Aj, nj, cj, tj, Bj, mj, dj, rfl, hQ, hE⟩
  have Ew9 := Lib.hid hE
  clear hE
  have Qj := Lib.hid hQ
  clear hQ
  go_wp2_with fail
  refine And.intro (inX_of_ext _ (Ext.trans Ew3.out (Ext.trans Ew4.out (Ext.trans Ew5.out (Ext.trans Ew6.out (Ext.trans Ew7.out (Ext.trans Ew8.out Ew9.out))))))) ?_
  repeat (refine lexAt_still (by rfl) ?_; go_big_quiet_step (fail); refine wpQuiet_nil ?_)
  refine lexAt_move (by rfl) (by kernel_rfl) ?_
  go_wp2_with fail
  refine (qcmp_any s2 A2 n2 c2 t2 B2 m2 d2 _ sj Aj nj cj tj Bj mj dj _ w9 ⟨(H2.out.ext (Ext.trans Ew1.out (Ext.trans Ew2.out (Ext.trans Ew3.out (Ext.trans Ew4.out (Ext.trans Ew5.out (Ext.trans Ew6.out (Ext.trans Ew7.out (Ext.trans Ew8.out Ew9.out))))))))), by omega, by omega⟩ (Qj.out.arg (sz_small (z := tp) (by omega) (by omega)) (by omega))).mono ?_
  rintro e w10 ⟨rfl, hE⟩
  have Ew10 := Lib.hid hE
  clear hE
  obtain ⟨cb, hcb⟩ : ∃ x, cmpQ q ((tp : Int) : Rat) = x := ⟨_, rfl⟩
  rw [hcb]
  have Hcb := Lib.hid hcb
  clear hcb
  by_cases hhi : ((tp : Int) : Rat) < q
  · have hb2 : decide (0 < cb) = true := by
      have : 0 < cb := by rw [← Hcb.out]; exact (cmpQ_pos _ _).2 hhi
      simp; omega
    clear hhi
    go_wp2_with fail
    refine And.intro (inX_of_ext _ (Ext.trans Ew3.out (Ext.trans Ew4.out (Ext.trans Ew5.out (Ext.trans Ew6.out (Ext.trans Ew7.out (Ext.trans Ew8.out (Ext.trans Ew9.out Ew10.out)))))))) ?_
    repeat (refine lexAt_still (by rfl) ?_; go_big_quiet_step (fail); refine wpQuiet_nil ?_)
    refine lexAt_skip (by kernel_rfl) ?_
    simp only [Act.put, List.setIfInBounds_toArray, List.set_cons_succ, List.set_cons_zero]
    repeat (refine lexAt_still (by rfl) ?_; go_big_quiet_step (fail); refine wpQuiet_nil ?_)
    refine lexAt_nil ?_
    clear f10 f11 f12 f13 f20 f21 f22 f23 fu0 fu1 fu2 fu3 fu4 fu5 fu6 fu7 fu8
    go_wp2_with fail
    refine (awake_any w10).mono ?_
    rintro e wz ⟨rfl, hEz⟩
    go_wp2_with fail
    go_ret
    exact ⟨rfl, Ext.trans (Ext.trans Ew1.out (Ext.trans Ew2.out (Ext.trans Ew3.out (Ext.trans Ew4.out (Ext.trans Ew5.out (Ext.trans Ew6.out (Ext.trans Ew7.out (Ext.trans Ew8.out (Ext.trans Ew9.out Ew10.out))))))))) hEz⟩
  have hb2 : decide (0 < cb) = false := by
    have : ¬ 0 < cb := by rw [← Hcb.out]; exact fun e => hhi ((cmpQ_pos _ _).1 e)
    simp; omega
  have HHI : Hid (q ≤ ((u.top : Int) : Rat)) := by unfold Hid; rw [Htp.out]; exact Rat.not_lt.1 hhi
  clear hhi
  go_wp2_with fail
  refine And.intro (inX_of_ext _ (Ext.trans Ew3.out (Ext.trans Ew4.out (Ext.trans Ew5.out (Ext.trans Ew6.out (Ext.trans Ew7.out (Ext.trans Ew8.out (Ext.trans Ew9.out Ew10.out)))))))) ?_
  repeat (refine lexAt_still (by rfl) ?_; go_big_quiet_step (fail); refine wpQuiet_nil ?_)
  refine lexAt_move (by rfl) (by kernel_rfl) ?_
  go_wp2_with fail
  refine (awake_any w10).mono ?_
  rintro e w11 ⟨rfl, hE⟩
  have Ew11 := Lib.hid hE
  clear hE
  go_wp2_with fail
  refine And.intro (inX_of_ext _ (Ext.trans Ew3.out (Ext.trans Ew4.out (Ext.trans Ew5.out (Ext.trans Ew6.out (Ext.trans Ew7.out (Ext.trans Ew8.out (Ext.trans Ew9.out (Ext.trans Ew10.out Ew11.out))))))))) ?_
  repeat (refine lexAt_still (by rfl) ?_; go_big_quiet_step (fail); refine wpQuiet_nil ?_)
  refine lexAt_nil ?_
  clear f10 f11 f12 f13 f20 f21 f22 f23 fu0 fu1 fu2 fu3 fu4 fu5 fu6 fu7 fu8
  have HOPT := Lib.hid (hour_opt HOK.out p HLO.out HHI.out)
  have HQ0 : Hid (0 ≤ q) := Rat.le_trans (Rat.intCast_nonneg.2 hmn0) HLO.out
  have HA1 : Hid (allocE u.steps q = 0) := alloc_at HOK.out HQ0.out (by rw [← HTOP.out]; exact HHI.out)
  have HA2 := Lib.hid (u.hq_alloc HOK.out p)
  have HSM := Lib.hid (hour_same u p)
  have HPE : Hid (u.hpE p = u.hp p) := by unfold Hid U.hpE; rw [if_pos HOK.out]
  have HQE : Hid (u.hqE p = u.hq p) := by unfold Hid U.hqE; rw [if_pos HOK.out]
  clear htb
  have zu := World.block_lt_of_cell? _ _ (Ku.out.ext (Ext.trans Ew2.out (Ext.trans Ew3.out (Ext.trans Ew4.out (Ext.trans Ew5.out (Ext.trans Ew6.out (Ext.trans Ew7.out (Ext.trans Ew8.out (Ext.trans Ew9.out (Ext.trans Ew10.out Ew11.out)))))))))).1
  have xu0 := (Ku.out.ext (Ext.trans Ew2.out (Ext.trans Ew3.out (Ext.trans Ew4.out (Ext.trans Ew5.out (Ext.trans Ew6.out (Ext.trans Ew7.out (Ext.trans Ew8.out (Ext.trans Ew9.out (Ext.trans Ew10.out Ew11.out)))))))))).1
  have xu1 := (Ku.out.ext (Ext.trans Ew2.out (Ext.trans Ew3.out (Ext.trans Ew4.out (Ext.trans Ew5.out (Ext.trans Ew6.out (Ext.trans Ew7.out (Ext.trans Ew8.out (Ext.trans Ew9.out (Ext.trans Ew10.out Ew11.out)))))))))).2.1
  have xu2 := (Ku.out.ext (Ext.trans Ew2.out (Ext.trans Ew3.out (Ext.trans Ew4.out (Ext.trans Ew5.out (Ext.trans Ew6.out (Ext.trans Ew7.out (Ext.trans Ew8.out (Ext.trans Ew9.out (Ext.trans Ew10.out Ew11.out)))))))))).2.2.1
  have xu3 := (Ku.out.ext (Ext.trans Ew2.out (Ext.trans Ew3.out (Ext.trans Ew4.out (Ext.trans Ew5.out (Ext.trans Ew6.out (Ext.trans Ew7.out (Ext.trans Ew8.out (Ext.trans Ew9.out (Ext.trans Ew10.out Ew11.out)))))))))).2.2.2.1
  have xu4 := (Ku.out.ext (Ext.trans Ew2.out (Ext.trans Ew3.out (Ext.trans Ew4.out (Ext.trans Ew5.out (Ext.trans Ew6.out (Ext.trans Ew7.out (Ext.trans Ew8.out (Ext.trans Ew9.out (Ext.trans Ew10.out Ew11.out)))))))))).2.2.2.2.1
  have xu5 := (Ku.out.ext (Ext.trans Ew2.out (Ext.trans Ew3.out (Ext.trans Ew4.out (Ext.trans Ew5.out (Ext.trans Ew6.out (Ext.trans Ew7.out (Ext.trans Ew8.out (Ext.trans Ew9.out (Ext.trans Ew10.out Ew11.out)))))))))).2.2.2.2.2.1
  have xu6 := (Ku.out.ext (Ext.trans Ew2.out (Ext.trans Ew3.out (Ext.trans Ew4.out (Ext.trans Ew5.out (Ext.trans Ew6.out (Ext.trans Ew7.out (Ext.trans Ew8.out (Ext.trans Ew9.out (Ext.trans Ew10.out Ew11.out)))))))))).2.2.2.2.2.2.1
  have xu7 := (Ku.out.ext (Ext.trans Ew2.out (Ext.trans Ew3.out (Ext.trans Ew4.out (Ext.trans Ew5.out (Ext.trans Ew6.out (Ext.trans Ew7.out (Ext.trans Ew8.out (Ext.trans Ew9.out (Ext.trans Ew10.out Ew11.out)))))))))).2.2.2.2.2.2.2.1
  have xu8 := (Ku.out.ext (Ext.trans Ew2.out (Ext.trans Ew3.out (Ext.trans Ew4.out (Ext.trans Ew5.out (Ext.trans Ew6.out (Ext.trans Ew7.out (Ext.trans Ew8.out (Ext.trans Ew9.out (Ext.trans Ew10.out Ew11.out)))))))))).2.2.2.2.2.2.2.2
  obtain ⟨⟨x10, x11, x12, x13⟩, -, z1⟩ := (K1.out.ext (Ext.trans Ew2.out (Ext.trans Ew3.out (Ext.trans Ew4.out (Ext.trans Ew5.out (Ext.trans Ew6.out (Ext.trans Ew7.out (Ext.trans Ew8.out (Ext.trans Ew9.out (Ext.trans Ew10.out Ew11.out))))))))))
  go_wp2_with fail
  clear zu xu0 xu1 xu2 xu3 xu4 xu5 xu6 xu7 xu8 x10 x11 x12 x13 z1
  obtain ⟨nq, hnq⟩ : ∃ v, u.hq p = v := ⟨_, rfl⟩
  have hnq0 : 0 ≤ nq := by rw [← hnq]; exact HQR.out.1
  have hnq1 : nq ≤ 3000000 := by rw [← hnq]; exact HQR.out.2.2.2
  have hnq2 : u.mn ≤ nq := by rw [← hnq]; exact HQR.out.2.1
  have hnq3 : nq ≤ tp := by rw [← hnq, ← Htp.out, HTOP.out]; exact HQR.out.2.2.1
  rw [hnq] at HQE HOPT HA2 HSM
  clear hnq HQR
  have HZp : Hid (Sz 9028 (u.hp p)) := (sz_hp (K := 6) HOK.out HZ1.out).mono (by omega)
  refine (hour_any u A n c s1 A1 n1 c1 t1 B1 m1 d1 p w11 (HS.out.below (Ext.trans Ew1.out (Ext.trans Ew2.out (Ext.trans Ew3.out (Ext.trans Ew4.out (Ext.trans Ew5.out (Ext.trans Ew6.out (Ext.trans Ew7.out (Ext.trans Ew8.out (Ext.trans Ew9.out (Ext.trans Ew10.out Ew11.out))))))))))) hn (H1.out.ext (Ext.trans Ew1.out (Ext.trans Ew2.out (Ext.trans Ew3.out (Ext.trans Ew4.out (Ext.trans Ew5.out (Ext.trans Ew6.out (Ext.trans Ew7.out (Ext.trans Ew8.out (Ext.trans Ew9.out (Ext.trans Ew10.out Ew11.out))))))))))) (by omega) (by omega)).mono ?_
  rintro e w12 ⟨sx, Ax, nx, cx, tx, Bx, mx, dx, rfl, hQ, hE⟩
  have Ew12 := Lib.hid hE
  clear hE
  rw [HCK.out, HQE.out]
  rw [HPE.out] at hQ
  have Qx := Lib.hid hQ
  clear hQ
  have zu := World.block_lt_of_cell? _ _ (Ku.out.ext (Ext.trans Ew2.out (Ext.trans Ew3.out (Ext.trans Ew4.out (Ext.trans Ew5.out (Ext.trans Ew6.out (Ext.trans Ew7.out (Ext.trans Ew8.out (Ext.trans Ew9.out (Ext.trans Ew10.out (Ext.trans Ew11.out Ew12.out))))))))))).1
  have xu2 := (Ku.out.ext (Ext.trans Ew2.out (Ext.trans Ew3.out (Ext.trans Ew4.out (Ext.trans Ew5.out (Ext.trans Ew6.out (Ext.trans Ew7.out (Ext.trans Ew8.out (Ext.trans Ew9.out (Ext.trans Ew10.out (Ext.trans Ew11.out Ew12.out))))))))))).2.2.1
  obtain ⟨⟨x20, x21, x22, x23⟩, -, z2⟩ := (K2.out.ext (Ext.trans Ew2.out (Ext.trans Ew3.out (Ext.trans Ew4.out (Ext.trans Ew5.out (Ext.trans Ew6.out (Ext.trans Ew7.out (Ext.trans Ew8.out (Ext.trans Ew9.out (Ext.trans Ew10.out (Ext.trans Ew11.out Ew12.out)))))))))))
  go_wp2_with fail
  clear zu xu2 x20 x21 x22 x23 z2
  have kw13 := Cell4.new w12 _ rfl (.bool sx) (.slice Ax nx cx) (.bool tx) (.slice Bx mx dx) 34
  have hE : Ext w12 (w12.alloc (.cells #[.bool sx, .slice Ax nx cx, .bool tx, .slice Bx mx dx] 34)) := Ext.al Ext.rfl' _
  generalize w12.alloc (.cells #[.bool sx, .slice Ax nx cx, .bool tx, .slice Bx mx dx] 34) = w13 at *
  have Ew13 := Lib.hid hE
  clear hE
  have Kx := Lib.hid kw13
  clear kw13
  refine (cost_any A n c u.steps s2 A2 n2 c2 t2 B2 m2 d2 q w13 (HS.out.below (Ext.trans Ew1.out (Ext.trans Ew2.out (Ext.trans Ew3.out (Ext.trans Ew4.out (Ext.trans Ew5.out (Ext.trans Ew6.out (Ext.trans Ew7.out (Ext.trans Ew8.out (Ext.trans Ew9.out (Ext.trans Ew10.out (Ext.trans Ew11.out (Ext.trans Ew12.out Ew13.out))))))))))))) hn (H2.out.ext (Ext.trans Ew1.out (Ext.trans Ew2.out (Ext.trans Ew3.out (Ext.trans Ew4.out (Ext.trans Ew5.out (Ext.trans Ew6.out (Ext.trans Ew7.out (Ext.trans Ew8.out (Ext.trans Ew9.out (Ext.trans Ew10.out (Ext.trans Ew11.out (Ext.trans Ew12.out Ew13.out))))))))))))) (by omega) (by omega)).mono ?_
  rintro e w14 ⟨sk, Ak, nk, ck, tk, Bk, mk, dk, rfl, hQ, hE⟩
  have Ew14 := Lib.hid hE
  clear hE
  have Qk := Lib.hid hQ
  clear hQ
  rw [HA1.out]
  go_wp2_with fail
  have kw15 := Cell4.new w14 _ rfl (.bool sk) (.slice Ak nk ck) (.bool tk) (.slice Bk mk dk) 34
  have hE : Ext w14 (w14.alloc (.cells #[.bool sk, .slice Ak nk ck, .bool tk, .slice Bk mk dk] 34)) := Ext.al Ext.rfl' _
  generalize w14.alloc (.cells #[.bool sk, .slice Ak nk ck, .bool tk, .slice Bk mk dk] 34) = w15 at *
  have Ew15 := Lib.hid hE
  clear hE
  have Kk := Lib.hid kw15
  clear kw15
  refine wp_region_havS [8] [0, 1, 2, 3, 4, 5, 6, 7] [9, 10] (fun _ => .cells #[.bool false, .slice none 0 0, .bool false, .slice none 0 0] 34) (by kernel_rfl) (by kernel_rfl) ?_ ?_
  · intro f hf
    simp only [List.mem_cons, List.not_mem_nil, or_false] at hf
    rcases hf with rfl
    all_goals exact makes_q (by rfl) rfl
  have hE : Ext w15 w15.drew := Ext.rfl'.drew
  generalize w15.drew = w16 at *
  have Ew16 := Lib.hid hE
  clear hE
  have fu2 := fun z : ExtX w16 [] => z.cell (p := ⟨w.heap.size, 2, none⟩) (Ku.out.ext (Ext.trans Ew2.out (Ext.trans Ew3.out (Ext.trans Ew4.out (Ext.trans Ew5.out (Ext.trans Ew6.out (Ext.trans Ew7.out (Ext.trans Ew8.out (Ext.trans Ew9.out (Ext.trans Ew10.out (Ext.trans Ew11.out (Ext.trans Ew12.out (Ext.trans Ew13.out (Ext.trans Ew14.out (Ext.trans Ew15.out Ew16.out))))))))))))))).2.2.1 (by simp)
  intro w17 hE
  have Ew17 := Lib.hid hE
  clear hE
  repeat (refine havAt_still (by rfl) (by rfl) ?_; go_big_quiet_step (fail); refine wpQuiet_nil ?_)
  refine havAt_move (by rfl) (by rfl) (by kernel_rfl) ?_
  go_wp2_with fail
  refine (qfrom_any nq w17 ⟨by omega, by omega⟩).mono ?_
  rintro e w18 ⟨sm, Am, nm, cm, tm, Bm, mm, dm, rfl, hQ, hE⟩
  have Ew18 := Lib.hid hE
  clear hE
  have Qm := Lib.hid hQ
  clear hQ
  go_wp2_with fail
  refine And.intro Ew18.out (fun w19 hE => ?_)
  have Ew19 := Lib.hid hE
  clear hE
  repeat (refine havAt_still (by rfl) (by rfl) ?_; go_big_quiet_step (fail); refine wpQuiet_nil ?_)
  refine havAt_move (by rfl) (by rfl) (by kernel_rfl) ?_
  go_wp2_with fail
  refine (cost_any A n c u.steps sm Am nm cm tm Bm mm dm ((nq : Int) : Rat) w19 (HS.out.below (Ext.trans Ew1.out (Ext.trans Ew2.out (Ext.trans Ew3.out (Ext.trans Ew4.out (Ext.trans Ew5.out (Ext.trans Ew6.out (Ext.trans Ew7.out (Ext.trans Ew8.out (Ext.trans Ew9.out (Ext.trans Ew10.out (Ext.trans Ew11.out (Ext.trans Ew12.out (Ext.trans Ew13.out (Ext.trans Ew14.out (Ext.trans Ew15.out (Ext.trans Ew16.out (Ext.trans Ew17.out (Ext.trans Ew18.out Ew19.out))))))))))))))))))) hn (Qm.out.ext Ew19.out).is (Nat.le_trans ((Qm.out.ext Ew19.out).len (sz_small (z := nq) (by omega) (by omega))).1 (by omega)) (Nat.le_trans ((Qm.out.ext Ew19.out).len (sz_small (z := nq) (by omega) (by omega))).2 (by omega))).mono ?_
  rintro e w20 ⟨sl, Al, nl, cl, tl, Bl, ml, dl, rfl, hQ, hE⟩
  have Ew20 := Lib.hid hE
  clear hE
  have Ql := Lib.hid hQ
  clear hQ
  rw [HA2.out]
  go_wp2_with fail
  refine And.intro Ew20.out (fun w21 hE => ?_)
  have Ew21 := Lib.hid hE
  clear hE
  repeat (refine havAt_still (by rfl) (by rfl) ?_; go_big_quiet_step (fail); refine wpQuiet_nil ?_)
  refine havAt_end ?_
  intro gs hgs hne
  have hpl := hgs 8 (by simp)
  change IdxAt _ _ _ _ _ _ (Act.put _ (some 12) (.pointer (some ⟨gs 8, 0, none⟩))) _
  generalize gs 8 = gl at *
  clear hgs hne
  simp only [Act.put, List.setIfInBounds_toArray, List.set_cons_succ, List.set_cons_zero]
  have Pl := Lib.hid hpl
  have Kl := Lib.hid (Cell4.of_blk hpl.2.1)
  clear hpl
  repeat (refine idxAt_still (by rfl) (by rfl) ?_; go_big_quiet_step (fail); refine wpQuiet_nil ?_)
  obtain ⟨⟨o0, o1, o2, o3⟩, ⟨q0, q1, q2, q3⟩, ol⟩ := Kl.out
  refine idxAt_move (by rfl) (by rfl) (by kernel_rfl) ?_
  go_wp2_with fail
  refine And.intro (inX_put (p := ⟨gl, 3, none⟩) (inX_put (p := ⟨gl, 2, none⟩) (inX_put (p := ⟨gl, 1, none⟩) (inX_put (p := ⟨gl, 0, none⟩) (inX_of_ext _ (Ext.trans Ew17.out (Ext.trans Ew18.out (Ext.trans Ew19.out (Ext.trans Ew20.out Ew21.out))))) (.inr Pl.out.1) _) (.inr Pl.out.1) _) (.inr Pl.out.1) _) (.inr Pl.out.1) _) ?_
  clear o0 o1 o2 o3 q0 q1 q2 q3 ol
  have Kl_1 := Lib.hid (Kl.out.put4 (.bool sl) (.slice Al nl cl) (.bool tl) (.slice Bl ml dl))
  have NJ1 := Lib.hid (ext_put4 (Ext.trans Ew17.out (Ext.trans Ew18.out (Ext.trans Ew19.out (Ext.trans Ew20.out Ew21.out)))) (g := gl) Pl.out.1 0 (.bool sl) (.slice Al nl cl) (.bool tl) (.slice Bl ml dl))
  have NZ1 : Hid (w21.heap.size ≤ (put4 w21 (gl) 0 (.bool sl) (.slice Al nl cl) (.bool tl) (.slice Bl ml dl)).heap.size) := by unfold Hid; rw [put4_size]; exact Nat.le_refl _
  have Ql_1 := Lib.hid ((Ql.out.ext Ew21.out).put4A (g := gl) (Ql.out.span (Pl.out.2.2 (w19.heap.size, w20.heap.size) (by simp))) 0 (.bool sl) (.slice Al nl cl) (.bool tl) (.slice Bl ml dl))
  unfold put4 at Kl_1 NJ1 NZ1 Ql_1
  simp only [Nat.zero_add] at Kl_1 NJ1 NZ1 Ql_1
  generalize ((((w21.setCell ⟨gl, 0, none⟩ (.bool sl)).setCell ⟨gl, 1, none⟩ (.slice Al nl cl)).setCell ⟨gl, 2, none⟩ (.bool tl)).setCell ⟨gl, 3, none⟩ (.slice Bl ml dl)) = w22 at *
  repeat (refine idxAt_still (by rfl) (by rfl) ?_; go_big_quiet_step (fail); refine wpQuiet_nil ?_)
  refine idxAt_nil ?_
  clear fu2
  have hb3 : decide (nq < u.mn) = false := by simp; omega
  have hb4 : decide (tp < nq) = false := by simp; omega
  have zu := World.block_lt_of_cell? _ _ (Ku.out.ext (Ext.trans Ew2.out (Ext.trans Ew3.out (Ext.trans Ew4.out (Ext.trans Ew5.out (Ext.trans Ew6.out (Ext.trans Ew7.out (Ext.trans Ew8.out (Ext.trans Ew9.out (Ext.trans Ew10.out (Ext.trans Ew11.out (Ext.trans Ew12.out (Ext.trans Ew13.out (Ext.trans Ew14.out (Ext.trans Ew15.out (Ext.trans Ew16.out NJ1.out)))))))))))))))).1
  have xu0 := (Ku.out.ext (Ext.trans Ew2.out (Ext.trans Ew3.out (Ext.trans Ew4.out (Ext.trans Ew5.out (Ext.trans Ew6.out (Ext.trans Ew7.out (Ext.trans Ew8.out (Ext.trans Ew9.out (Ext.trans Ew10.out (Ext.trans Ew11.out (Ext.trans Ew12.out (Ext.trans Ew13.out (Ext.trans Ew14.out (Ext.trans Ew15.out (Ext.trans Ew16.out NJ1.out)))))))))))))))).1
  have xu1 := (Ku.out.ext (Ext.trans Ew2.out (Ext.trans Ew3.out (Ext.trans Ew4.out (Ext.trans Ew5.out (Ext.trans Ew6.out (Ext.trans Ew7.out (Ext.trans Ew8.out (Ext.trans Ew9.out (Ext.trans Ew10.out (Ext.trans Ew11.out (Ext.trans Ew12.out (Ext.trans Ew13.out (Ext.trans Ew14.out (Ext.trans Ew15.out (Ext.trans Ew16.out NJ1.out)))))))))))))))).2.1
  have xu2 := (Ku.out.ext (Ext.trans Ew2.out (Ext.trans Ew3.out (Ext.trans Ew4.out (Ext.trans Ew5.out (Ext.trans Ew6.out (Ext.trans Ew7.out (Ext.trans Ew8.out (Ext.trans Ew9.out (Ext.trans Ew10.out (Ext.trans Ew11.out (Ext.trans Ew12.out (Ext.trans Ew13.out (Ext.trans Ew14.out (Ext.trans Ew15.out (Ext.trans Ew16.out NJ1.out)))))))))))))))).2.2.1
  have xu3 := (Ku.out.ext (Ext.trans Ew2.out (Ext.trans Ew3.out (Ext.trans Ew4.out (Ext.trans Ew5.out (Ext.trans Ew6.out (Ext.trans Ew7.out (Ext.trans Ew8.out (Ext.trans Ew9.out (Ext.trans Ew10.out (Ext.trans Ew11.out (Ext.trans Ew12.out (Ext.trans Ew13.out (Ext.trans Ew14.out (Ext.trans Ew15.out (Ext.trans Ew16.out NJ1.out)))))))))))))))).2.2.2.1
  have xu4 := (Ku.out.ext (Ext.trans Ew2.out (Ext.trans Ew3.out (Ext.trans Ew4.out (Ext.trans Ew5.out (Ext.trans Ew6.out (Ext.trans Ew7.out (Ext.trans Ew8.out (Ext.trans Ew9.out (Ext.trans Ew10.out (Ext.trans Ew11.out (Ext.trans Ew12.out (Ext.trans Ew13.out (Ext.trans Ew14.out (Ext.trans Ew15.out (Ext.trans Ew16.out NJ1.out)))))))))))))))).2.2.2.2.1
  have xu5 := (Ku.out.ext (Ext.trans Ew2.out (Ext.trans Ew3.out (Ext.trans Ew4.out (Ext.trans Ew5.out (Ext.trans Ew6.out (Ext.trans Ew7.out (Ext.trans Ew8.out (Ext.trans Ew9.out (Ext.trans Ew10.out (Ext.trans Ew11.out (Ext.trans Ew12.out (Ext.trans Ew13.out (Ext.trans Ew14.out (Ext.trans Ew15.out (Ext.trans Ew16.out NJ1.out)))))))))))))))).2.2.2.2.2.1
  have xu6 := (Ku.out.ext (Ext.trans Ew2.out (Ext.trans Ew3.out (Ext.trans Ew4.out (Ext.trans Ew5.out (Ext.trans Ew6.out (Ext.trans Ew7.out (Ext.trans Ew8.out (Ext.trans Ew9.out (Ext.trans Ew10.out (Ext.trans Ew11.out (Ext.trans Ew12.out (Ext.trans Ew13.out (Ext.trans Ew14.out (Ext.trans Ew15.out (Ext.trans Ew16.out NJ1.out)))))))))))))))).2.2.2.2.2.2.1
  have xu7 := (Ku.out.ext (Ext.trans Ew2.out (Ext.trans Ew3.out (Ext.trans Ew4.out (Ext.trans Ew5.out (Ext.trans Ew6.out (Ext.trans Ew7.out (Ext.trans Ew8.out (Ext.trans Ew9.out (Ext.trans Ew10.out (Ext.trans Ew11.out (Ext.trans Ew12.out (Ext.trans Ew13.out (Ext.trans Ew14.out (Ext.trans Ew15.out (Ext.trans Ew16.out NJ1.out)))))))))))))))).2.2.2.2.2.2.2.1
  have xu8 := (Ku.out.ext (Ext.trans Ew2.out (Ext.trans Ew3.out (Ext.trans Ew4.out (Ext.trans Ew5.out (Ext.trans Ew6.out (Ext.trans Ew7.out (Ext.trans Ew8.out (Ext.trans Ew9.out (Ext.trans Ew10.out (Ext.trans Ew11.out (Ext.trans Ew12.out (Ext.trans Ew13.out (Ext.trans Ew14.out (Ext.trans Ew15.out (Ext.trans Ew16.out NJ1.out)))))))))))))))).2.2.2.2.2.2.2.2
  go_wp2_with fail
  clear zu xu0 xu1 xu2 xu3 xu4 xu5 xu6 xu7 xu8
  refine (max_any u A n c w22 (HS.out.below (Ext.trans Ew1.out (Ext.trans Ew2.out (Ext.trans Ew3.out (Ext.trans Ew4.out (Ext.trans Ew5.out (Ext.trans Ew6.out (Ext.trans Ew7.out (Ext.trans Ew8.out (Ext.trans Ew9.out (Ext.trans Ew10.out (Ext.trans Ew11.out (Ext.trans Ew12.out (Ext.trans Ew13.out (Ext.trans Ew14.out (Ext.trans Ew15.out (Ext.trans Ew16.out NJ1.out))))))))))))))))) hn).mono ?_
  rintro e w23 ⟨rfl, hE⟩
  have Ew23 := Lib.hid hE
  clear hE
  rw [Htp.out]
  go_wp2_with fail
  refine wp_region_havS [9] [0, 1, 2, 3, 4, 5, 6, 7, 8] [10] (fun _ => .cells #[.bool false, .slice none 0 0, .bool false, .slice none 0 0] 34) (by kernel_rfl) (by kernel_rfl) ?_ ?_
  · intro f hf
    simp only [List.mem_cons, List.not_mem_nil, or_false] at hf
    rcases hf with rfl
    all_goals exact makes_q (by rfl) rfl
  have hE : Ext w23 w23.drew := Ext.rfl'.drew
  generalize w23.drew = w24 at *
  have Ew24 := Lib.hid hE
  clear hE
  have f10 := fun z : ExtX w24 [] => z.cell (p := ⟨w.heap.size + 1, 0, none⟩) (K1.out.ext (Ext.trans Ew2.out (Ext.trans Ew3.out (Ext.trans Ew4.out (Ext.trans Ew5.out (Ext.trans Ew6.out (Ext.trans Ew7.out (Ext.trans Ew8.out (Ext.trans Ew9.out (Ext.trans Ew10.out (Ext.trans Ew11.out (Ext.trans Ew12.out (Ext.trans Ew13.out (Ext.trans Ew14.out (Ext.trans Ew15.out (Ext.trans Ew16.out (Ext.trans NJ1.out (Ext.trans Ew23.out Ew24.out)))))))))))))))))).1.1 (by simp)
  have f11 := fun z : ExtX w24 [] => z.cell (p := ⟨w.heap.size + 1, 1, none⟩) (K1.out.ext (Ext.trans Ew2.out (Ext.trans Ew3.out (Ext.trans Ew4.out (Ext.trans Ew5.out (Ext.trans Ew6.out (Ext.trans Ew7.out (Ext.trans Ew8.out (Ext.trans Ew9.out (Ext.trans Ew10.out (Ext.trans Ew11.out (Ext.trans Ew12.out (Ext.trans Ew13.out (Ext.trans Ew14.out (Ext.trans Ew15.out (Ext.trans Ew16.out (Ext.trans NJ1.out (Ext.trans Ew23.out Ew24.out)))))))))))))))))).1.2.1 (by simp)
  have f12 := fun z : ExtX w24 [] => z.cell (p := ⟨w.heap.size + 1, 2, none⟩) (K1.out.ext (Ext.trans Ew2.out (Ext.trans Ew3.out (Ext.trans Ew4.out (Ext.trans Ew5.out (Ext.trans Ew6.out (Ext.trans Ew7.out (Ext.trans Ew8.out (Ext.trans Ew9.out (Ext.trans Ew10.out (Ext.trans Ew11.out (Ext.trans Ew12.out (Ext.trans Ew13.out (Ext.trans Ew14.out (Ext.trans Ew15.out (Ext.trans Ew16.out (Ext.trans NJ1.out (Ext.trans Ew23.out Ew24.out)))))))))))))))))).1.2.2.1 (by simp)
  have f13 := fun z : ExtX w24 [] => z.cell (p := ⟨w.heap.size + 1, 3, none⟩) (K1.out.ext (Ext.trans Ew2.out (Ext.trans Ew3.out (Ext.trans Ew4.out (Ext.trans Ew5.out (Ext.trans Ew6.out (Ext.trans Ew7.out (Ext.trans Ew8.out (Ext.trans Ew9.out (Ext.trans Ew10.out (Ext.trans Ew11.out (Ext.trans Ew12.out (Ext.trans Ew13.out (Ext.trans Ew14.out (Ext.trans Ew15.out (Ext.trans Ew16.out (Ext.trans NJ1.out (Ext.trans Ew23.out Ew24.out)))))))))))))))))).1.2.2.2 (by simp)
  have f20 := fun z : ExtX w24 [] => z.cell (p := ⟨w.heap.size + 1 + 1, 0, none⟩) (K2.out.ext (Ext.trans Ew2.out (Ext.trans Ew3.out (Ext.trans Ew4.out (Ext.trans Ew5.out (Ext.trans Ew6.out (Ext.trans Ew7.out (Ext.trans Ew8.out (Ext.trans Ew9.out (Ext.trans Ew10.out (Ext.trans Ew11.out (Ext.trans Ew12.out (Ext.trans Ew13.out (Ext.trans Ew14.out (Ext.trans Ew15.out (Ext.trans Ew16.out (Ext.trans NJ1.out (Ext.trans Ew23.out Ew24.out)))))))))))))))))).1.1 (by simp)
  have f21 := fun z : ExtX w24 [] => z.cell (p := ⟨w.heap.size + 1 + 1, 1, none⟩) (K2.out.ext (Ext.trans Ew2.out (Ext.trans Ew3.out (Ext.trans Ew4.out (Ext.trans Ew5.out (Ext.trans Ew6.out (Ext.trans Ew7.out (Ext.trans Ew8.out (Ext.trans Ew9.out (Ext.trans Ew10.out (Ext.trans Ew11.out (Ext.trans Ew12.out (Ext.trans Ew13.out (Ext.trans Ew14.out (Ext.trans Ew15.out (Ext.trans Ew16.out (Ext.trans NJ1.out (Ext.trans Ew23.out Ew24.out)))))))))))))))))).1.2.1 (by simp)
  have f22 := fun z : ExtX w24 [] => z.cell (p := ⟨w.heap.size + 1 + 1, 2, none⟩) (K2.out.ext (Ext.trans Ew2.out (Ext.trans Ew3.out (Ext.trans Ew4.out (Ext.trans Ew5.out (Ext.trans Ew6.out (Ext.trans Ew7.out (Ext.trans Ew8.out (Ext.trans Ew9.out (Ext.trans Ew10.out (Ext.trans Ew11.out (Ext.trans Ew12.out (Ext.trans Ew13.out (Ext.trans Ew14.out (Ext.trans Ew15.out (Ext.trans Ew16.out (Ext.trans NJ1.out (Ext.trans Ew23.out Ew24.out)))))))))))))))))).1.2.2.1 (by simp)
  have f23 := fun z : ExtX w24 [] => z.cell (p := ⟨w.heap.size + 1 + 1, 3, none⟩) (K2.out.ext (Ext.trans Ew2.out (Ext.trans Ew3.out (Ext.trans Ew4.out (Ext.trans Ew5.out (Ext.trans Ew6.out (Ext.trans Ew7.out (Ext.trans Ew8.out (Ext.trans Ew9.out (Ext.trans Ew10.out (Ext.trans Ew11.out (Ext.trans Ew12.out (Ext.trans Ew13.out (Ext.trans Ew14.out (Ext.trans Ew15.out (Ext.trans Ew16.out (Ext.trans NJ1.out (Ext.trans Ew23.out Ew24.out)))))))))))))))))).1.2.2.2 (by simp)
  have fk0 := fun z : ExtX w24 [] => z.cell (p := ⟨w14.heap.size, 0, none⟩) (Kk.out.ext (Ext.trans Ew16.out (Ext.trans NJ1.out (Ext.trans Ew23.out Ew24.out)))).1.1 (by simp)
  have fk1 := fun z : ExtX w24 [] => z.cell (p := ⟨w14.heap.size, 1, none⟩) (Kk.out.ext (Ext.trans Ew16.out (Ext.trans NJ1.out (Ext.trans Ew23.out Ew24.out)))).1.2.1 (by simp)
  have fk2 := fun z : ExtX w24 [] => z.cell (p := ⟨w14.heap.size, 2, none⟩) (Kk.out.ext (Ext.trans Ew16.out (Ext.trans NJ1.out (Ext.trans Ew23.out Ew24.out)))).1.2.2.1 (by simp)
  have fk3 := fun z : ExtX w24 [] => z.cell (p := ⟨w14.heap.size, 3, none⟩) (Kk.out.ext (Ext.trans Ew16.out (Ext.trans NJ1.out (Ext.trans Ew23.out Ew24.out)))).1.2.2.2 (by simp)
  have fu6 := fun z : ExtX w24 [] => z.cell (p := ⟨w.heap.size, 6, none⟩) (Ku.out.ext (Ext.trans Ew2.out (Ext.trans Ew3.out (Ext.trans Ew4.out (Ext.trans Ew5.out (Ext.trans Ew6.out (Ext.trans Ew7.out (Ext.trans Ew8.out (Ext.trans Ew9.out (Ext.trans Ew10.out (Ext.trans Ew11.out (Ext.trans Ew12.out (Ext.trans Ew13.out (Ext.trans Ew14.out (Ext.trans Ew15.out (Ext.trans Ew16.out (Ext.trans NJ1.out (Ext.trans Ew23.out Ew24.out)))))))))))))))))).2.2.2.2.2.2.1 (by simp)
  intro w25 hE
  have Ew25 := Lib.hid hE
  clear hE
  repeat (refine havAt_still (by rfl) (by rfl) ?_; go_big_quiet_step (fail); refine wpQuiet_nil ?_)
  refine havAt_move (by rfl) (by rfl) (by kernel_rfl) ?_
  go_wp2_with fail
  refine (qmul_any s1 A1 n1 c1 t1 B1 m1 d1 _ s2 A2 n2 c2 t2 B2 m2 d2 _ w25 ⟨(H1.out.ext (Ext.trans Ew1.out (Ext.trans Ew2.out (Ext.trans Ew3.out (Ext.trans Ew4.out (Ext.trans Ew5.out (Ext.trans Ew6.out (Ext.trans Ew7.out (Ext.trans Ew8.out (Ext.trans Ew9.out (Ext.trans Ew10.out (Ext.trans Ew11.out (Ext.trans Ew12.out (Ext.trans Ew13.out (Ext.trans Ew14.out (Ext.trans Ew15.out (Ext.trans Ew16.out (Ext.trans NJ1.out (Ext.trans Ew23.out (Ext.trans Ew24.out Ew25.out)))))))))))))))))))), by omega, by omega⟩ ⟨(H2.out.ext (Ext.trans Ew1.out (Ext.trans Ew2.out (Ext.trans Ew3.out (Ext.trans Ew4.out (Ext.trans Ew5.out (Ext.trans Ew6.out (Ext.trans Ew7.out (Ext.trans Ew8.out (Ext.trans Ew9.out (Ext.trans Ew10.out (Ext.trans Ew11.out (Ext.trans Ew12.out (Ext.trans Ew13.out (Ext.trans Ew14.out (Ext.trans Ew15.out (Ext.trans Ew16.out (Ext.trans NJ1.out (Ext.trans Ew23.out (Ext.trans Ew24.out Ew25.out)))))))))))))))))))), by omega, by omega⟩).mono ?_
  rintro e w26 ⟨sa, Aa, na, ca, ta, Ba, ma, da, rfl, hQ, hE⟩
  have Ew26 := Lib.hid hE
  clear hE
  have Qa := Lib.hid hQ
  clear hQ
  go_wp2_with fail
  refine And.intro Ew26.out (fun w27 hE => ?_)
  have Ew27 := Lib.hid hE
  clear hE
  repeat (refine havAt_still (by rfl) (by rfl) ?_; go_big_quiet_step (fail); refine wpQuiet_nil ?_)
  refine havAt_move (by rfl) (by rfl) (by kernel_rfl) ?_
  go_wp2_with fail
  refine (qsub_any sa Aa na ca ta Ba ma da _ sk Ak nk ck tk Bk mk dk _ w27 ((Qa.out.ext Ew27.out).arg (HZ1.out.mul HZ2.out) (by omega)) ((Qk.out.ext (Ext.trans Ew15.out (Ext.trans Ew16.out (Ext.trans NJ1.out (Ext.trans Ew23.out (Ext.trans Ew24.out (Ext.trans Ew25.out (Ext.trans Ew26.out Ew27.out)))))))).arg (sz_costV (HZ2.out.mono (by omega))) (by omega))).mono ?_
  rintro e w28 ⟨sb, Ab, nb, cb, tb, Bb, mb, db, rfl, hQ, hE⟩
  have Ew28 := Lib.hid hE
  clear hE
  have Qb := Lib.hid hQ
  clear hQ
  go_wp2_with fail
  refine And.intro Ew28.out (fun w29 hE => ?_)
  have Ew29 := Lib.hid hE
  clear hE
  repeat (refine havAt_still (by rfl) (by rfl) ?_; go_big_quiet_step (fail); refine wpQuiet_nil ?_)
  refine havAt_move (by rfl) (by rfl) (by kernel_rfl) ?_
  go_wp2_with fail
  refine (qfrom_any u.idle w29 ⟨by omega, by omega⟩).mono ?_
  rintro e w30 ⟨se, Ae, ne, ce, te, Be, me, de, rfl, hQ, hE⟩
  have Ew30 := Lib.hid hE
  clear hE
  have Qe := Lib.hid hQ
  clear hQ
  go_wp2_with fail
  refine And.intro Ew30.out (fun w31 hE => ?_)
  have Ew31 := Lib.hid hE
  clear hE
  repeat (refine havAt_still (by rfl) (by rfl) ?_; go_big_quiet_step (fail); refine wpQuiet_nil ?_)
  refine havAt_move (by rfl) (by rfl) (by kernel_rfl) ?_
  go_wp2_with fail
  refine (qsub_any sb Ab nb cb tb Bb mb db _ se Ae ne ce te Be me de _ w31 ((Qb.out.ext (Ext.trans Ew29.out (Ext.trans Ew30.out Ew31.out))).arg ((HZ1.out.mul HZ2.out).sub (sz_costV (HZ2.out.mono (by omega)))) (by omega)) ((Qe.out.ext Ew31.out).arg (sz_small (z := u.idle) (by omega) (by omega)) (by omega))).mono ?_
  rintro e w32 ⟨sf, Af, nf, cf, tf, Bf, mf, df, rfl, hQ, hE⟩
  have Ew32 := Lib.hid hE
  clear hE
  have Qf := Lib.hid hQ
  clear hQ
  go_wp2_with fail
  refine And.intro Ew32.out (fun w33 hE => ?_)
  have Ew33 := Lib.hid hE
  clear hE
  repeat (refine havAt_still (by rfl) (by rfl) ?_; go_big_quiet_step (fail); refine wpQuiet_nil ?_)
  refine havAt_end ?_
  intro gs hgs hne
  have hpf := hgs 9 (by simp)
  change IdxAt _ _ _ _ _ _ (Act.put _ (some 14) (.pointer (some ⟨gs 9, 0, none⟩))) _
  generalize gs 9 = gf at *
  clear hgs hne
  simp only [Act.put, List.setIfInBounds_toArray, List.set_cons_succ, List.set_cons_zero]
  have Pf := Lib.hid hpf
  have Kf := Lib.hid (Cell4.of_blk hpf.2.1)
  clear hpf
  repeat (refine idxAt_still (by rfl) (by rfl) ?_; go_big_quiet_step (fail); refine wpQuiet_nil ?_)
  obtain ⟨⟨o0, o1, o2, o3⟩, ⟨q0, q1, q2, q3⟩, ol⟩ := Kf.out
  refine idxAt_move (by rfl) (by rfl) (by kernel_rfl) ?_
  go_wp2_with fail
  refine And.intro (inX_put (p := ⟨gf, 3, none⟩) (inX_put (p := ⟨gf, 2, none⟩) (inX_put (p := ⟨gf, 1, none⟩) (inX_put (p := ⟨gf, 0, none⟩) (inX_of_ext _ (Ext.trans Ew25.out (Ext.trans Ew26.out (Ext.trans Ew27.out (Ext.trans Ew28.out (Ext.trans Ew29.out (Ext.trans Ew30.out (Ext.trans Ew31.out (Ext.trans Ew32.out Ew33.out))))))))) (.inr Pf.out.1) _) (.inr Pf.out.1) _) (.inr Pf.out.1) _) (.inr Pf.out.1) _) ?_
  clear o0 o1 o2 o3 q0 q1 q2 q3 ol
  have Kf_2 := Lib.hid (Kf.out.put4 (.bool sf) (.slice Af nf cf) (.bool tf) (.slice Bf mf df))
  have NJ2 := Lib.hid (ext_put4 (Ext.trans Ew25.out (Ext.trans Ew26.out (Ext.trans Ew27.out (Ext.trans Ew28.out (Ext.trans Ew29.out (Ext.trans Ew30.out (Ext.trans Ew31.out (Ext.trans Ew32.out Ew33.out)))))))) (g := gf) Pf.out.1 0 (.bool sf) (.slice Af nf cf) (.bool tf) (.slice Bf mf df))
  have NZ2 : Hid (w33.heap.size ≤ (put4 w33 (gf) 0 (.bool sf) (.slice Af nf cf) (.bool tf) (.slice Bf mf df)).heap.size) := by unfold Hid; rw [put4_size]; exact Nat.le_refl _
  have Qf_2 := Lib.hid ((Qf.out.ext Ew33.out).put4A (g := gf) (Qf.out.span (Pf.out.2.2 (w31.heap.size, w32.heap.size) (by simp))) 0 (.bool sf) (.slice Af nf cf) (.bool tf) (.slice Bf mf df))
  unfold put4 at Kf_2 NJ2 NZ2 Qf_2
  simp only [Nat.zero_add] at Kf_2 NJ2 NZ2 Qf_2
  generalize ((((w33.setCell ⟨gf, 0, none⟩ (.bool sf)).setCell ⟨gf, 1, none⟩ (.slice Af nf cf)).setCell ⟨gf, 2, none⟩ (.bool tf)).setCell ⟨gf, 3, none⟩ (.slice Bf mf df)) = w34 at *
  repeat (refine idxAt_still (by rfl) (by rfl) ?_; go_big_quiet_step (fail); refine wpQuiet_nil ?_)
  refine idxAt_nil ?_
  clear f10 f11 f12 f13 f20 f21 f22 f23 fk0 fk1 fk2 fk3 fu6
  go_wp2_with fail
  refine wp_region_havS [10] [0, 1, 2, 3, 4, 5, 6, 7, 8, 9] [11] (fun _ => .cells #[.bool false, .slice none 0 0, .bool false, .slice none 0 0] 34) (by kernel_rfl) (by kernel_rfl) ?_ ?_
  · intro f hf
    simp only [List.mem_cons, List.not_mem_nil, or_false] at hf
    rcases hf with rfl
    all_goals exact makes_q (by rfl) rfl
  have hE : Ext w34 w34.drew := Ext.rfl'.drew
  generalize w34.drew = w35 at *
  have Ew35 := Lib.hid hE
  clear hE
  have f10 := fun z : ExtX w35 [] => z.cell (p := ⟨w.heap.size + 1, 0, none⟩) (K1.out.ext (Ext.trans Ew2.out (Ext.trans Ew3.out (Ext.trans Ew4.out (Ext.trans Ew5.out (Ext.trans Ew6.out (Ext.trans Ew7.out (Ext.trans Ew8.out (Ext.trans Ew9.out (Ext.trans Ew10.out (Ext.trans Ew11.out (Ext.trans Ew12.out (Ext.trans Ew13.out (Ext.trans Ew14.out (Ext.trans Ew15.out (Ext.trans Ew16.out (Ext.trans NJ1.out (Ext.trans Ew23.out (Ext.trans Ew24.out (Ext.trans NJ2.out Ew35.out)))))))))))))))))))).1.1 (by simp)
  have f11 := fun z : ExtX w35 [] => z.cell (p := ⟨w.heap.size + 1, 1, none⟩) (K1.out.ext (Ext.trans Ew2.out (Ext.trans Ew3.out (Ext.trans Ew4.out (Ext.trans Ew5.out (Ext.trans Ew6.out (Ext.trans Ew7.out (Ext.trans Ew8.out (Ext.trans Ew9.out (Ext.trans Ew10.out (Ext.trans Ew11.out (Ext.trans Ew12.out (Ext.trans Ew13.out (Ext.trans Ew14.out (Ext.trans Ew15.out (Ext.trans Ew16.out (Ext.trans NJ1.out (Ext.trans Ew23.out (Ext.trans Ew24.out (Ext.trans NJ2.out Ew35.out)))))))))))))))))))).1.2.1 (by simp)
  have f12 := fun z : ExtX w35 [] => z.cell (p := ⟨w.heap.size + 1, 2, none⟩) (K1.out.ext (Ext.trans Ew2.out (Ext.trans Ew3.out (Ext.trans Ew4.out (Ext.trans Ew5.out (Ext.trans Ew6.out (Ext.trans Ew7.out (Ext.trans Ew8.out (Ext.trans Ew9.out (Ext.trans Ew10.out (Ext.trans Ew11.out (Ext.trans Ew12.out (Ext.trans Ew13.out (Ext.trans Ew14.out (Ext.trans Ew15.out (Ext.trans Ew16.out (Ext.trans NJ1.out (Ext.trans Ew23.out (Ext.trans Ew24.out (Ext.trans NJ2.out Ew35.out)))))))))))))))))))).1.2.2.1 (by simp)
  have f13 := fun z : ExtX w35 [] => z.cell (p := ⟨w.heap.size + 1, 3, none⟩) (K1.out.ext (Ext.trans Ew2.out (Ext.trans Ew3.out (Ext.trans Ew4.out (Ext.trans Ew5.out (Ext.trans Ew6.out (Ext.trans Ew7.out (Ext.trans Ew8.out (Ext.trans Ew9.out (Ext.trans Ew10.out (Ext.trans Ew11.out (Ext.trans Ew12.out (Ext.trans Ew13.out (Ext.trans Ew14.out (Ext.trans Ew15.out (Ext.trans Ew16.out (Ext.trans NJ1.out (Ext.trans Ew23.out (Ext.trans Ew24.out (Ext.trans NJ2.out Ew35.out)))))))))))))))))))).1.2.2.2 (by simp)
  have fl0 := fun z : ExtX w35 [] => z.cell (p := ⟨gl, 0, none⟩) (Kl_1.out.ext (Ext.trans Ew23.out (Ext.trans Ew24.out (Ext.trans NJ2.out Ew35.out)))).1.1 (by simp)
  have fl1 := fun z : ExtX w35 [] => z.cell (p := ⟨gl, 1, none⟩) (Kl_1.out.ext (Ext.trans Ew23.out (Ext.trans Ew24.out (Ext.trans NJ2.out Ew35.out)))).1.2.1 (by simp)
  have fl2 := fun z : ExtX w35 [] => z.cell (p := ⟨gl, 2, none⟩) (Kl_1.out.ext (Ext.trans Ew23.out (Ext.trans Ew24.out (Ext.trans NJ2.out Ew35.out)))).1.2.2.1 (by simp)
  have fl3 := fun z : ExtX w35 [] => z.cell (p := ⟨gl, 3, none⟩) (Kl_1.out.ext (Ext.trans Ew23.out (Ext.trans Ew24.out (Ext.trans NJ2.out Ew35.out)))).1.2.2.2 (by simp)
  have fu6 := fun z : ExtX w35 [] => z.cell (p := ⟨w.heap.size, 6, none⟩) (Ku.out.ext (Ext.trans Ew2.out (Ext.trans Ew3.out (Ext.trans Ew4.out (Ext.trans Ew5.out (Ext.trans Ew6.out (Ext.trans Ew7.out (Ext.trans Ew8.out (Ext.trans Ew9.out (Ext.trans Ew10.out (Ext.trans Ew11.out (Ext.trans Ew12.out (Ext.trans Ew13.out (Ext.trans Ew14.out (Ext.trans Ew15.out (Ext.trans Ew16.out (Ext.trans NJ1.out (Ext.trans Ew23.out (Ext.trans Ew24.out (Ext.trans NJ2.out Ew35.out)))))))))))))))))))).2.2.2.2.2.2.1 (by simp)
  intro w36 hE
  have Ew36 := Lib.hid hE
  clear hE
  repeat (refine havAt_still (by rfl) (by rfl) ?_; go_big_quiet_step (fail); refine wpQuiet_nil ?_)
  refine havAt_move (by rfl) (by rfl) (by kernel_rfl) ?_
  go_wp2_with fail
  refine (qfrom_any nq w36 ⟨by omega, by omega⟩).mono ?_
  rintro e w37 ⟨sa2, Aa2, na2, ca2, ta2, Ba2, ma2, da2, rfl, hQ, hE⟩
  have Ew37 := Lib.hid hE
  clear hE
  have Qa2 := Lib.hid hQ
  clear hQ
  go_wp2_with fail
  refine And.intro Ew37.out (fun w38 hE => ?_)
  have Ew38 := Lib.hid hE
  clear hE
  repeat (refine havAt_still (by rfl) (by rfl) ?_; go_big_quiet_step (fail); refine wpQuiet_nil ?_)
  refine havAt_move (by rfl) (by rfl) (by kernel_rfl) ?_
  go_wp2_with fail
  refine (qmul_any s1 A1 n1 c1 t1 B1 m1 d1 _ sa2 Aa2 na2 ca2 ta2 Ba2 ma2 da2 _ w38 ⟨(H1.out.ext (Ext.trans Ew1.out (Ext.trans Ew2.out (Ext.trans Ew3.out (Ext.trans Ew4.out (Ext.trans Ew5.out (Ext.trans Ew6.out (Ext.trans Ew7.out (Ext.trans Ew8.out (Ext.trans Ew9.out (Ext.trans Ew10.out (Ext.trans Ew11.out (Ext.trans Ew12.out (Ext.trans Ew13.out (Ext.trans Ew14.out (Ext.trans Ew15.out (Ext.trans Ew16.out (Ext.trans NJ1.out (Ext.trans Ew23.out (Ext.trans Ew24.out (Ext.trans NJ2.out (Ext.trans Ew35.out (Ext.trans Ew36.out (Ext.trans Ew37.out Ew38.out)))))))))))))))))))))))), by omega, by omega⟩ ((Qa2.out.ext Ew38.out).arg (sz_small (z := nq) (by omega) (by omega)) (by omega))).mono ?_
  rintro e w39 ⟨sb2, Ab2, nb2, cb2, tb2, Bb2, mb2, db2, rfl, hQ, hE⟩
  have Ew39 := Lib.hid hE
  clear hE
  have Qb2 := Lib.hid hQ
  clear hQ
  go_wp2_with fail
  refine And.intro Ew39.out (fun w40 hE => ?_)
  have Ew40 := Lib.hid hE
  clear hE
  repeat (refine havAt_still (by rfl) (by rfl) ?_; go_big_quiet_step (fail); refine wpQuiet_nil ?_)
  refine havAt_move (by rfl) (by rfl) (by kernel_rfl) ?_
  go_wp2_with fail
  refine (qsub_any sb2 Ab2 nb2 cb2 tb2 Bb2 mb2 db2 _ sl Al nl cl tl Bl ml dl _ w40 ((Qb2.out.ext Ew40.out).arg (HZ1.out.mul (sz_small (z := nq) (by omega) (by omega))) (by omega)) ((Ql_1.out.ext (Ext.trans Ew23.out (Ext.trans Ew24.out (Ext.trans NJ2.out (Ext.trans Ew35.out (Ext.trans Ew36.out (Ext.trans Ew37.out (Ext.trans Ew38.out (Ext.trans Ew39.out Ew40.out))))))))).arg (sz_costV ((sz_small (z := nq) (by omega) (by omega)).mono (by omega))) (by omega))).mono ?_
  rintro e w41 ⟨sc2, Ac2, nc2, cc2, tc2, Bc2, mc2, dc2, rfl, hQ, hE⟩
  have Ew41 := Lib.hid hE
  clear hE
  have Qc2 := Lib.hid hQ
  clear hQ
  go_wp2_with fail
  refine And.intro Ew41.out (fun w42 hE => ?_)
  have Ew42 := Lib.hid hE
  clear hE
  repeat (refine havAt_still (by rfl) (by rfl) ?_; go_big_quiet_step (fail); refine wpQuiet_nil ?_)
  refine havAt_move (by rfl) (by rfl) (by kernel_rfl) ?_
  go_wp2_with fail
  refine (qfrom_any u.idle w42 ⟨by omega, by omega⟩).mono ?_
  rintro e w43 ⟨se2, Ae2, ne2, ce2, te2, Be2, me2, de2, rfl, hQ, hE⟩
  have Ew43 := Lib.hid hE
  clear hE
  have Qe2 := Lib.hid hQ
  clear hQ
  go_wp2_with fail
  refine And.intro Ew43.out (fun w44 hE => ?_)
  have Ew44 := Lib.hid hE
  clear hE
  repeat (refine havAt_still (by rfl) (by rfl) ?_; go_big_quiet_step (fail); refine wpQuiet_nil ?_)
  refine havAt_move (by rfl) (by rfl) (by kernel_rfl) ?_
  go_wp2_with fail
  refine (qsub_any sc2 Ac2 nc2 cc2 tc2 Bc2 mc2 dc2 _ se2 Ae2 ne2 ce2 te2 Be2 me2 de2 _ w44 ((Qc2.out.ext (Ext.trans Ew42.out (Ext.trans Ew43.out Ew44.out))).arg ((HZ1.out.mul (sz_small (z := nq) (by omega) (by omega))).sub (sz_costV ((sz_small (z := nq) (by omega) (by omega)).mono (by omega)))) (by omega)) ((Qe2.out.ext Ew44.out).arg (sz_small (z := u.idle) (by omega) (by omega)) (by omega))).mono ?_
  rintro e w45 ⟨sg, Ag, ng, cg, tg, Bg, mg, dg, rfl, hQ, hE⟩
  have Ew45 := Lib.hid hE
  clear hE
  have Qg := Lib.hid hQ
  clear hQ
  go_wp2_with fail
  refine And.intro Ew45.out (fun w46 hE => ?_)
  have Ew46 := Lib.hid hE
  clear hE
  repeat (refine havAt_still (by rfl) (by rfl) ?_; go_big_quiet_step (fail); refine wpQuiet_nil ?_)
  refine havAt_end ?_
  intro gs hgs hne
  have hpg := hgs 10 (by simp)
  change IdxAt _ _ _ _ _ _ (Act.put _ (some 15) (.pointer (some ⟨gs 10, 0, none⟩))) _
  generalize gs 10 = gg at *
  clear hgs hne
  simp only [Act.put, List.setIfInBounds_toArray, List.set_cons_succ, List.set_cons_zero]
  have Pg := Lib.hid hpg
  have Kg := Lib.hid (Cell4.of_blk hpg.2.1)
  clear hpg
  repeat (refine idxAt_still (by rfl) (by rfl) ?_; go_big_quiet_step (fail); refine wpQuiet_nil ?_)
  obtain ⟨⟨o0, o1, o2, o3⟩, ⟨q0, q1, q2, q3⟩, ol⟩ := Kg.out
  refine idxAt_move (by rfl) (by rfl) (by kernel_rfl) ?_
  go_wp2_with fail
  refine And.intro (inX_put (p := ⟨gg, 3, none⟩) (inX_put (p := ⟨gg, 2, none⟩) (inX_put (p := ⟨gg, 1, none⟩) (inX_put (p := ⟨gg, 0, none⟩) (inX_of_ext _ (Ext.trans Ew36.out (Ext.trans Ew37.out (Ext.trans Ew38.out (Ext.trans Ew39.out (Ext.trans Ew40.out (Ext.trans Ew41.out (Ext.trans Ew42.out (Ext.trans Ew43.out (Ext.trans Ew44.out (Ext.trans Ew45.out Ew46.out))))))))))) (.inr Pg.out.1) _) (.inr Pg.out.1) _) (.inr Pg.out.1) _) (.inr Pg.out.1) _) ?_
  clear o0 o1 o2 o3 q0 q1 q2 q3 ol
  have Kg_3 := Lib.hid (Kg.out.put4 (.bool sg) (.slice Ag ng cg) (.bool tg) (.slice Bg mg dg))
  have NJ3 := Lib.hid (ext_put4 (Ext.trans Ew36.out (Ext.trans Ew37.out (Ext.trans Ew38.out (Ext.trans Ew39.out (Ext.trans Ew40.out (Ext.trans Ew41.out (Ext.trans Ew42.out (Ext.trans Ew43.out (Ext.trans Ew44.out (Ext.trans Ew45.out Ew46.out)))))))))) (g := gg) Pg.out.1 0 (.bool sg) (.slice Ag ng cg) (.bool tg) (.slice Bg mg dg))
  have NZ3 : Hid (w46.heap.size ≤ (put4 w46 (gg) 0 (.bool sg) (.slice Ag ng cg) (.bool tg) (.slice Bg mg dg)).heap.size) := by unfold Hid; rw [put4_size]; exact Nat.le_refl _
  have Qg_3 := Lib.hid ((Qg.out.ext Ew46.out).put4A (g := gg) (Qg.out.span (Pg.out.2.2 (w44.heap.size, w45.heap.size) (by simp))) 0 (.bool sg) (.slice Ag ng cg) (.bool tg) (.slice Bg mg dg))
  unfold put4 at Kg_3 NJ3 NZ3 Qg_3
  simp only [Nat.zero_add] at Kg_3 NJ3 NZ3 Qg_3
  generalize ((((w46.setCell ⟨gg, 0, none⟩ (.bool sg)).setCell ⟨gg, 1, none⟩ (.slice Ag ng cg)).setCell ⟨gg, 2, none⟩ (.bool tg)).setCell ⟨gg, 3, none⟩ (.slice Bg mg dg)) = w47 at *
  repeat (refine idxAt_still (by rfl) (by rfl) ?_; go_big_quiet_step (fail); refine wpQuiet_nil ?_)
  refine idxAt_nil ?_
  clear f10 f11 f12 f13 fl0 fl1 fl2 fl3 fu6
  obtain ⟨⟨xf0, xf1, xf2, xf3⟩, -, zf⟩ := (Kf_2.out.ext (Ext.trans Ew35.out NJ3.out))
  obtain ⟨⟨xx0, xx1, xx2, xx3⟩, -, zx⟩ := (Kx.out.ext (Ext.trans Ew14.out (Ext.trans Ew15.out (Ext.trans Ew16.out (Ext.trans NJ1.out (Ext.trans Ew23.out (Ext.trans Ew24.out (Ext.trans NJ2.out (Ext.trans Ew35.out NJ3.out)))))))))
  go_wp2_with fail
  clear xf0 xf1 xf2 xf3 zf xx0 xx1 xx2 xx3 zx
  refine (qcmp_any sf Af nf cf tf Bf mf df _ sx Ax nx cx tx Bx mx dx _ w47 ((Qf_2.out.ext (Ext.trans Ew35.out NJ3.out)).arg (((HZ1.out.mul HZ2.out).sub (sz_costV (HZ2.out.mono (by omega)))).sub (sz_small (z := u.idle) (by omega) (by omega))) (by omega)) ((Qx.out.ext (Ext.trans Ew13.out (Ext.trans Ew14.out (Ext.trans Ew15.out (Ext.trans Ew16.out (Ext.trans NJ1.out (Ext.trans Ew23.out (Ext.trans Ew24.out (Ext.trans NJ2.out (Ext.trans Ew35.out NJ3.out)))))))))).arg HZp.out (by omega))).mono ?_
  rintro e w48 ⟨rfl, hE⟩
  have Ew48 := Lib.hid hE
  clear hE
  obtain ⟨kk, hkk⟩ : ∃ x, cmpQ ((((p * q) - (costV u.steps q)) - ((u.idle : Int) : Rat))) (u.hp p) = x := ⟨_, rfl⟩
  rw [hkk]
  have Hkk := Lib.hid hkk
  clear hkk
  have hb5 : decide (kk ≤ 0) = true := by
    have : ¬ 0 < kk := by rw [← Hkk.out]; exact fun e => Rat.not_lt.2 HOPT.out.1 ((cmpQ_pos _ _).1 e)
    simp; omega
  go_wp2_with fail
  by_cases hkk : (((p * q) - (costV u.steps q)) - ((u.idle : Int) : Rat)) < u.hp p
  · have hb6 : decide (kk < 0) = true := by
      have : kk < 0 := by rw [← Hkk.out]; exact (cmpQ_neg _ _).2 hkk
      simp; omega
    clear hkk
    have hE : Ext w48 w48.drew := Ext.rfl'.drew
    refine wp_region_free (fun i => (([(.is (.agg #[.bool sg, .slice Ag ng cg, .bool tg, .slice Bg mg dg])), (.is (.agg #[.bool sx, .slice Ax nx cx, .bool tx, .slice Bx mx dx])), (.is (.bool true)), (.is (.bool true)), (.is (.int .i64 kk)), (.is (.bool true)), (.is (.bool true)), (.is (.bool true)), (.is (.int .i64 kk)), (.is (.bool true)), (.is (.bool true)), (.is undef), (.is undef), (.is undef), (.is undef), (.is undef), (.is (.bool true)), (.is (.bool true)), (.is (.bool true))] : List VK).getD i .any).holds) (by kernel_rfl) (by kernel_rfl) (fun _ _ _ _ h hE => VK.mono h hE) ?_ ?_
    all_goals generalize w48.drew = w49 at *
    all_goals have Ew49 := Lib.hid hE
    all_goals clear hE
    · intro i hi
      match i, hi with
      | 0, _ =>
        refine ⟨fun o ho x wx hE hF hd => ?_⟩
        obtain rfl := Option.some.inj ho
        clear ho
        have ef15 : x 15 = (.pointer (some ⟨gg, 0, none⟩)) := hF 15 (by decide +kernel)
        clear hd hF
        have HX := Lib.hid hE
        clear hE
        rw [show actOf _ x = (⟨#[x 0, x 1, x 2, x 3, x 4, x 5, x 6, x 7, x 8, x 9, x 10, x 11, x 12, x 13, x 14, x 15, x 16, x 17, x 18, x 19, x 20, x 21, x 22, x 23, x 24, x 25, x 26, x 27, x 28, x 29, x 30, x 31, x 32, x 33, x 34, x 35, x 36, x 37, x 38, x 39, x 40, x 41, x 42, x 43, x 44, x 45, x 46, x 47, x 48, x 49, x 50, x 51, x 52, x 53, x 54, x 55, x 56, x 57, x 58, x 59, x 60, x 61, x 62, x 63, x 64, x 65, x 66, x 67, x 68, x 69, x 70, x 71, x 72, x 73, x 74, x 75, x 76, x 77, x 78, x 79, x 80, x 81, x 82, x 83, x 84, x 85, x 86, x 87, x 88, x 89, x 90, x 91, x 92, x 93, x 94, x 95, x 96, x 97, x 98, x 99, x 100, x 101, x 102, x 103, x 104, x 105, x 106, x 107, x 108, x 109, x 110, x 111, x 112, x 113, x 114, x 115, x 116, x 117, x 118, x 119, x 120, x 121, x 122, x 123, x 124, x 125, x 126, x 127, x 128, x 129, x 130, x 131], []⟩ : Act) from rfl]
        rw [ef15]
        clear ef15
        obtain ⟨⟨xg0, xg1, xg2, xg3⟩, -, zg⟩ := (Kg_3.out.ext (Ext.trans Ew48.out (Ext.trans Ew49.out HX.out)))
        go_wp2_with fail
        exact ⟨(.agg #[.bool sg, .slice Ag ng cg, .bool tg, .slice Bg mg dg]), rfl, Ext.rfl', rfl⟩
      | 1, _ =>
        refine ⟨fun o ho x wx hE hF hd => ?_⟩
        obtain rfl := Option.some.inj ho
        clear ho
        have ef8 : x 8 = (.pointer (some ⟨w12.heap.size, 0, none⟩)) := hF 8 (by decide +kernel)
        clear hd hF
        have HX := Lib.hid hE
        clear hE
        rw [show actOf _ x = (⟨#[x 0, x 1, x 2, x 3, x 4, x 5, x 6, x 7, x 8, x 9, x 10, x 11, x 12, x 13, x 14, x 15, x 16, x 17, x 18, x 19, x 20, x 21, x 22, x 23, x 24, x 25, x 26, x 27, x 28, x 29, x 30, x 31, x 32, x 33, x 34, x 35, x 36, x 37, x 38, x 39, x 40, x 41, x 42, x 43, x 44, x 45, x 46, x 47, x 48, x 49, x 50, x 51, x 52, x 53, x 54, x 55, x 56, x 57, x 58, x 59, x 60, x 61, x 62, x 63, x 64, x 65, x 66, x 67, x 68, x 69, x 70, x 71, x 72, x 73, x 74, x 75, x 76, x 77, x 78, x 79, x 80, x 81, x 82, x 83, x 84, x 85, x 86, x 87, x 88, x 89, x 90, x 91, x 92, x 93, x 94, x 95, x 96, x 97, x 98, x 99, x 100, x 101, x 102, x 103, x 104, x 105, x 106, x 107, x 108, x 109, x 110, x 111, x 112, x 113, x 114, x 115, x 116, x 117, x 118, x 119, x 120, x 121, x 122, x 123, x 124, x 125, x 126, x 127, x 128, x 129, x 130, x 131], []⟩ : Act) from rfl]
        rw [ef8]
        clear ef8
        obtain ⟨⟨xx0, xx1, xx2, xx3⟩, -, zx⟩ := (Kx.out.ext (Ext.trans Ew14.out (Ext.trans Ew15.out (Ext.trans Ew16.out (Ext.trans NJ1.out (Ext.trans Ew23.out (Ext.trans Ew24.out (Ext.trans NJ2.out (Ext.trans Ew35.out (Ext.trans NJ3.out (Ext.trans Ew48.out (Ext.trans Ew49.out HX.out))))))))))))
        go_wp2_with fail
        exact ⟨(.agg #[.bool sx, .slice Ax nx cx, .bool tx, .slice Bx mx dx]), rfl, Ext.rfl', rfl⟩
      | 2, _ =>
        refine ⟨fun o ho x wx hE hF hd => ?_⟩
        obtain rfl := Option.some.inj ho
        clear ho
        have ed114 : x 114 = (.agg #[.bool sg, .slice Ag ng cg, .bool tg, .slice Bg mg dg]) := hd 0 (by decide +kernel) _ _ rfl rfl
        have ed115 : x 115 = (.agg #[.bool sx, .slice Ax nx cx, .bool tx, .slice Bx mx dx]) := hd 1 (by decide +kernel) _ _ rfl rfl
        clear hd hF
        have HX := Lib.hid hE
        clear hE
        rw [show actOf _ x = (⟨#[x 0, x 1, x 2, x 3, x 4, x 5, x 6, x 7, x 8, x 9, x 10, x 11, x 12, x 13, x 14, x 15, x 16, x 17, x 18, x 19, x 20, x 21, x 22, x 23, x 24, x 25, x 26, x 27, x 28, x 29, x 30, x 31, x 32, x 33, x 34, x 35, x 36, x 37, x 38, x 39, x 40, x 41, x 42, x 43, x 44, x 45, x 46, x 47, x 48, x 49, x 50, x 51, x 52, x 53, x 54, x 55, x 56, x 57, x 58, x 59, x 60, x 61, x 62, x 63, x 64, x 65, x 66, x 67, x 68, x 69, x 70, x 71, x 72, x 73, x 74, x 75, x 76, x 77, x 78, x 79, x 80, x 81, x 82, x 83, x 84, x 85, x 86, x 87, x 88, x 89, x 90, x 91, x 92, x 93, x 94, x 95, x 96, x 97, x 98, x 99, x 100, x 101, x 102, x 103, x 104, x 105, x 106, x 107, x 108, x 109, x 110, x 111, x 112, x 113, x 114, x 115, x 116, x 117, x 118, x 119, x 120, x 121, x 122, x 123, x 124, x 125, x 126, x 127, x 128, x 129, x 130, x 131], []⟩ : Act) from rfl]
        rw [ed114, ed115]
        clear ed114 ed115
        go_wp2_with fail
        refine (qequal_any sg Ag ng cg tg Bg mg dg _ sx Ax nx cx tx Bx mx dx _ wx ((Qg_3.out.ext (Ext.trans Ew48.out (Ext.trans Ew49.out HX.out))).arg (((HZ1.out.mul (sz_small (z := nq) (by omega) (by omega))).sub (sz_costV ((sz_small (z := nq) (by omega) (by omega)).mono (by omega)))).sub (sz_small (z := u.idle) (by omega) (by omega))) (by omega)) ((Qx.out.ext (Ext.trans Ew13.out (Ext.trans Ew14.out (Ext.trans Ew15.out (Ext.trans Ew16.out (Ext.trans NJ1.out (Ext.trans Ew23.out (Ext.trans Ew24.out (Ext.trans NJ2.out (Ext.trans Ew35.out (Ext.trans NJ3.out (Ext.trans Ew48.out (Ext.trans Ew49.out HX.out))))))))))))).arg HZp.out (by omega))).mono ?_
        rintro e wy ⟨rfl, hE⟩
        rw [decide_eq_true HSM.out]
        go_wp2_with fail
        exact ⟨.bool true, rfl, hE, rfl⟩
      | 3, _ =>
        refine ⟨fun o ho x wx hE hF hd => ?_⟩
        obtain rfl := Option.some.inj ho
        clear ho
        have ed116 : x 116 = (.bool true) := hd 2 (by decide +kernel) _ _ rfl rfl
        clear hd hF
        have HX := Lib.hid hE
        clear hE
        rw [show actOf _ x = (⟨#[x 0, x 1, x 2, x 3, x 4, x 5, x 6, x 7, x 8, x 9, x 10, x 11, x 12, x 13, x 14, x 15, x 16, x 17, x 18, x 19, x 20, x 21, x 22, x 23, x 24, x 25, x 26, x 27, x 28, x 29, x 30, x 31, x 32, x 33, x 34, x 35, x 36, x 37, x 38, x 39, x 40, x 41, x 42, x 43, x 44, x 45, x 46, x 47, x 48, x 49, x 50, x 51, x 52, x 53, x 54, x 55, x 56, x 57, x 58, x 59, x 60, x 61, x 62, x 63, x 64, x 65, x 66, x 67, x 68, x 69, x 70, x 71, x 72, x 73, x 74, x 75, x 76, x 77, x 78, x 79, x 80, x 81, x 82, x 83, x 84, x 85, x 86, x 87, x 88, x 89, x 90, x 91, x 92, x 93, x 94, x 95, x 96, x 97, x 98, x 99, x 100, x 101, x 102, x 103, x 104, x 105, x 106, x 107, x 108, x 109, x 110, x 111, x 112, x 113, x 114, x 115, x 116, x 117, x 118, x 119, x 120, x 121, x 122, x 123, x 124, x 125, x 126, x 127, x 128, x 129, x 130, x 131], []⟩ : Act) from rfl]
        rw [ed116]
        clear ed116
        go_wp2_with fail
        exact ⟨.bool true, rfl, Ext.rfl', rfl⟩
      | 4, _ =>
        refine ⟨fun o ho x wx hE hF hd => ?_⟩
        obtain rfl := Option.some.inj ho
        clear ho
        have ef16 : x 16 = (.int .i64 kk) := hF 16 (by decide +kernel)
        have ed117 : x 117 = (.bool true) := hd 3 (by decide +kernel) _ _ rfl rfl
        clear hd hF
        have HX := Lib.hid hE
        clear hE
        rw [show actOf _ x = (⟨#[x 0, x 1, x 2, x 3, x 4, x 5, x 6, x 7, x 8, x 9, x 10, x 11, x 12, x 13, x 14, x 15, x 16, x 17, x 18, x 19, x 20, x 21, x 22, x 23, x 24, x 25, x 26, x 27, x 28, x 29, x 30, x 31, x 32, x 33, x 34, x 35, x 36, x 37, x 38, x 39, x 40, x 41, x 42, x 43, x 44, x 45, x 46, x 47, x 48, x 49, x 50, x 51, x 52, x 53, x 54, x 55, x 56, x 57, x 58, x 59, x 60, x 61, x 62, x 63, x 64, x 65, x 66, x 67, x 68, x 69, x 70, x 71, x 72, x 73, x 74, x 75, x 76, x 77, x 78, x 79, x 80, x 81, x 82, x 83, x 84, x 85, x 86, x 87, x 88, x 89, x 90, x 91, x 92, x 93, x 94, x 95, x 96, x 97, x 98, x 99, x 100, x 101, x 102, x 103, x 104, x 105, x 106, x 107, x 108, x 109, x 110, x 111, x 112, x 113, x 114, x 115, x 116, x 117, x 118, x 119, x 120, x 121, x 122, x 123, x 124, x 125, x 126, x 127, x 128, x 129, x 130, x 131], []⟩ : Act) from rfl]
        rw [ef16, ed117]
        clear ef16 ed117
        go_wp2_with fail
        exact ⟨.int .i64 kk, rfl, Ext.rfl', rfl⟩
      | 5, _ =>
        refine ⟨fun o ho x wx hE hF hd => ?_⟩
        obtain rfl := Option.some.inj ho
        clear ho
        have ed117 : x 117 = (.bool true) := hd 3 (by decide +kernel) _ _ rfl rfl
        have ed118 : x 118 = (.int .i64 kk) := hd 4 (by decide +kernel) _ _ rfl rfl
        clear hd hF
        have HX := Lib.hid hE
        clear hE
        rw [show actOf _ x = (⟨#[x 0, x 1, x 2, x 3, x 4, x 5, x 6, x 7, x 8, x 9, x 10, x 11, x 12, x 13, x 14, x 15, x 16, x 17, x 18, x 19, x 20, x 21, x 22, x 23, x 24, x 25, x 26, x 27, x 28, x 29, x 30, x 31, x 32, x 33, x 34, x 35, x 36, x 37, x 38, x 39, x 40, x 41, x 42, x 43, x 44, x 45, x 46, x 47, x 48, x 49, x 50, x 51, x 52, x 53, x 54, x 55, x 56, x 57, x 58, x 59, x 60, x 61, x 62, x 63, x 64, x 65, x 66, x 67, x 68, x 69, x 70, x 71, x 72, x 73, x 74, x 75, x 76, x 77, x 78, x 79, x 80, x 81, x 82, x 83, x 84, x 85, x 86, x 87, x 88, x 89, x 90, x 91, x 92, x 93, x 94, x 95, x 96, x 97, x 98, x 99, x 100, x 101, x 102, x 103, x 104, x 105, x 106, x 107, x 108, x 109, x 110, x 111, x 112, x 113, x 114, x 115, x 116, x 117, x 118, x 119, x 120, x 121, x 122, x 123, x 124, x 125, x 126, x 127, x 128, x 129, x 130, x 131], []⟩ : Act) from rfl]
        rw [ed117, ed118]
        clear ed117 ed118
        go_wp2_with fail
        exact ⟨.bool true, rfl, Ext.rfl', rfl⟩
      | 6, _ =>
        refine ⟨fun o ho x wx hE hF hd => ?_⟩
        obtain rfl := Option.some.inj ho
        clear ho
        have ed117 : x 117 = (.bool true) := hd 3 (by decide +kernel) _ _ rfl rfl
        have ed119 : x 119 = (.bool true) := hd 5 (by decide +kernel) _ _ rfl rfl
        clear hd hF
        have HX := Lib.hid hE
        clear hE
        rw [show actOf _ x = (⟨#[x 0, x 1, x 2, x 3, x 4, x 5, x 6, x 7, x 8, x 9, x 10, x 11, x 12, x 13, x 14, x 15, x 16, x 17, x 18, x 19, x 20, x 21, x 22, x 23, x 24, x 25, x 26, x 27, x 28, x 29, x 30, x 31, x 32, x 33, x 34, x 35, x 36, x 37, x 38, x 39, x 40, x 41, x 42, x 43, x 44, x 45, x 46, x 47, x 48, x 49, x 50, x 51, x 52, x 53, x 54, x 55, x 56, x 57, x 58, x 59, x 60, x 61, x 62, x 63, x 64, x 65, x 66, x 67, x 68, x 69, x 70, x 71, x 72, x 73, x 74, x 75, x 76, x 77, x 78, x 79, x 80, x 81, x 82, x 83, x 84, x 85, x 86, x 87, x 88, x 89, x 90, x 91, x 92, x 93, x 94, x 95, x 96, x 97, x 98, x 99, x 100, x 101, x 102, x 103, x 104, x 105, x 106, x 107, x 108, x 109, x 110, x 111, x 112, x 113, x 114, x 115, x 116, x 117, x 118, x 119, x 120, x 121, x 122, x 123, x 124, x 125, x 126, x 127, x 128, x 129, x 130, x 131], []⟩ : Act) from rfl]
        rw [ed117, ed119]
        clear ed117 ed119
        go_wp2_with fail
        exact ⟨.bool true, rfl, Ext.rfl', rfl⟩
      | 7, _ =>
        refine ⟨fun o ho x wx hE hF hd => ?_⟩
        obtain rfl := Option.some.inj ho
        clear ho
        have ed120 : x 120 = (.bool true) := hd 6 (by decide +kernel) _ _ rfl rfl
        clear hd hF
        have HX := Lib.hid hE
        clear hE
        rw [show actOf _ x = (⟨#[x 0, x 1, x 2, x 3, x 4, x 5, x 6, x 7, x 8, x 9, x 10, x 11, x 12, x 13, x 14, x 15, x 16, x 17, x 18, x 19, x 20, x 21, x 22, x 23, x 24, x 25, x 26, x 27, x 28, x 29, x 30, x 31, x 32, x 33, x 34, x 35, x 36, x 37, x 38, x 39, x 40, x 41, x 42, x 43, x 44, x 45, x 46, x 47, x 48, x 49, x 50, x 51, x 52, x 53, x 54, x 55, x 56, x 57, x 58, x 59, x 60, x 61, x 62, x 63, x 64, x 65, x 66, x 67, x 68, x 69, x 70, x 71, x 72, x 73, x 74, x 75, x 76, x 77, x 78, x 79, x 80, x 81, x 82, x 83, x 84, x 85, x 86, x 87, x 88, x 89, x 90, x 91, x 92, x 93, x 94, x 95, x 96, x 97, x 98, x 99, x 100, x 101, x 102, x 103, x 104, x 105, x 106, x 107, x 108, x 109, x 110, x 111, x 112, x 113, x 114, x 115, x 116, x 117, x 118, x 119, x 120, x 121, x 122, x 123, x 124, x 125, x 126, x 127, x 128, x 129, x 130, x 131], []⟩ : Act) from rfl]
        rw [ed120]
        clear ed120
        go_wp2_with fail
        exact ⟨.bool true, rfl, Ext.rfl', rfl⟩
      | 8, _ =>
        refine ⟨fun o ho x wx hE hF hd => ?_⟩
        obtain rfl := Option.some.inj ho
        clear ho
        have ef16 : x 16 = (.int .i64 kk) := hF 16 (by decide +kernel)
        have ed121 : x 121 = (.bool true) := hd 7 (by decide +kernel) _ _ rfl rfl
        clear hd hF
        have HX := Lib.hid hE
        clear hE
        rw [show actOf _ x = (⟨#[x 0, x 1, x 2, x 3, x 4, x 5, x 6, x 7, x 8, x 9, x 10, x 11, x 12, x 13, x 14, x 15, x 16, x 17, x 18, x 19, x 20, x 21, x 22, x 23, x 24, x 25, x 26, x 27, x 28, x 29, x 30, x 31, x 32, x 33, x 34, x 35, x 36, x 37, x 38, x 39, x 40, x 41, x 42, x 43, x 44, x 45, x 46, x 47, x 48, x 49, x 50, x 51, x 52, x 53, x 54, x 55, x 56, x 57, x 58, x 59, x 60, x 61, x 62, x 63, x 64, x 65, x 66, x 67, x 68, x 69, x 70, x 71, x 72, x 73, x 74, x 75, x 76, x 77, x 78, x 79, x 80, x 81, x 82, x 83, x 84, x 85, x 86, x 87, x 88, x 89, x 90, x 91, x 92, x 93, x 94, x 95, x 96, x 97, x 98, x 99, x 100, x 101, x 102, x 103, x 104, x 105, x 106, x 107, x 108, x 109, x 110, x 111, x 112, x 113, x 114, x 115, x 116, x 117, x 118, x 119, x 120, x 121, x 122, x 123, x 124, x 125, x 126, x 127, x 128, x 129, x 130, x 131], []⟩ : Act) from rfl]
        rw [ef16, ed121]
        clear ef16 ed121
        go_wp2_with fail
        exact ⟨.int .i64 kk, rfl, Ext.rfl', rfl⟩
      | 9, _ =>
        refine ⟨fun o ho x wx hE hF hd => ?_⟩
        obtain rfl := Option.some.inj ho
        clear ho
        have ed121 : x 121 = (.bool true) := hd 7 (by decide +kernel) _ _ rfl rfl
        have ed122 : x 122 = (.int .i64 kk) := hd 8 (by decide +kernel) _ _ rfl rfl
        clear hd hF
        have HX := Lib.hid hE
        clear hE
        rw [show actOf _ x = (⟨#[x 0, x 1, x 2, x 3, x 4, x 5, x 6, x 7, x 8, x 9, x 10, x 11, x 12, x 13, x 14, x 15, x 16, x 17, x 18, x 19, x 20, x 21, x 22, x 23, x 24, x 25, x 26, x 27, x 28, x 29, x 30, x 31, x 32, x 33, x 34, x 35, x 36, x 37, x 38, x 39, x 40, x 41, x 42, x 43, x 44, x 45, x 46, x 47, x 48, x 49, x 50, x 51, x 52, x 53, x 54, x 55, x 56, x 57, x 58, x 59, x 60, x 61, x 62, x 63, x 64, x 65, x 66, x 67, x 68, x 69, x 70, x 71, x 72, x 73, x 74, x 75, x 76, x 77, x 78, x 79, x 80, x 81, x 82, x 83, x 84, x 85, x 86, x 87, x 88, x 89, x 90, x 91, x 92, x 93, x 94, x 95, x 96, x 97, x 98, x 99, x 100, x 101, x 102, x 103, x 104, x 105, x 106, x 107, x 108, x 109, x 110, x 111, x 112, x 113, x 114, x 115, x 116, x 117, x 118, x 119, x 120, x 121, x 122, x 123, x 124, x 125, x 126, x 127, x 128, x 129, x 130, x 131], []⟩ : Act) from rfl]
        rw [ed121, ed122]
        clear ed121 ed122
        go_wp2_with fail
        exact ⟨(.bool true), rfl, Ext.rfl', rfl⟩
      | 10, _ =>
        refine ⟨fun o ho x wx hE hF hd => ?_⟩
        obtain rfl := Option.some.inj ho
        clear ho
        have ed121 : x 121 = (.bool true) := hd 7 (by decide +kernel) _ _ rfl rfl
        have ed123 : x 123 = (.bool true) := hd 9 (by decide +kernel) _ _ rfl rfl
        clear hd hF
        have HX := Lib.hid hE
        clear hE
        rw [show actOf _ x = (⟨#[x 0, x 1, x 2, x 3, x 4, x 5, x 6, x 7, x 8, x 9, x 10, x 11, x 12, x 13, x 14, x 15, x 16, x 17, x 18, x 19, x 20, x 21, x 22, x 23, x 24, x 25, x 26, x 27, x 28, x 29, x 30, x 31, x 32, x 33, x 34, x 35, x 36, x 37, x 38, x 39, x 40, x 41, x 42, x 43, x 44, x 45, x 46, x 47, x 48, x 49, x 50, x 51, x 52, x 53, x 54, x 55, x 56, x 57, x 58, x 59, x 60, x 61, x 62, x 63, x 64, x 65, x 66, x 67, x 68, x 69, x 70, x 71, x 72, x 73, x 74, x 75, x 76, x 77, x 78, x 79, x 80, x 81, x 82, x 83, x 84, x 85, x 86, x 87, x 88, x 89, x 90, x 91, x 92, x 93, x 94, x 95, x 96, x 97, x 98, x 99, x 100, x 101, x 102, x 103, x 104, x 105, x 106, x 107, x 108, x 109, x 110, x 111, x 112, x 113, x 114, x 115, x 116, x 117, x 118, x 119, x 120, x 121, x 122, x 123, x 124, x 125, x 126, x 127, x 128, x 129, x 130, x 131], []⟩ : Act) from rfl]
        rw [ed121, ed123]
        clear ed121 ed123
        go_wp2_with fail
        exact ⟨(.bool true), rfl, Ext.rfl', rfl⟩
      | 11, _ =>
        refine ⟨fun o ho x wx hE hF hd => ?_⟩
        obtain rfl := Option.some.inj ho
        clear ho
        have ed124 : x 124 = (.bool true) := hd 10 (by decide +kernel) _ _ rfl rfl
        clear hd hF
        have HX := Lib.hid hE
        clear hE
        rw [show actOf _ x = (⟨#[x 0, x 1, x 2, x 3, x 4, x 5, x 6, x 7, x 8, x 9, x 10, x 11, x 12, x 13, x 14, x 15, x 16, x 17, x 18, x 19, x 20, x 21, x 22, x 23, x 24, x 25, x 26, x 27, x 28, x 29, x 30, x 31, x 32, x 33, x 34, x 35, x 36, x 37, x 38, x 39, x 40, x 41, x 42, x 43, x 44, x 45, x 46, x 47, x 48, x 49, x 50, x 51, x 52, x 53, x 54, x 55, x 56, x 57, x 58, x 59, x 60, x 61, x 62, x 63, x 64, x 65, x 66, x 67, x 68, x 69, x 70, x 71, x 72, x 73, x 74, x 75, x 76, x 77, x 78, x 79, x 80, x 81, x 82, x 83, x 84, x 85, x 86, x 87, x 88, x 89, x 90, x 91, x 92, x 93, x 94, x 95, x 96, x 97, x 98, x 99, x 100, x 101, x 102, x 103, x 104, x 105, x 106, x 107, x 108, x 109, x 110, x 111, x 112, x 113, x 114, x 115, x 116, x 117, x 118, x 119, x 120, x 121, x 122, x 123, x 124, x 125, x 126, x 127, x 128, x 129, x 130, x 131], []⟩ : Act) from rfl]
        rw [ed124]
        clear ed124
        go_wp2_with fail
        exact ⟨undef, rfl, Ext.rfl', rfl⟩
      | 12, _ =>
        refine ⟨fun o ho x wx hE hF hd => ?_⟩
        obtain rfl := Option.some.inj ho
        clear ho
        have ed124 : x 124 = (.bool true) := hd 10 (by decide +kernel) _ _ rfl rfl
        clear hd hF
        have HX := Lib.hid hE
        clear hE
        rw [show actOf _ x = (⟨#[x 0, x 1, x 2, x 3, x 4, x 5, x 6, x 7, x 8, x 9, x 10, x 11, x 12, x 13, x 14, x 15, x 16, x 17, x 18, x 19, x 20, x 21, x 22, x 23, x 24, x 25, x 26, x 27, x 28, x 29, x 30, x 31, x 32, x 33, x 34, x 35, x 36, x 37, x 38, x 39, x 40, x 41, x 42, x 43, x 44, x 45, x 46, x 47, x 48, x 49, x 50, x 51, x 52, x 53, x 54, x 55, x 56, x 57, x 58, x 59, x 60, x 61, x 62, x 63, x 64, x 65, x 66, x 67, x 68, x 69, x 70, x 71, x 72, x 73, x 74, x 75, x 76, x 77, x 78, x 79, x 80, x 81, x 82, x 83, x 84, x 85, x 86, x 87, x 88, x 89, x 90, x 91, x 92, x 93, x 94, x 95, x 96, x 97, x 98, x 99, x 100, x 101, x 102, x 103, x 104, x 105, x 106, x 107, x 108, x 109, x 110, x 111, x 112, x 113, x 114, x 115, x 116, x 117, x 118, x 119, x 120, x 121, x 122, x 123, x 124, x 125, x 126, x 127, x 128, x 129, x 130, x 131], []⟩ : Act) from rfl]
        rw [ed124]
        clear ed124
        go_wp2_with fail
        exact ⟨undef, rfl, Ext.rfl', rfl⟩
      | 13, _ =>
        refine ⟨fun o ho x wx hE hF hd => ?_⟩
        obtain rfl := Option.some.inj ho
        clear ho
        have ed124 : x 124 = (.bool true) := hd 10 (by decide +kernel) _ _ rfl rfl
        clear hd hF
        have HX := Lib.hid hE
        clear hE
        rw [show actOf _ x = (⟨#[x 0, x 1, x 2, x 3, x 4, x 5, x 6, x 7, x 8, x 9, x 10, x 11, x 12, x 13, x 14, x 15, x 16, x 17, x 18, x 19, x 20, x 21, x 22, x 23, x 24, x 25, x 26, x 27, x 28, x 29, x 30, x 31, x 32, x 33, x 34, x 35, x 36, x 37, x 38, x 39, x 40, x 41, x 42, x 43, x 44, x 45, x 46, x 47, x 48, x 49, x 50, x 51, x 52, x 53, x 54, x 55, x 56, x 57, x 58, x 59, x 60, x 61, x 62, x 63, x 64, x 65, x 66, x 67, x 68, x 69, x 70, x 71, x 72, x 73, x 74, x 75, x 76, x 77, x 78, x 79, x 80, x 81, x 82, x 83, x 84, x 85, x 86, x 87, x 88, x 89, x 90, x 91, x 92, x 93, x 94, x 95, x 96, x 97, x 98, x 99, x 100, x 101, x 102, x 103, x 104, x 105, x 106, x 107, x 108, x 109, x 110, x 111, x 112, x 113, x 114, x 115, x 116, x 117, x 118, x 119, x 120, x 121, x 122, x 123, x 124, x 125, x 126, x 127, x 128, x 129, x 130, x 131], []⟩ : Act) from rfl]
        rw [ed124]
        clear ed124
        go_wp2_with fail
        exact ⟨undef, rfl, Ext.rfl', rfl⟩
      | 14, _ =>
        refine ⟨fun o ho x wx hE hF hd => ?_⟩
        obtain rfl := Option.some.inj ho
        clear ho
        have ed124 : x 124 = (.bool true) := hd 10 (by decide +kernel) _ _ rfl rfl
        clear hd hF
        have HX := Lib.hid hE
        clear hE
        rw [show actOf _ x = (⟨#[x 0, x 1, x 2, x 3, x 4, x 5, x 6, x 7, x 8, x 9, x 10, x 11, x 12, x 13, x 14, x 15, x 16, x 17, x 18, x 19, x 20, x 21, x 22, x 23, x 24, x 25, x 26, x 27, x 28, x 29, x 30, x 31, x 32, x 33, x 34, x 35, x 36, x 37, x 38, x 39, x 40, x 41, x 42, x 43, x 44, x 45, x 46, x 47, x 48, x 49, x 50, x 51, x 52, x 53, x 54, x 55, x 56, x 57, x 58, x 59, x 60, x 61, x 62, x 63, x 64, x 65, x 66, x 67, x 68, x 69, x 70, x 71, x 72, x 73, x 74, x 75, x 76, x 77, x 78, x 79, x 80, x 81, x 82, x 83, x 84, x 85, x 86, x 87, x 88, x 89, x 90, x 91, x 92, x 93, x 94, x 95, x 96, x 97, x 98, x 99, x 100, x 101, x 102, x 103, x 104, x 105, x 106, x 107, x 108, x 109, x 110, x 111, x 112, x 113, x 114, x 115, x 116, x 117, x 118, x 119, x 120, x 121, x 122, x 123, x 124, x 125, x 126, x 127, x 128, x 129, x 130, x 131], []⟩ : Act) from rfl]
        rw [ed124]
        clear ed124
        go_wp2_with fail
        exact ⟨undef, rfl, Ext.rfl', rfl⟩
      | 15, _ =>
        refine ⟨fun o ho x wx hE hF hd => ?_⟩
        obtain rfl := Option.some.inj ho
        clear ho
        have ed124 : x 124 = (.bool true) := hd 10 (by decide +kernel) _ _ rfl rfl
        clear hd hF
        have HX := Lib.hid hE
        clear hE
        rw [show actOf _ x = (⟨#[x 0, x 1, x 2, x 3, x 4, x 5, x 6, x 7, x 8, x 9, x 10, x 11, x 12, x 13, x 14, x 15, x 16, x 17, x 18, x 19, x 20, x 21, x 22, x 23, x 24, x 25, x 26, x 27, x 28, x 29, x 30, x 31, x 32, x 33, x 34, x 35, x 36, x 37, x 38, x 39, x 40, x 41, x 42, x 43, x 44, x 45, x 46, x 47, x 48, x 49, x 50, x 51, x 52, x 53, x 54, x 55, x 56, x 57, x 58, x 59, x 60, x 61, x 62, x 63, x 64, x 65, x 66, x 67, x 68, x 69, x 70, x 71, x 72, x 73, x 74, x 75, x 76, x 77, x 78, x 79, x 80, x 81, x 82, x 83, x 84, x 85, x 86, x 87, x 88, x 89, x 90, x 91, x 92, x 93, x 94, x 95, x 96, x 97, x 98, x 99, x 100, x 101, x 102, x 103, x 104, x 105, x 106, x 107, x 108, x 109, x 110, x 111, x 112, x 113, x 114, x 115, x 116, x 117, x 118, x 119, x 120, x 121, x 122, x 123, x 124, x 125, x 126, x 127, x 128, x 129, x 130, x 131], []⟩ : Act) from rfl]
        rw [ed124]
        clear ed124
        go_wp2_with fail
        exact ⟨undef, rfl, Ext.rfl', rfl⟩
      | 16, _ =>
        refine ⟨fun o ho x wx hE hF hd => ?_⟩
        obtain rfl := Option.some.inj ho
        clear ho
        have ed121 : x 121 = (.bool true) := hd 7 (by decide +kernel) _ _ rfl rfl
        have ed124 : x 124 = (.bool true) := hd 10 (by decide +kernel) _ _ rfl rfl
        clear hd hF
        have HX := Lib.hid hE
        clear hE
        rw [show actOf _ x = (⟨#[x 0, x 1, x 2, x 3, x 4, x 5, x 6, x 7, x 8, x 9, x 10, x 11, x 12, x 13, x 14, x 15, x 16, x 17, x 18, x 19, x 20, x 21, x 22, x 23, x 24, x 25, x 26, x 27, x 28, x 29, x 30, x 31, x 32, x 33, x 34, x 35, x 36, x 37, x 38, x 39, x 40, x 41, x 42, x 43, x 44, x 45, x 46, x 47, x 48, x 49, x 50, x 51, x 52, x 53, x 54, x 55, x 56, x 57, x 58, x 59, x 60, x 61, x 62, x 63, x 64, x 65, x 66, x 67, x 68, x 69, x 70, x 71, x 72, x 73, x 74, x 75, x 76, x 77, x 78, x 79, x 80, x 81, x 82, x 83, x 84, x 85, x 86, x 87, x 88, x 89, x 90, x 91, x 92, x 93, x 94, x 95, x 96, x 97, x 98, x 99, x 100, x 101, x 102, x 103, x 104, x 105, x 106, x 107, x 108, x 109, x 110, x 111, x 112, x 113, x 114, x 115, x 116, x 117, x 118, x 119, x 120, x 121, x 122, x 123, x 124, x 125, x 126, x 127, x 128, x 129, x 130, x 131], []⟩ : Act) from rfl]
        rw [ed121, ed124]
        clear ed121 ed124
        go_wp2_with fail
        exact ⟨.bool true, rfl, Ext.rfl', rfl⟩
      | 17, _ =>
        refine ⟨fun o ho x wx hE hF hd => ?_⟩
        obtain rfl := Option.some.inj ho
        clear ho
        have ed121 : x 121 = (.bool true) := hd 7 (by decide +kernel) _ _ rfl rfl
        have ed130 : x 130 = (.bool true) := hd 16 (by decide +kernel) _ _ rfl rfl
        clear hd hF
        have HX := Lib.hid hE
        clear hE
        rw [show actOf _ x = (⟨#[x 0, x 1, x 2, x 3, x 4, x 5, x 6, x 7, x 8, x 9, x 10, x 11, x 12, x 13, x 14, x 15, x 16, x 17, x 18, x 19, x 20, x 21, x 22, x 23, x 24, x 25, x 26, x 27, x 28, x 29, x 30, x 31, x 32, x 33, x 34, x 35, x 36, x 37, x 38, x 39, x 40, x 41, x 42, x 43, x 44, x 45, x 46, x 47, x 48, x 49, x 50, x 51, x 52, x 53, x 54, x 55, x 56, x 57, x 58, x 59, x 60, x 61, x 62, x 63, x 64, x 65, x 66, x 67, x 68, x 69, x 70, x 71, x 72, x 73, x 74, x 75, x 76, x 77, x 78, x 79, x 80, x 81, x 82, x 83, x 84, x 85, x 86, x 87, x 88, x 89, x 90, x 91, x 92, x 93, x 94, x 95, x 96, x 97, x 98, x 99, x 100, x 101, x 102, x 103, x 104, x 105, x 106, x 107, x 108, x 109, x 110, x 111, x 112, x 113, x 114, x 115, x 116, x 117, x 118, x 119, x 120, x 121, x 122, x 123, x 124, x 125, x 126, x 127, x 128, x 129, x 130, x 131], []⟩ : Act) from rfl]
        rw [ed121, ed130]
        clear ed121 ed130
        go_wp2_with fail
        exact ⟨.bool true, rfl, Ext.rfl', rfl⟩
      | 18, _ =>
        refine ⟨fun o ho x wx hE hF hd => ?_⟩
        obtain rfl := Option.some.inj ho
        clear ho
        have ed131 : x 131 = (.bool true) := hd 17 (by decide +kernel) _ _ rfl rfl
        clear hd hF
        have HX := Lib.hid hE
        clear hE
        rw [show actOf _ x = (⟨#[x 0, x 1, x 2, x 3, x 4, x 5, x 6, x 7, x 8, x 9, x 10, x 11, x 12, x 13, x 14, x 15, x 16, x 17, x 18, x 19, x 20, x 21, x 22, x 23, x 24, x 25, x 26, x 27, x 28, x 29, x 30, x 31, x 32, x 33, x 34, x 35, x 36, x 37, x 38, x 39, x 40, x 41, x 42, x 43, x 44, x 45, x 46, x 47, x 48, x 49, x 50, x 51, x 52, x 53, x 54, x 55, x 56, x 57, x 58, x 59, x 60, x 61, x 62, x 63, x 64, x 65, x 66, x 67, x 68, x 69, x 70, x 71, x 72, x 73, x 74, x 75, x 76, x 77, x 78, x 79, x 80, x 81, x 82, x 83, x 84, x 85, x 86, x 87, x 88, x 89, x 90, x 91, x 92, x 93, x 94, x 95, x 96, x 97, x 98, x 99, x 100, x 101, x 102, x 103, x 104, x 105, x 106, x 107, x 108, x 109, x 110, x 111, x 112, x 113, x 114, x 115, x 116, x 117, x 118, x 119, x 120, x 121, x 122, x 123, x 124, x 125, x 126, x 127, x 128, x 129, x 130, x 131], []⟩ : Act) from rfl]
        rw [ed131]
        clear ed131
        go_wp2_with fail
        exact ⟨.bool true, rfl, Ext.rfl', rfl⟩
      | k + 19, h => exact absurd h (by simp)
    intro x w50 hE hF hV
    have ez6 : x 6 = (.bool true) := hV 18 _ _ rfl rfl
    clear hV hF
    have Ew50 := Lib.hid hE
    clear hE
    rw [show actOf _ x = (⟨#[x 0, x 1, x 2, x 3, x 4, x 5, x 6, x 7, x 8, x 9, x 10, x 11, x 12, x 13, x 14, x 15, x 16, x 17, x 18, x 19, x 20, x 21, x 22, x 23, x 24, x 25, x 26, x 27, x 28, x 29, x 30, x 31, x 32, x 33, x 34, x 35, x 36, x 37, x 38, x 39, x 40, x 41, x 42, x 43, x 44, x 45, x 46, x 47, x 48, x 49, x 50, x 51, x 52, x 53, x 54, x 55, x 56, x 57, x 58, x 59, x 60, x 61, x 62, x 63, x 64, x 65, x 66, x 67, x 68, x 69, x 70, x 71, x 72, x 73, x 74, x 75, x 76, x 77, x 78, x 79, x 80, x 81, x 82, x 83, x 84, x 85, x 86, x 87, x 88, x 89, x 90, x 91, x 92, x 93, x 94, x 95, x 96, x 97, x 98, x 99, x 100, x 101, x 102, x 103, x 104, x 105, x 106, x 107, x 108, x 109, x 110, x 111, x 112, x 113, x 114, x 115, x 116, x 117, x 118, x 119, x 120, x 121, x 122, x 123, x 124, x 125, x 126, x 127, x 128, x 129, x 130, x 131], []⟩ : Act) from rfl, ez6]
    clear ez6
    go_wp2_with fail
    go_ret
    exact ⟨rfl, (Ext.trans Ew1.out (Ext.trans Ew2.out (Ext.trans Ew3.out (Ext.trans Ew4.out (Ext.trans Ew5.out (Ext.trans Ew6.out (Ext.trans Ew7.out (Ext.trans Ew8.out (Ext.trans Ew9.out (Ext.trans Ew10.out (Ext.trans Ew11.out (Ext.trans Ew12.out (Ext.trans Ew13.out (Ext.trans Ew14.out (Ext.trans Ew15.out (Ext.trans Ew16.out (Ext.trans NJ1.out (Ext.trans Ew23.out (Ext.trans Ew24.out (Ext.trans NJ2.out (Ext.trans Ew35.out (Ext.trans NJ3.out (Ext.trans Ew48.out (Ext.trans Ew49.out Ew50.out))))))))))))))))))))))))⟩
  have hb6 : decide (kk < 0) = false := by
    have : ¬ kk < 0 := by rw [← Hkk.out]; exact fun e => hkk ((cmpQ_neg _ _).1 e)
    simp; omega
  have HLE : Hid (((nq : Int) : Rat) ≤ q) := HOPT.out.2 (Rat.le_antisymm HOPT.out.1 (Rat.not_lt.1 hkk))
  clear hkk
  obtain ⟨zz, hzz⟩ : ∃ v, cmpQ ((nq : Int) : Rat) q = v := ⟨_, rfl⟩
  have hb7 : decide (zz ≤ 0) = true := by
    have : ¬ 0 < zz := by rw [← hzz]; exact fun e => Rat.not_lt.2 HLE.out ((cmpQ_pos _ _).1 e)
    simp; omega
  have Hzz := Lib.hid hzz
  clear hzz
  have hE : Ext w48 w48.drew := Ext.rfl'.drew
  refine wp_region_free (fun i => (([(.is (.agg #[.bool sg, .slice Ag ng cg, .bool tg, .slice Bg mg dg])), (.is (.agg #[.bool sx, .slice Ax nx cx, .bool tx, .slice Bx mx dx])), (.is (.bool true)), (.is (.bool true)), (.is (.int .i64 kk)), (.is (.bool true)), (.is (.bool true)), (.is (.bool true)), (.is (.int .i64 kk)), (.is (.bool false)), (.is (.bool false)), (.is (.int .i64 nq)), (.q ((nq : Int) : Rat)), (.is (.agg #[.bool s2, .slice A2 n2 c2, .bool t2, .slice B2 m2 d2])), (.is (.int .i64 zz)), (.is (.bool true)), (.is (.bool true)), (.is (.bool true)), (.is (.bool true))] : List VK).getD i .any).holds) (by kernel_rfl) (by kernel_rfl) (fun _ _ _ _ h hE => VK.mono h hE) ?_ ?_
  all_goals generalize w48.drew = w51 at *
  all_goals have Ew51 := Lib.hid hE
  all_goals clear hE
  · intro i hi
    match i, hi with
    | 0, _ =>
      refine ⟨fun o ho x wx hE hF hd => ?_⟩
      obtain rfl := Option.some.inj ho
      clear ho
      have ef15 : x 15 = (.pointer (some ⟨gg, 0, none⟩)) := hF 15 (by decide +kernel)
      clear hd hF
      have HX := Lib.hid hE
      clear hE
      rw [show actOf _ x = (⟨#[x 0, x 1, x 2, x 3, x 4, x 5, x 6, x 7, x 8, x 9, x 10, x 11, x 12, x 13, x 14, x 15, x 16, x 17, x 18, x 19, x 20, x 21, x 22, x 23, x 24, x 25, x 26, x 27, x 28, x 29, x 30, x 31, x 32, x 33, x 34, x 35, x 36, x 37, x 38, x 39, x 40, x 41, x 42, x 43, x 44, x 45, x 46, x 47, x 48, x 49, x 50, x 51, x 52, x 53, x 54, x 55, x 56, x 57, x 58, x 59, x 60, x 61, x 62, x 63, x 64, x 65, x 66, x 67, x 68, x 69, x 70, x 71, x 72, x 73, x 74, x 75, x 76, x 77, x 78, x 79, x 80, x 81, x 82, x 83, x 84, x 85, x 86, x 87, x 88, x 89, x 90, x 91, x 92, x 93, x 94, x 95, x 96, x 97, x 98, x 99, x 100, x 101, x 102, x 103, x 104, x 105, x 106, x 107, x 108, x 109, x 110, x 111, x 112, x 113, x 114, x 115, x 116, x 117, x 118, x 119, x 120, x 121, x 122, x 123, x 124, x 125, x 126, x 127, x 128, x 129, x 130, x 131], []⟩ : Act) from rfl]
      rw [ef15]
      clear ef15
      obtain ⟨⟨xg0, xg1, xg2, xg3⟩, -, zg⟩ := (Kg_3.out.ext (Ext.trans Ew48.out (Ext.trans Ew51.out HX.out)))
      go_wp2_with fail
      exact ⟨(.agg #[.bool sg, .slice Ag ng cg, .bool tg, .slice Bg mg dg]), rfl, Ext.rfl', rfl⟩
    | 1, _ =>
      refine ⟨fun o ho x wx hE hF hd => ?_⟩
      obtain rfl := Option.some.inj ho
      clear ho
      have ef8 : x 8 = (.pointer (some ⟨w12.heap.size, 0, none⟩)) := hF 8 (by decide +kernel)
      clear hd hF
      have HX := Lib.hid hE
      clear hE
      rw [show actOf _ x = (⟨#[x 0, x 1, x 2, x 3, x 4, x 5, x 6, x 7, x 8, x 9, x 10, x 11, x 12, x 13, x 14, x 15, x 16, x 17, x 18, x 19, x 20, x 21, x 22, x 23, x 24, x 25, x 26, x 27, x 28, x 29, x 30, x 31, x 32, x 33, x 34, x 35, x 36, x 37, x 38, x 39, x 40, x 41, x 42, x 43, x 44, x 45, x 46, x 47, x 48, x 49, x 50, x 51, x 52, x 53, x 54, x 55, x 56, x 57, x 58, x 59, x 60, x 61, x 62, x 63, x 64, x 65, x 66, x 67, x 68, x 69, x 70, x 71, x 72, x 73, x 74, x 75, x 76, x 77, x 78, x 79, x 80, x 81, x 82, x 83, x 84, x 85, x 86, x 87, x 88, x 89, x 90, x 91, x 92, x 93, x 94, x 95, x 96, x 97, x 98, x 99, x 100, x 101, x 102, x 103, x 104, x 105, x 106, x 107, x 108, x 109, x 110, x 111, x 112, x 113, x 114, x 115, x 116, x 117, x 118, x 119, x 120, x 121, x 122, x 123, x 124, x 125, x 126, x 127, x 128, x 129, x 130, x 131], []⟩ : Act) from rfl]
      rw [ef8]
      clear ef8
      obtain ⟨⟨xx0, xx1, xx2, xx3⟩, -, zx⟩ := (Kx.out.ext (Ext.trans Ew14.out (Ext.trans Ew15.out (Ext.trans Ew16.out (Ext.trans NJ1.out (Ext.trans Ew23.out (Ext.trans Ew24.out (Ext.trans NJ2.out (Ext.trans Ew35.out (Ext.trans NJ3.out (Ext.trans Ew48.out (Ext.trans Ew51.out HX.out))))))))))))
      go_wp2_with fail
      exact ⟨(.agg #[.bool sx, .slice Ax nx cx, .bool tx, .slice Bx mx dx]), rfl, Ext.rfl', rfl⟩
    | 2, _ =>
      refine ⟨fun o ho x wx hE hF hd => ?_⟩
      obtain rfl := Option.some.inj ho
      clear ho
      have ed114 : x 114 = (.agg #[.bool sg, .slice Ag ng cg, .bool tg, .slice Bg mg dg]) := hd 0 (by decide +kernel) _ _ rfl rfl
      have ed115 : x 115 = (.agg #[.bool sx, .slice Ax nx cx, .bool tx, .slice Bx mx dx]) := hd 1 (by decide +kernel) _ _ rfl rfl
      clear hd hF
      have HX := Lib.hid hE
      clear hE
      rw [show actOf _ x = (⟨#[x 0, x 1, x 2, x 3, x 4, x 5, x 6, x 7, x 8, x 9, x 10, x 11, x 12, x 13, x 14, x 15, x 16, x 17, x 18, x 19, x 20, x 21, x 22, x 23, x 24, x 25, x 26, x 27, x 28, x 29, x 30, x 31, x 32, x 33, x 34, x 35, x 36, x 37, x 38, x 39, x 40, x 41, x 42, x 43, x 44, x 45, x 46, x 47, x 48, x 49, x 50, x 51, x 52, x 53, x 54, x 55, x 56, x 57, x 58, x 59, x 60, x 61, x 62, x 63, x 64, x 65, x 66, x 67, x 68, x 69, x 70, x 71, x 72, x 73, x 74, x 75, x 76, x 77, x 78, x 79, x 80, x 81, x 82, x 83, x 84, x 85, x 86, x 87, x 88, x 89, x 90, x 91, x 92, x 93, x 94, x 95, x 96, x 97, x 98, x 99, x 100, x 101, x 102, x 103, x 104, x 105, x 106, x 107, x 108, x 109, x 110, x 111, x 112, x 113, x 114, x 115, x 116, x 117, x 118, x 119, x 120, x 121, x 122, x 123, x 124, x 125, x 126, x 127, x 128, x 129, x 130, x 131], []⟩ : Act) from rfl]
      rw [ed114, ed115]
      clear ed114 ed115
      go_wp2_with fail
      refine (qequal_any sg Ag ng cg tg Bg mg dg _ sx Ax nx cx tx Bx mx dx _ wx ((Qg_3.out.ext (Ext.trans Ew48.out (Ext.trans Ew51.out HX.out))).arg (((HZ1.out.mul (sz_small (z := nq) (by omega) (by omega))).sub (sz_costV ((sz_small (z := nq) (by omega) (by omega)).mono (by omega)))).sub (sz_small (z := u.idle) (by omega) (by omega))) (by omega)) ((Qx.out.ext (Ext.trans Ew13.out (Ext.trans Ew14.out (Ext.trans Ew15.out (Ext.trans Ew16.out (Ext.trans NJ1.out (Ext.trans Ew23.out (Ext.trans Ew24.out (Ext.trans NJ2.out (Ext.trans Ew35.out (Ext.trans NJ3.out (Ext.trans Ew48.out (Ext.trans Ew51.out HX.out))))))))))))).arg HZp.out (by omega))).mono ?_
      rintro e wy ⟨rfl, hE⟩
      rw [decide_eq_true HSM.out]
      go_wp2_with fail
      exact ⟨.bool true, rfl, hE, rfl⟩
    | 3, _ =>
      refine ⟨fun o ho x wx hE hF hd => ?_⟩
      obtain rfl := Option.some.inj ho
      clear ho
      have ed116 : x 116 = (.bool true) := hd 2 (by decide +kernel) _ _ rfl rfl
      clear hd hF
      have HX := Lib.hid hE
      clear hE
      rw [show actOf _ x = (⟨#[x 0, x 1, x 2, x 3, x 4, x 5, x 6, x 7, x 8, x 9, x 10, x 11, x 12, x 13, x 14, x 15, x 16, x 17, x 18, x 19, x 20, x 21, x 22, x 23, x 24, x 25, x 26, x 27, x 28, x 29, x 30, x 31, x 32, x 33, x 34, x 35, x 36, x 37, x 38, x 39, x 40, x 41, x 42, x 43, x 44, x 45, x 46, x 47, x 48, x 49, x 50, x 51, x 52, x 53, x 54, x 55, x 56, x 57, x 58, x 59, x 60, x 61, x 62, x 63, x 64, x 65, x 66, x 67, x 68, x 69, x 70, x 71, x 72, x 73, x 74, x 75, x 76, x 77, x 78, x 79, x 80, x 81, x 82, x 83, x 84, x 85, x 86, x 87, x 88, x 89, x 90, x 91, x 92, x 93, x 94, x 95, x 96, x 97, x 98, x 99, x 100, x 101, x 102, x 103, x 104, x 105, x 106, x 107, x 108, x 109, x 110, x 111, x 112, x 113, x 114, x 115, x 116, x 117, x 118, x 119, x 120, x 121, x 122, x 123, x 124, x 125, x 126, x 127, x 128, x 129, x 130, x 131], []⟩ : Act) from rfl]
      rw [ed116]
      clear ed116
      go_wp2_with fail
      exact ⟨.bool true, rfl, Ext.rfl', rfl⟩
    | 4, _ =>
      refine ⟨fun o ho x wx hE hF hd => ?_⟩
      obtain rfl := Option.some.inj ho
      clear ho
      have ef16 : x 16 = (.int .i64 kk) := hF 16 (by decide +kernel)
      have ed117 : x 117 = (.bool true) := hd 3 (by decide +kernel) _ _ rfl rfl
      clear hd hF
      have HX := Lib.hid hE
      clear hE
      rw [show actOf _ x = (⟨#[x 0, x 1, x 2, x 3, x 4, x 5, x 6, x 7, x 8, x 9, x 10, x 11, x 12, x 13, x 14, x 15, x 16, x 17, x 18, x 19, x 20, x 21, x 22, x 23, x 24, x 25, x 26, x 27, x 28, x 29, x 30, x 31, x 32, x 33, x 34, x 35, x 36, x 37, x 38, x 39, x 40, x 41, x 42, x 43, x 44, x 45, x 46, x 47, x 48, x 49, x 50, x 51, x 52, x 53, x 54, x 55, x 56, x 57, x 58, x 59, x 60, x 61, x 62, x 63, x 64, x 65, x 66, x 67, x 68, x 69, x 70, x 71, x 72, x 73, x 74, x 75, x 76, x 77, x 78, x 79, x 80, x 81, x 82, x 83, x 84, x 85, x 86, x 87, x 88, x 89, x 90, x 91, x 92, x 93, x 94, x 95, x 96, x 97, x 98, x 99, x 100, x 101, x 102, x 103, x 104, x 105, x 106, x 107, x 108, x 109, x 110, x 111, x 112, x 113, x 114, x 115, x 116, x 117, x 118, x 119, x 120, x 121, x 122, x 123, x 124, x 125, x 126, x 127, x 128, x 129, x 130, x 131], []⟩ : Act) from rfl]
      rw [ef16, ed117]
      clear ef16 ed117
      go_wp2_with fail
      exact ⟨.int .i64 kk, rfl, Ext.rfl', rfl⟩
    | 5, _ =>
      refine ⟨fun o ho x wx hE hF hd => ?_⟩
      obtain rfl := Option.some.inj ho
      clear ho
      have ed117 : x 117 = (.bool true) := hd 3 (by decide +kernel) _ _ rfl rfl
      have ed118 : x 118 = (.int .i64 kk) := hd 4 (by decide +kernel) _ _ rfl rfl
      clear hd hF
      have HX := Lib.hid hE
      clear hE
      rw [show actOf _ x = (⟨#[x 0, x 1, x 2, x 3, x 4, x 5, x 6, x 7, x 8, x 9, x 10, x 11, x 12, x 13, x 14, x 15, x 16, x 17, x 18, x 19, x 20, x 21, x 22, x 23, x 24, x 25, x 26, x 27, x 28, x 29, x 30, x 31, x 32, x 33, x 34, x 35, x 36, x 37, x 38, x 39, x 40, x 41, x 42, x 43, x 44, x 45, x 46, x 47, x 48, x 49, x 50, x 51, x 52, x 53, x 54, x 55, x 56, x 57, x 58, x 59, x 60, x 61, x 62, x 63, x 64, x 65, x 66, x 67, x 68, x 69, x 70, x 71, x 72, x 73, x 74, x 75, x 76, x 77, x 78, x 79, x 80, x 81, x 82, x 83, x 84, x 85, x 86, x 87, x 88, x 89, x 90, x 91, x 92, x 93, x 94, x 95, x 96, x 97, x 98, x 99, x 100, x 101, x 102, x 103, x 104, x 105, x 106, x 107, x 108, x 109, x 110, x 111, x 112, x 113, x 114, x 115, x 116, x 117, x 118, x 119, x 120, x 121, x 122, x 123, x 124, x 125, x 126, x 127, x 128, x 129, x 130, x 131], []⟩ : Act) from rfl]
      rw [ed117, ed118]
      clear ed117 ed118
      go_wp2_with fail
      exact ⟨.bool true, rfl, Ext.rfl', rfl⟩
    | 6, _ =>
      refine ⟨fun o ho x wx hE hF hd => ?_⟩
      obtain rfl := Option.some.inj ho
      clear ho
      have ed117 : x 117 = (.bool true) := hd 3 (by decide +kernel) _ _ rfl rfl
      have ed119 : x 119 = (.bool true) := hd 5 (by decide +kernel) _ _ rfl rfl
      clear hd hF
      have HX := Lib.hid hE
      clear hE
      rw [show actOf _ x = (⟨#[x 0, x 1, x 2, x 3, x 4, x 5, x 6, x 7, x 8, x 9, x 10, x 11, x 12, x 13, x 14, x 15, x 16, x 17, x 18, x 19, x 20, x 21, x 22, x 23, x 24, x 25, x 26, x 27, x 28, x 29, x 30, x 31, x 32, x 33, x 34, x 35, x 36, x 37, x 38, x 39, x 40, x 41, x 42, x 43, x 44, x 45, x 46, x 47, x 48, x 49, x 50, x 51, x 52, x 53, x 54, x 55, x 56, x 57, x 58, x 59, x 60, x 61, x 62, x 63, x 64, x 65, x 66, x 67, x 68, x 69, x 70, x 71, x 72, x 73, x 74, x 75, x 76, x 77, x 78, x 79, x 80, x 81, x 82, x 83, x 84, x 85, x 86, x 87, x 88, x 89, x 90, x 91, x 92, x 93, x 94, x 95, x 96, x 97, x 98, x 99, x 100, x 101, x 102, x 103, x 104, x 105, x 106, x 107, x 108, x 109, x 110, x 111, x 112, x 113, x 114, x 115, x 116, x 117, x 118, x 119, x 120, x 121, x 122, x 123, x 124, x 125, x 126, x 127, x 128, x 129, x 130, x 131], []⟩ : Act) from rfl]
      rw [ed117, ed119]
      clear ed117 ed119
      go_wp2_with fail
      exact ⟨.bool true, rfl, Ext.rfl', rfl⟩
    | 7, _ =>
      refine ⟨fun o ho x wx hE hF hd => ?_⟩
      obtain rfl := Option.some.inj ho
      clear ho
      have ed120 : x 120 = (.bool true) := hd 6 (by decide +kernel) _ _ rfl rfl
      clear hd hF
      have HX := Lib.hid hE
      clear hE
      rw [show actOf _ x = (⟨#[x 0, x 1, x 2, x 3, x 4, x 5, x 6, x 7, x 8, x 9, x 10, x 11, x 12, x 13, x 14, x 15, x 16, x 17, x 18, x 19, x 20, x 21, x 22, x 23, x 24, x 25, x 26, x 27, x 28, x 29, x 30, x 31, x 32, x 33, x 34, x 35, x 36, x 37, x 38, x 39, x 40, x 41, x 42, x 43, x 44, x 45, x 46, x 47, x 48, x 49, x 50, x 51, x 52, x 53, x 54, x 55, x 56, x 57, x 58, x 59, x 60, x 61, x 62, x 63, x 64, x 65, x 66, x 67, x 68, x 69, x 70, x 71, x 72, x 73, x 74, x 75, x 76, x 77, x 78, x 79, x 80, x 81, x 82, x 83, x 84, x 85, x 86, x 87, x 88, x 89, x 90, x 91, x 92, x 93, x 94, x 95, x 96, x 97, x 98, x 99, x 100, x 101, x 102, x 103, x 104, x 105, x 106, x 107, x 108, x 109, x 110, x 111, x 112, x 113, x 114, x 115, x 116, x 117, x 118, x 119, x 120, x 121, x 122, x 123, x 124, x 125, x 126, x 127, x 128, x 129, x 130, x 131], []⟩ : Act) from rfl]
      rw [ed120]
      clear ed120
      go_wp2_with fail
      exact ⟨.bool true, rfl, Ext.rfl', rfl⟩
    | 8, _ =>
      refine ⟨fun o ho x wx hE hF hd => ?_⟩
      obtain rfl := Option.some.inj ho
      clear ho
      have ef16 : x 16 = (.int .i64 kk) := hF 16 (by decide +kernel)
      have ed121 : x 121 = (.bool true) := hd 7 (by decide +kernel) _ _ rfl rfl
      clear hd hF
      have HX := Lib.hid hE
      clear hE
      rw [show actOf _ x = (⟨#[x 0, x 1, x 2, x 3, x 4, x 5, x 6, x 7, x 8, x 9, x 10, x 11, x 12, x 13, x 14, x 15, x 16, x 17, x 18, x 19, x 20, x 21, x 22, x 23, x 24, x 25, x 26, x 27, x 28, x 29, x 30, x 31, x 32, x 33, x 34, x 35, x 36, x 37, x 38, x 39, x 40, x 41, x 42, x 43, x 44, x 45, x 46, x 47, x 48, x 49, x 50, x 51, x 52, x 53, x 54, x 55, x 56, x 57, x 58, x 59, x 60, x 61, x 62, x 63, x 64, x 65, x 66, x 67, x 68, x 69, x 70, x 71, x 72, x 73, x 74, x 75, x 76, x 77, x 78, x 79, x 80, x 81, x 82, x 83, x 84, x 85, x 86, x 87, x 88, x 89, x 90, x 91, x 92, x 93, x 94, x 95, x 96, x 97, x 98, x 99, x 100, x 101, x 102, x 103, x 104, x 105, x 106, x 107, x 108, x 109, x 110, x 111, x 112, x 113, x 114, x 115, x 116, x 117, x 118, x 119, x 120, x 121, x 122, x 123, x 124, x 125, x 126, x 127, x 128, x 129, x 130, x 131], []⟩ : Act) from rfl]
      rw [ef16, ed121]
      clear ef16 ed121
      go_wp2_with fail
      exact ⟨.int .i64 kk, rfl, Ext.rfl', rfl⟩
    | 9, _ =>
      refine ⟨fun o ho x wx hE hF hd => ?_⟩
      obtain rfl := Option.some.inj ho
      clear ho
      have ed121 : x 121 = (.bool true) := hd 7 (by decide +kernel) _ _ rfl rfl
      have ed122 : x 122 = (.int .i64 kk) := hd 8 (by decide +kernel) _ _ rfl rfl
      clear hd hF
      have HX := Lib.hid hE
      clear hE
      rw [show actOf _ x = (⟨#[x 0, x 1, x 2, x 3, x 4, x 5, x 6, x 7, x 8, x 9, x 10, x 11, x 12, x 13, x 14, x 15, x 16, x 17, x 18, x 19, x 20, x 21, x 22, x 23, x 24, x 25, x 26, x 27, x 28, x 29, x 30, x 31, x 32, x 33, x 34, x 35, x 36, x 37, x 38, x 39, x 40, x 41, x 42, x 43, x 44, x 45, x 46, x 47, x 48, x 49, x 50, x 51, x 52, x 53, x 54, x 55, x 56, x 57, x 58, x 59, x 60, x 61, x 62, x 63, x 64, x 65, x 66, x 67, x 68, x 69, x 70, x 71, x 72, x 73, x 74, x 75, x 76, x 77, x 78, x 79, x 80, x 81, x 82, x 83, x 84, x 85, x 86, x 87, x 88, x 89, x 90, x 91, x 92, x 93, x 94, x 95, x 96, x 97, x 98, x 99, x 100, x 101, x 102, x 103, x 104, x 105, x 106, x 107, x 108, x 109, x 110, x 111, x 112, x 113, x 114, x 115, x 116, x 117, x 118, x 119, x 120, x 121, x 122, x 123, x 124, x 125, x 126, x 127, x 128, x 129, x 130, x 131], []⟩ : Act) from rfl]
      rw [ed121, ed122]
      clear ed121 ed122
      go_wp2_with fail
      exact ⟨(.bool false), rfl, Ext.rfl', rfl⟩
    | 10, _ =>
      refine ⟨fun o ho x wx hE hF hd => ?_⟩
      obtain rfl := Option.some.inj ho
      clear ho
      have ed121 : x 121 = (.bool true) := hd 7 (by decide +kernel) _ _ rfl rfl
      have ed123 : x 123 = (.bool false) := hd 9 (by decide +kernel) _ _ rfl rfl
      clear hd hF
      have HX := Lib.hid hE
      clear hE
      rw [show actOf _ x = (⟨#[x 0, x 1, x 2, x 3, x 4, x 5, x 6, x 7, x 8, x 9, x 10, x 11, x 12, x 13, x 14, x 15, x 16, x 17, x 18, x 19, x 20, x 21, x 22, x 23, x 24, x 25, x 26, x 27, x 28, x 29, x 30, x 31, x 32, x 33, x 34, x 35, x 36, x 37, x 38, x 39, x 40, x 41, x 42, x 43, x 44, x 45, x 46, x 47, x 48, x 49, x 50, x 51, x 52, x 53, x 54, x 55, x 56, x 57, x 58, x 59, x 60, x 61, x 62, x 63, x 64, x 65, x 66, x 67, x 68, x 69, x 70, x 71, x 72, x 73, x 74, x 75, x 76, x 77, x 78, x 79, x 80, x 81, x 82, x 83, x 84, x 85, x 86, x 87, x 88, x 89, x 90, x 91, x 92, x 93, x 94, x 95, x 96, x 97, x 98, x 99, x 100, x 101, x 102, x 103, x 104, x 105, x 106, x 107, x 108, x 109, x 110, x 111, x 112, x 113, x 114, x 115, x 116, x 117, x 118, x 119, x 120, x 121, x 122, x 123, x 124, x 125, x 126, x 127, x 128, x 129, x 130, x 131], []⟩ : Act) from rfl]
      rw [ed121, ed123]
      clear ed121 ed123
      go_wp2_with fail
      exact ⟨(.bool false), rfl, Ext.rfl', rfl⟩
    | 11, _ =>
      refine ⟨fun o ho x wx hE hF hd => ?_⟩
      obtain rfl := Option.some.inj ho
      clear ho
      have ef7 : x 7 = (.int .i64 nq) := hF 7 (by decide +kernel)
      have ed124 : x 124 = (.bool false) := hd 10 (by decide +kernel) _ _ rfl rfl
      clear hd hF
      have HX := Lib.hid hE
      clear hE
      rw [show actOf _ x = (⟨#[x 0, x 1, x 2, x 3, x 4, x 5, x 6, x 7, x 8, x 9, x 10, x 11, x 12, x 13, x 14, x 15, x 16, x 17, x 18, x 19, x 20, x 21, x 22, x 23, x 24, x 25, x 26, x 27, x 28, x 29, x 30, x 31, x 32, x 33, x 34, x 35, x 36, x 37, x 38, x 39, x 40, x 41, x 42, x 43, x 44, x 45, x 46, x 47, x 48, x 49, x 50, x 51, x 52, x 53, x 54, x 55, x 56, x 57, x 58, x 59, x 60, x 61, x 62, x 63, x 64, x 65, x 66, x 67, x 68, x 69, x 70, x 71, x 72, x 73, x 74, x 75, x 76, x 77, x 78, x 79, x 80, x 81, x 82, x 83, x 84, x 85, x 86, x 87, x 88, x 89, x 90, x 91, x 92, x 93, x 94, x 95, x 96, x 97, x 98, x 99, x 100, x 101, x 102, x 103, x 104, x 105, x 106, x 107, x 108, x 109, x 110, x 111, x 112, x 113, x 114, x 115, x 116, x 117, x 118, x 119, x 120, x 121, x 122, x 123, x 124, x 125, x 126, x 127, x 128, x 129, x 130, x 131], []⟩ : Act) from rfl]
      rw [ef7, ed124]
      clear ef7 ed124
      go_wp2_with fail
      exact ⟨.int .i64 nq, rfl, Ext.rfl', rfl⟩
    | 12, _ =>
      refine ⟨fun o ho x wx hE hF hd => ?_⟩
      obtain rfl := Option.some.inj ho
      clear ho
      have ed124 : x 124 = (.bool false) := hd 10 (by decide +kernel) _ _ rfl rfl
      have ed125 : x 125 = (.int .i64 nq) := hd 11 (by decide +kernel) _ _ rfl rfl
      clear hd hF
      have HX := Lib.hid hE
      clear hE
      rw [show actOf _ x = (⟨#[x 0, x 1, x 2, x 3, x 4, x 5, x 6, x 7, x 8, x 9, x 10, x 11, x 12, x 13, x 14, x 15, x 16, x 17, x 18, x 19, x 20, x 21, x 22, x 23, x 24, x 25, x 26, x 27, x 28, x 29, x 30, x 31, x 32, x 33, x 34, x 35, x 36, x 37, x 38, x 39, x 40, x 41, x 42, x 43, x 44, x 45, x 46, x 47, x 48, x 49, x 50, x 51, x 52, x 53, x 54, x 55, x 56, x 57, x 58, x 59, x 60, x 61, x 62, x 63, x 64, x 65, x 66, x 67, x 68, x 69, x 70, x 71, x 72, x 73, x 74, x 75, x 76, x 77, x 78, x 79, x 80, x 81, x 82, x 83, x 84, x 85, x 86, x 87, x 88, x 89, x 90, x 91, x 92, x 93, x 94, x 95, x 96, x 97, x 98, x 99, x 100, x 101, x 102, x 103, x 104, x 105, x 106, x 107, x 108, x 109, x 110, x 111, x 112, x 113, x 114, x 115, x 116, x 117, x 118, x 119, x 120, x 121, x 122, x 123, x 124, x 125, x 126, x 127, x 128, x 129, x 130, x 131], []⟩ : Act) from rfl]
      rw [ed124, ed125]
      clear ed124 ed125
      go_wp2_with fail
      refine (qfrom_any nq wx ⟨by omega, by omega⟩).mono ?_
      rintro e wy ⟨sh, Ah, nh, ch, th, Bh, mh, dh, rfl, hQ, hE⟩
      have HQ := Lib.hid (holds_q hQ)
      clear hQ
      go_wp2_with fail
      exact ⟨(.agg #[.bool sh, .slice Ah nh ch, .bool th, .slice Bh mh dh]), rfl, hE, HQ.out⟩
    | 13, _ =>
      refine ⟨fun o ho x wx hE hF hd => ?_⟩
      obtain rfl := Option.some.inj ho
      clear ho
      have ef5 : x 5 = (.pointer (some ⟨w.heap.size + 1 + 1, 0, none⟩)) := hF 5 (by decide +kernel)
      have ed124 : x 124 = (.bool false) := hd 10 (by decide +kernel) _ _ rfl rfl
      clear hd hF
      have HX := Lib.hid hE
      clear hE
      rw [show actOf _ x = (⟨#[x 0, x 1, x 2, x 3, x 4, x 5, x 6, x 7, x 8, x 9, x 10, x 11, x 12, x 13, x 14, x 15, x 16, x 17, x 18, x 19, x 20, x 21, x 22, x 23, x 24, x 25, x 26, x 27, x 28, x 29, x 30, x 31, x 32, x 33, x 34, x 35, x 36, x 37, x 38, x 39, x 40, x 41, x 42, x 43, x 44, x 45, x 46, x 47, x 48, x 49, x 50, x 51, x 52, x 53, x 54, x 55, x 56, x 57, x 58, x 59, x 60, x 61, x 62, x 63, x 64, x 65, x 66, x 67, x 68, x 69, x 70, x 71, x 72, x 73, x 74, x 75, x 76, x 77, x 78, x 79, x 80, x 81, x 82, x 83, x 84, x 85, x 86, x 87, x 88, x 89, x 90, x 91, x 92, x 93, x 94, x 95, x 96, x 97, x 98, x 99, x 100, x 101, x 102, x 103, x 104, x 105, x 106, x 107, x 108, x 109, x 110, x 111, x 112, x 113, x 114, x 115, x 116, x 117, x 118, x 119, x 120, x 121, x 122, x 123, x 124, x 125, x 126, x 127, x 128, x 129, x 130, x 131], []⟩ : Act) from rfl]
      rw [ef5, ed124]
      clear ef5 ed124
      obtain ⟨⟨x20, x21, x22, x23⟩, -, z2⟩ := (K2.out.ext (Ext.trans Ew2.out (Ext.trans Ew3.out (Ext.trans Ew4.out (Ext.trans Ew5.out (Ext.trans Ew6.out (Ext.trans Ew7.out (Ext.trans Ew8.out (Ext.trans Ew9.out (Ext.trans Ew10.out (Ext.trans Ew11.out (Ext.trans Ew12.out (Ext.trans Ew13.out (Ext.trans Ew14.out (Ext.trans Ew15.out (Ext.trans Ew16.out (Ext.trans NJ1.out (Ext.trans Ew23.out (Ext.trans Ew24.out (Ext.trans NJ2.out (Ext.trans Ew35.out (Ext.trans NJ3.out (Ext.trans Ew48.out (Ext.trans Ew51.out HX.out))))))))))))))))))))))))
      go_wp2_with fail
      exact ⟨(.agg #[.bool s2, .slice A2 n2 c2, .bool t2, .slice B2 m2 d2]), rfl, Ext.rfl', rfl⟩
    | 14, _ =>
      refine ⟨fun o ho x wx hE hF hd => ?_⟩
      obtain rfl := Option.some.inj ho
      clear ho
      have ed124 : x 124 = (.bool false) := hd 10 (by decide +kernel) _ _ rfl rfl
      have ed127 : x 127 = (.agg #[.bool s2, .slice A2 n2 c2, .bool t2, .slice B2 m2 d2]) := hd 13 (by decide +kernel) _ _ rfl rfl
      obtain ⟨sh, Ah, nh, ch, th, Bh, mh, dh, eq126, hqh⟩ : (VK.q ((nq : Int) : Rat)).holds (x 126) wx := hd 12 (by decide +kernel) _ _ rfl rfl
      have Qh := Lib.hid hqh
      clear hqh
      clear hd hF
      have HX := Lib.hid hE
      clear hE
      rw [show actOf _ x = (⟨#[x 0, x 1, x 2, x 3, x 4, x 5, x 6, x 7, x 8, x 9, x 10, x 11, x 12, x 13, x 14, x 15, x 16, x 17, x 18, x 19, x 20, x 21, x 22, x 23, x 24, x 25, x 26, x 27, x 28, x 29, x 30, x 31, x 32, x 33, x 34, x 35, x 36, x 37, x 38, x 39, x 40, x 41, x 42, x 43, x 44, x 45, x 46, x 47, x 48, x 49, x 50, x 51, x 52, x 53, x 54, x 55, x 56, x 57, x 58, x 59, x 60, x 61, x 62, x 63, x 64, x 65, x 66, x 67, x 68, x 69, x 70, x 71, x 72, x 73, x 74, x 75, x 76, x 77, x 78, x 79, x 80, x 81, x 82, x 83, x 84, x 85, x 86, x 87, x 88, x 89, x 90, x 91, x 92, x 93, x 94, x 95, x 96, x 97, x 98, x 99, x 100, x 101, x 102, x 103, x 104, x 105, x 106, x 107, x 108, x 109, x 110, x 111, x 112, x 113, x 114, x 115, x 116, x 117, x 118, x 119, x 120, x 121, x 122, x 123, x 124, x 125, x 126, x 127, x 128, x 129, x 130, x 131], []⟩ : Act) from rfl]
      rw [ed124, ed127, eq126]
      clear ed124 ed127 eq126
      go_wp2_with fail
      refine (qcmp_any sh Ah nh ch th Bh mh dh _ s2 A2 n2 c2 t2 B2 m2 d2 _ wx (Qh.out.arg (sz_small (z := nq) (by omega) (by omega)) (by omega)) ⟨(H2.out.ext (Ext.trans Ew1.out (Ext.trans Ew2.out (Ext.trans Ew3.out (Ext.trans Ew4.out (Ext.trans Ew5.out (Ext.trans Ew6.out (Ext.trans Ew7.out (Ext.trans Ew8.out (Ext.trans Ew9.out (Ext.trans Ew10.out (Ext.trans Ew11.out (Ext.trans Ew12.out (Ext.trans Ew13.out (Ext.trans Ew14.out (Ext.trans Ew15.out (Ext.trans Ew16.out (Ext.trans NJ1.out (Ext.trans Ew23.out (Ext.trans Ew24.out (Ext.trans NJ2.out (Ext.trans Ew35.out (Ext.trans NJ3.out (Ext.trans Ew48.out (Ext.trans Ew51.out HX.out))))))))))))))))))))))))), by omega, by omega⟩).mono ?_
      rintro e wy ⟨rfl, hE⟩
      rw [Hzz.out]
      go_wp2_with fail
      exact ⟨.int .i64 zz, rfl, hE, rfl⟩
    | 15, _ =>
      refine ⟨fun o ho x wx hE hF hd => ?_⟩
      obtain rfl := Option.some.inj ho
      clear ho
      have ed124 : x 124 = (.bool false) := hd 10 (by decide +kernel) _ _ rfl rfl
      have ed128 : x 128 = (.int .i64 zz) := hd 14 (by decide +kernel) _ _ rfl rfl
      clear hd hF
      have HX := Lib.hid hE
      clear hE
      rw [show actOf _ x = (⟨#[x 0, x 1, x 2, x 3, x 4, x 5, x 6, x 7, x 8, x 9, x 10, x 11, x 12, x 13, x 14, x 15, x 16, x 17, x 18, x 19, x 20, x 21, x 22, x 23, x 24, x 25, x 26, x 27, x 28, x 29, x 30, x 31, x 32, x 33, x 34, x 35, x 36, x 37, x 38, x 39, x 40, x 41, x 42, x 43, x 44, x 45, x 46, x 47, x 48, x 49, x 50, x 51, x 52, x 53, x 54, x 55, x 56, x 57, x 58, x 59, x 60, x 61, x 62, x 63, x 64, x 65, x 66, x 67, x 68, x 69, x 70, x 71, x 72, x 73, x 74, x 75, x 76, x 77, x 78, x 79, x 80, x 81, x 82, x 83, x 84, x 85, x 86, x 87, x 88, x 89, x 90, x 91, x 92, x 93, x 94, x 95, x 96, x 97, x 98, x 99, x 100, x 101, x 102, x 103, x 104, x 105, x 106, x 107, x 108, x 109, x 110, x 111, x 112, x 113, x 114, x 115, x 116, x 117, x 118, x 119, x 120, x 121, x 122, x 123, x 124, x 125, x 126, x 127, x 128, x 129, x 130, x 131], []⟩ : Act) from rfl]
      rw [ed124, ed128]
      clear ed124 ed128
      go_wp2_with fail
      exact ⟨.bool true, rfl, Ext.rfl', rfl⟩
    | 16, _ =>
      refine ⟨fun o ho x wx hE hF hd => ?_⟩
      obtain rfl := Option.some.inj ho
      clear ho
      have ed121 : x 121 = (.bool true) := hd 7 (by decide +kernel) _ _ rfl rfl
      have ed124 : x 124 = (.bool false) := hd 10 (by decide +kernel) _ _ rfl rfl
      have ed129 : x 129 = (.bool true) := hd 15 (by decide +kernel) _ _ rfl rfl
      clear hd hF
      have HX := Lib.hid hE
      clear hE
      rw [show actOf _ x = (⟨#[x 0, x 1, x 2, x 3, x 4, x 5, x 6, x 7, x 8, x 9, x 10, x 11, x 12, x 13, x 14, x 15, x 16, x 17, x 18, x 19, x 20, x 21, x 22, x 23, x 24, x 25, x 26, x 27, x 28, x 29, x 30, x 31, x 32, x 33, x 34, x 35, x 36, x 37, x 38, x 39, x 40, x 41, x 42, x 43, x 44, x 45, x 46, x 47, x 48, x 49, x 50, x 51, x 52, x 53, x 54, x 55, x 56, x 57, x 58, x 59, x 60, x 61, x 62, x 63, x 64, x 65, x 66, x 67, x 68, x 69, x 70, x 71, x 72, x 73, x 74, x 75, x 76, x 77, x 78, x 79, x 80, x 81, x 82, x 83, x 84, x 85, x 86, x 87, x 88, x 89, x 90, x 91, x 92, x 93, x 94, x 95, x 96, x 97, x 98, x 99, x 100, x 101, x 102, x 103, x 104, x 105, x 106, x 107, x 108, x 109, x 110, x 111, x 112, x 113, x 114, x 115, x 116, x 117, x 118, x 119, x 120, x 121, x 122, x 123, x 124, x 125, x 126, x 127, x 128, x 129, x 130, x 131], []⟩ : Act) from rfl]
      rw [ed121, ed124, ed129]
      clear ed121 ed124 ed129
      go_wp2_with fail
      exact ⟨.bool true, rfl, Ext.rfl', rfl⟩
    | 17, _ =>
      refine ⟨fun o ho x wx hE hF hd => ?_⟩
      obtain rfl := Option.some.inj ho
      clear ho
      have ed121 : x 121 = (.bool true) := hd 7 (by decide +kernel) _ _ rfl rfl
      have ed130 : x 130 = (.bool true) := hd 16 (by decide +kernel) _ _ rfl rfl
      clear hd hF
      have HX := Lib.hid hE
      clear hE
      rw [show actOf _ x = (⟨#[x 0, x 1, x 2, x 3, x 4, x 5, x 6, x 7, x 8, x 9, x 10, x 11, x 12, x 13, x 14, x 15, x 16, x 17, x 18, x 19, x 20, x 21, x 22, x 23, x 24, x 25, x 26, x 27, x 28, x 29, x 30, x 31, x 32, x 33, x 34, x 35, x 36, x 37, x 38, x 39, x 40, x 41, x 42, x 43, x 44, x 45, x 46, x 47, x 48, x 49, x 50, x 51, x 52, x 53, x 54, x 55, x 56, x 57, x 58, x 59, x 60, x 61, x 62, x 63, x 64, x 65, x 66, x 67, x 68, x 69, x 70, x 71, x 72, x 73, x 74, x 75, x 76, x 77, x 78, x 79, x 80, x 81, x 82, x 83, x 84, x 85, x 86, x 87, x 88, x 89, x 90, x 91, x 92, x 93, x 94, x 95, x 96, x 97, x 98, x 99, x 100, x 101, x 102, x 103, x 104, x 105, x 106, x 107, x 108, x 109, x 110, x 111, x 112, x 113, x 114, x 115, x 116, x 117, x 118, x 119, x 120, x 121, x 122, x 123, x 124, x 125, x 126, x 127, x 128, x 129, x 130, x 131], []⟩ : Act) from rfl]
      rw [ed121, ed130]
      clear ed121 ed130
      go_wp2_with fail
      exact ⟨.bool true, rfl, Ext.rfl', rfl⟩
    | 18, _ =>
      refine ⟨fun o ho x wx hE hF hd => ?_⟩
      obtain rfl := Option.some.inj ho
      clear ho
      have ed131 : x 131 = (.bool true) := hd 17 (by decide +kernel) _ _ rfl rfl
      clear hd hF
      have HX := Lib.hid hE
      clear hE
      rw [show actOf _ x = (⟨#[x 0, x 1, x 2, x 3, x 4, x 5, x 6, x 7, x 8, x 9, x 10, x 11, x 12, x 13, x 14, x 15, x 16, x 17, x 18, x 19, x 20, x 21, x 22, x 23, x 24, x 25, x 26, x 27, x 28, x 29, x 30, x 31, x 32, x 33, x 34, x 35, x 36, x 37, x 38, x 39, x 40, x 41, x 42, x 43, x 44, x 45, x 46, x 47, x 48, x 49, x 50, x 51, x 52, x 53, x 54, x 55, x 56, x 57, x 58, x 59, x 60, x 61, x 62, x 63, x 64, x 65, x 66, x 67, x 68, x 69, x 70, x 71, x 72, x 73, x 74, x 75, x 76, x 77, x 78, x 79, x 80, x 81, x 82, x 83, x 84, x 85, x 86, x 87, x 88, x 89, x 90, x 91, x 92, x 93, x 94, x 95, x 96, x 97, x 98, x 99, x 100, x 101, x 102, x 103, x 104, x 105, x 106, x 107, x 108, x 109, x 110, x 111, x 112, x 113, x 114, x 115, x 116, x 117, x 118, x 119, x 120, x 121, x 122, x 123, x 124, x 125, x 126, x 127, x 128, x 129, x 130, x 131], []⟩ : Act) from rfl]
      rw [ed131]
      clear ed131
      go_wp2_with fail
      exact ⟨.bool true, rfl, Ext.rfl', rfl⟩
    | k + 19, h => exact absurd h (by simp)
  intro x w52 hE hF hV
  have ez6 : x 6 = (.bool true) := hV 18 _ _ rfl rfl
  clear hV hF
  have Ew52 := Lib.hid hE
  clear hE
  rw [show actOf _ x = (⟨#[x 0, x 1, x 2, x 3, x 4, x 5, x 6, x 7, x 8, x 9, x 10, x 11, x 12, x 13, x 14, x 15, x 16, x 17, x 18, x 19, x 20, x 21, x 22, x 23, x 24, x 25, x 26, x 27, x 28, x 29, x 30, x 31, x 32, x 33, x 34, x 35, x 36, x 37, x 38, x 39, x 40, x 41, x 42, x 43, x 44, x 45, x 46, x 47, x 48, x 49, x 50, x 51, x 52, x 53, x 54, x 55, x 56, x 57, x 58, x 59, x 60, x 61, x 62, x 63, x 64, x 65, x 66, x 67, x 68, x 69, x 70, x 71, x 72, x 73, x 74, x 75, x 76, x 77, x 78, x 79, x 80, x 81, x 82, x 83, x 84, x 85, x 86, x 87, x 88, x 89, x 90, x 91, x 92, x 93, x 94, x 95, x 96, x 97, x 98, x 99, x 100, x 101, x 102, x 103, x 104, x 105, x 106, x 107, x 108, x 109, x 110, x 111, x 112, x 113, x 114, x 115, x 116, x 117, x 118, x 119, x 120, x 121, x 122, x 123, x 124, x 125, x 126, x 127, x 128, x 129, x 130, x 131], []⟩ : Act) from rfl, ez6]
  clear ez6
  go_wp2_with fail
  go_ret
  exact ⟨rfl, (Ext.trans Ew1.out (Ext.trans Ew2.out (Ext.trans Ew3.out (Ext.trans Ew4.out (Ext.trans Ew5.out (Ext.trans Ew6.out (Ext.trans Ew7.out (Ext.trans Ew8.out (Ext.trans Ew9.out (Ext.trans Ew10.out (Ext.trans Ew11.out (Ext.trans Ew12.out (Ext.trans Ew13.out (Ext.trans Ew14.out (Ext.trans Ew15.out (Ext.trans Ew16.out (Ext.trans NJ1.out (Ext.trans Ew23.out (Ext.trans Ew24.out (Ext.trans NJ2.out (Ext.trans Ew35.out (Ext.trans NJ3.out (Ext.trans Ew48.out (Ext.trans Ew51.out Ew52.out))))))))))))))))))))))))⟩
end Go.Proofs.Ytjinpfnefeiooaa
