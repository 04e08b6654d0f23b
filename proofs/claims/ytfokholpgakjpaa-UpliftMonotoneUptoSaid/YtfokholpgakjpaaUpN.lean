/- The walk of the law UpliftMonotone. Printed by gen_upn.py. -/
import Derived.Test.YtfokholpgakjpaaUpX
import Derived.Test.YtfokholpgakjpaaLexW
namespace Go.Proofs.Ytfokholpgakjpaa
open Go.RowKit

/-- Kinds of values that new memory does not turn. -/
inductive UK where
  | is (v : Value)
  | q (r : Rat)
  | row (ps : List Rat)
  | made (f : Nat → Rat)
def UK.holds : UK → Value → World → Prop
  | .is v0, v, _ => v = v0
  | .q r, v, w => ∃ s A n c t B m d, v = .agg #[.bool s, .slice A n c, .bool t, .slice B m d] ∧ QIs w s A n c t B m d r ∧ n ≤ 1048576 ∧ m ≤ 1048576
  | .row ps, v, w => ∃ g, v = .slice (some ⟨g, 0, none⟩) 3 3 ∧ QsK 1048576 w (some ⟨g, 0, none⟩) 3 ps
  | .made f, v, w => ∃ g, v = .slice (some ⟨g, 0, none⟩) 3 3 ∧ PartsAt w 0 g 3 3 f
theorem UK.mono {k : UK} {v : Value} {w w' : World} (h : k.holds v w) (hE : Ext w w') : k.holds v w' := by
  cases k with
  | is v0 => exact h
  | q r => obtain ⟨s, A, n, c, t, B, m, d, h1, h2, h3⟩ := h; exact ⟨s, A, n, c, t, B, m, d, h1, h2.ext hE, h3⟩
  | row ps => obtain ⟨g, h1, h2⟩ := h; exact ⟨g, h1, h2.ext hE⟩
  | made f => obtain ⟨g, h1, h2⟩ := h; exact ⟨g, h1, h2.ext hE⟩
/-- A literal of three rationals. -/
theorem lit3U {w : World} {s1 : Bool} {A1 : Option Addr} {n1 c1 : Nat} {t1 : Bool} {B1 : Option Addr} {m1 d1 : Nat} {p1 : Rat} {s2 : Bool} {A2 : Option Addr} {n2 c2 : Nat} {t2 : Bool} {B2 : Option Addr} {m2 d2 : Nat} {p2 : Rat} {s3 : Bool} {A3 : Option Addr} {n3 c3 : Nat} {t3 : Bool} {B3 : Option Addr} {m3 d3 : Nat} {p3 : Rat} (t : TypeId) (h1 : QIs w s1 A1 n1 c1 t1 B1 m1 d1 p1) (a1 : n1 ≤ 1048576) (b1 : m1 ≤ 1048576) (h2 : QIs w s2 A2 n2 c2 t2 B2 m2 d2 p2) (a2 : n2 ≤ 1048576) (b2 : m2 ≤ 1048576) (h3 : QIs w s3 A3 n3 c3 t3 B3 m3 d3 p3) (a3 : n3 ≤ 1048576) (b3 : m3 ≤ 1048576) :
    QsK 1048576 (w.alloc (.cells #[.bool s1, .slice A1 n1 c1, .bool t1, .slice B1 m1 d1, .bool s2, .slice A2 n2 c2, .bool t2, .slice B2 m2 d2, .bool s3, .slice A3 n3 c3, .bool t3, .slice B3 m3 d3] t)) (some ⟨w.heap.size, 0, none⟩) 3 [p1, p2, p3] := by
  have hE : Ext w (w.alloc (.cells #[.bool s1, .slice A1 n1 c1, .bool t1, .slice B1 m1 d1, .bool s2, .slice A2 n2 c2, .bool t2, .slice B2 m2 d2, .bool s3, .slice A3 n3 c3, .bool t3, .slice B3 m3 d3] t)) := Ext.al Ext.rfl' _
  have hb := Blk.new w t #[.bool s1, .slice A1 n1 c1, .bool t1, .slice B1 m1 d1, .bool s2, .slice A2 n2 c2, .bool t2, .slice B2 m2 d2, .bool s3, .slice A3 n3 c3, .bool t3, .slice B3 m3 d3]
  refine ⟨rfl, fun _ => ⟨w.heap.size, 0, rfl, hb.lt, fun i hi => ?_⟩⟩
  have : i = 0 ∨ i = 1 ∨ i = 2 := by omega
  rcases this with rfl | rfl | rfl
  · exact ⟨s1, A1, n1, c1, t1, B1, m1, d1, by rw [hb.cell]; rfl, by rw [hb.cell]; rfl, by rw [hb.cell]; rfl, by rw [hb.cell]; rfl, h1.ext hE, a1, b1⟩
  · exact ⟨s2, A2, n2, c2, t2, B2, m2, d2, by rw [hb.cell]; rfl, by rw [hb.cell]; rfl, by rw [hb.cell]; rfl, by rw [hb.cell]; rfl, h2.ext hE, a2, b2⟩
  · exact ⟨s3, A3, n3, c3, t3, B3, m3, d3, by rw [hb.cell]; rfl, by rw [hb.cell]; rfl, by rw [hb.cell]; rfl, by rw [hb.cell]; rfl, h3.ext hE, a3, b3⟩
set_option maxRecDepth 100000 in
set_option maxHeartbeats 32000000 in
theorem monotone_any (s1 : Bool) (A1 : Option Addr) (n1 c1 : Nat) (t1 : Bool) (B1 : Option Addr) (m1 d1 : Nat) (p : Rat) (s2 : Bool) (A2 : Option Addr) (n2 c2 : Nat) (t2 : Bool) (B2 : Option Addr) (m2 d2 : Nat) (q : Rat) (s3 : Bool) (A3 : Option Addr) (n3 c3 : Nat) (t3 : Bool) (B3 : Option Addr) (m3 d3 : Nat) (r : Rat) (w : World) (h1 : QIs w s1 A1 n1 c1 t1 B1 m1 d1 p) (h2 : QIs w s2 A2 n2 c2 t2 B2 m2 d2 q) (h3 : QIs w s3 A3 n3 c3 t3 B3 m3 d3 r) (hb : n1 + m1 + n2 + m2 + n3 + m3 + 3 ≤ 1048576) :
    Calls Try.prog 4 #[.agg #[.bool s1, .slice A1 n1 c1, .bool t1, .slice B1 m1 d1], .agg #[.bool s2, .slice A2 n2 c2, .bool t2, .slice B2 m2 d2], .agg #[.bool s3, .slice A3 n3 c3, .bool t3, .slice B3 m3 d3]] w fun e w' => e = .returned (.bool true) ∧ Ext w w' := by
  have H1 := Lib.hid h1
  have H2 := Lib.hid h2
  have H3 := Lib.hid h3
  have HZ1 : Hid (Sz (n1 + m1 + 1) p) := h1.sz (by omega) (by omega) (by omega)
  have HZ2 : Hid (Sz (n2 + m2 + 1) q) := h2.sz (by omega) (by omega) (by omega)
  have HZ3 : Hid (Sz (n3 + m3 + 1) r) := h3.sz (by omega) (by omega) (by omega)
  have HB := Lib.hid hb
  clear h1 h2 h3 hb
  go_enter Try.func4, Try.ntmps4
  go_wp2_with fail
  have k0 := Cell4.new (w) (w.heap.size) (by simp) (.bool s1) (.slice A1 n1 c1) (.bool t1) (.slice B1 m1 d1) 30
  have k1 := Cell4.new ((w).alloc (.cells #[.bool s1, .slice A1 n1 c1, .bool t1, .slice B1 m1 d1] 30)) (w.heap.size + 1) (by simp) (.bool s2) (.slice A2 n2 c2) (.bool t2) (.slice B2 m2 d2) 30
  have k2 := Cell4.new (((w).alloc (.cells #[.bool s1, .slice A1 n1 c1, .bool t1, .slice B1 m1 d1] 30)).alloc (.cells #[.bool s2, .slice A2 n2 c2, .bool t2, .slice B2 m2 d2] 30)) (w.heap.size + 1 + 1) (by simp) (.bool s3) (.slice A3 n3 c3) (.bool t3) (.slice B3 m3 d3) 30
  have hE : Ext w ((((w).alloc (.cells #[.bool s1, .slice A1 n1 c1, .bool t1, .slice B1 m1 d1] 30)).alloc (.cells #[.bool s2, .slice A2 n2 c2, .bool t2, .slice B2 m2 d2] 30)).alloc (.cells #[.bool s3, .slice A3 n3 c3, .bool t3, .slice B3 m3 d3] 30)) := (Ext.al (Ext.al (Ext.al Ext.rfl' _) _) _)
  have k0 := k0.ext (show Ext ((w).alloc (.cells #[.bool s1, .slice A1 n1 c1, .bool t1, .slice B1 m1 d1] 30)) ((((w).alloc (.cells #[.bool s1, .slice A1 n1 c1, .bool t1, .slice B1 m1 d1] 30)).alloc (.cells #[.bool s2, .slice A2 n2 c2, .bool t2, .slice B2 m2 d2] 30)).alloc (.cells #[.bool s3, .slice A3 n3 c3, .bool t3, .slice B3 m3 d3] 30)) from (Ext.al (Ext.al Ext.rfl' _) _))
  have k1 := k1.ext (show Ext (((w).alloc (.cells #[.bool s1, .slice A1 n1 c1, .bool t1, .slice B1 m1 d1] 30)).alloc (.cells #[.bool s2, .slice A2 n2 c2, .bool t2, .slice B2 m2 d2] 30)) ((((w).alloc (.cells #[.bool s1, .slice A1 n1 c1, .bool t1, .slice B1 m1 d1] 30)).alloc (.cells #[.bool s2, .slice A2 n2 c2, .bool t2, .slice B2 m2 d2] 30)).alloc (.cells #[.bool s3, .slice A3 n3 c3, .bool t3, .slice B3 m3 d3] 30)) from (Ext.al Ext.rfl' _))
  have hsz : ((((w).alloc (.cells #[.bool s1, .slice A1 n1 c1, .bool t1, .slice B1 m1 d1] 30)).alloc (.cells #[.bool s2, .slice A2 n2 c2, .bool t2, .slice B2 m2 d2] 30)).alloc (.cells #[.bool s3, .slice A3 n3 c3, .bool t3, .slice B3 m3 d3] 30)).heap.size = w.heap.size + 1 + 1 + 1 := by simp
  generalize (((w).alloc (.cells #[.bool s1, .slice A1 n1 c1, .bool t1, .slice B1 m1 d1] 30)).alloc (.cells #[.bool s2, .slice A2 n2 c2, .bool t2, .slice B2 m2 d2] 30)).alloc (.cells #[.bool s3, .slice A3 n3 c3, .bool t3, .slice B3 m3 d3] 30) = w1 at *
  have SZw1 := Lib.hid hsz
  clear hsz
  have Ew1 := Lib.hid hE
  clear hE
  have Kx := Lib.hid k0
  clear k0
  have Ky := Lib.hid k1
  clear k1
  have Kz := Lib.hid k2
  clear k2
  try rw [← SZw1.out]
  try simp only [← SZw1.out]
  have hq3 := lit3U 30 (H1.out.ext Ew1.out) (by have := HB.out; omega) (by have := HB.out; omega) (H2.out.ext Ew1.out) (by have := HB.out; omega) (by have := HB.out; omega) (H3.out.ext Ew1.out) (by have := HB.out; omega) (by have := HB.out; omega)
  have hlr := lrows1 (c1 := 3) 22 (by omega) hq3 (by simp [maxLen])
  rw [show (w1.alloc (.cells #[.bool s1, .slice A1 n1 c1, .bool t1, .slice B1 m1 d1, .bool s2, .slice A2 n2 c2, .bool t2, .slice B2 m2 d2, .bool s3, .slice A3 n3 c3, .bool t3, .slice B3 m3 d3] 30)).heap.size = w1.heap.size + 1 by simp] at hlr
  have hE : Ext w1 ((w1.alloc (.cells #[.bool s1, .slice A1 n1 c1, .bool t1, .slice B1 m1 d1, .bool s2, .slice A2 n2 c2, .bool t2, .slice B2 m2 d2, .bool s3, .slice A3 n3 c3, .bool t3, .slice B3 m3 d3] 30)).alloc (.cells #[.slice (some ⟨w1.heap.size, 0, none⟩) 3 3] 22)) := Ext.al (Ext.al Ext.rfl' _) _
  generalize ((w1.alloc (.cells #[.bool s1, .slice A1 n1 c1, .bool t1, .slice B1 m1 d1, .bool s2, .slice A2 n2 c2, .bool t2, .slice B2 m2 d2, .bool s3, .slice A3 n3 c3, .bool t3, .slice B3 m3 d3] 30)).alloc (.cells #[.slice (some ⟨w1.heap.size, 0, none⟩) 3 3] 22)) = wl at *
  have HLR := Lib.hid hlr
  clear hlr hq3
  have Ewl := Lib.hid hE
  clear hE
  refine (long33_any (w1.heap.size + 1) 1 1 _ (fun _ => 3) _ wl HLR.out (by omega)).mono ?_
  rintro e w2 ⟨⟨bl, rfl, -⟩, hE⟩
  have Ew2 := Lib.hid hE
  clear hE
  clear HLR
  cases bl
  rotate_left
  · skip
    go_wp2_with fail
    refine (awake_any w2).mono ?_
    rintro e wz ⟨rfl, hEz⟩
    go_wp2_with fail
    go_ret
    exact ⟨rfl, Ext.trans (Ext.trans Ew1.out (Ext.trans Ewl.out Ew2.out)) hEz⟩
  obtain ⟨⟨xz0, xz1, xz2, xz3⟩, -, zz⟩ := (Kz.out.ext (Ext.trans Ewl.out Ew2.out))
  go_wp2_with fail
  clear xz0 xz1 xz2 xz3 zz
  refine (qsign_any s3 A3 n3 c3 t3 B3 m3 d3 _ w2 (H3.out.ext (Ext.trans Ew1.out (Ext.trans Ewl.out Ew2.out)))).mono ?_
  rintro e w3 ⟨rfl, hE⟩
  have Ew3 := Lib.hid hE
  clear hE
  have HS1 := Lib.hid (sign_lt r)
  obtain ⟨sg, hsg⟩ : ∃ x, r.num.sign = x := ⟨_, rfl⟩
  rw [hsg] at HS1 ⊢
  clear hsg
  by_cases hr0 : r < 0
  · have hb1 : decide (sg < 0) = true := decide_eq_true (HS1.out.2 hr0)
    clear hr0
    go_wp2_with fail
    refine (awake_any w3).mono ?_
    rintro e wz ⟨rfl, hEz⟩
    go_wp2_with fail
    go_ret
    exact ⟨rfl, Ext.trans (Ext.trans Ew1.out (Ext.trans Ewl.out (Ext.trans Ew2.out Ew3.out))) hEz⟩
  have hb1 : decide (sg < 0) = false := decide_eq_false (fun e => hr0 (HS1.out.1 e))
  have HR0 := Lib.hid (Rat.not_lt.1 hr0)
  clear hr0
  go_wp2_with fail
  refine (awake_any w3).mono ?_
  rintro e w4 ⟨rfl, hE⟩
  have Ew4 := Lib.hid hE
  clear hE
  obtain ⟨⟨xy0, xy1, xy2, xy3⟩, -, zy⟩ := (Ky.out.ext (Ext.trans Ewl.out (Ext.trans Ew2.out (Ext.trans Ew3.out Ew4.out))))
  obtain ⟨⟨xz0, xz1, xz2, xz3⟩, -, zz⟩ := (Kz.out.ext (Ext.trans Ewl.out (Ext.trans Ew2.out (Ext.trans Ew3.out Ew4.out))))
  go_wp2_with fail
  clear xy0 xy1 xy2 xy3 zy xz0 xz1 xz2 xz3 zz
  refine (qadd_any s2 A2 n2 c2 t2 B2 m2 d2 q s3 A3 n3 c3 t3 B3 m3 d3 r w4 ⟨(H2.out.ext (Ext.trans Ew1.out (Ext.trans Ewl.out (Ext.trans Ew2.out (Ext.trans Ew3.out Ew4.out))))), by have := HB.out; omega, by have := HB.out; omega⟩ ⟨(H3.out.ext (Ext.trans Ew1.out (Ext.trans Ewl.out (Ext.trans Ew2.out (Ext.trans Ew3.out Ew4.out))))), by have := HB.out; omega, by have := HB.out; omega⟩).mono ?_
  rintro e w5 ⟨sg, Ag, ng, cg, tg, Bg, mg, dg, rfl, hQ, hE⟩
  have Ew5 := Lib.hid hE
  clear hE
  have Qg := Lib.hid hQ
  clear hQ
  have hlg := Qg.out.len (HZ2.out.add HZ3.out)
  have HLG : Hid (ng ≤ 1048576 ∧ mg ≤ 1048576) := ⟨Nat.le_trans hlg.1 (by have := HB.out; omega), Nat.le_trans hlg.2 (by have := HB.out; omega)⟩
  clear hlg
  go_wp2_with fail
  have kw6 := Cell4.new w5 _ rfl (.bool sg) (.slice Ag ng cg) (.bool tg) (.slice Bg mg dg) 30
  have hE : Ext w5 (w5.alloc (.cells #[.bool sg, .slice Ag ng cg, .bool tg, .slice Bg mg dg] 30)) := Ext.al Ext.rfl' _
  generalize w5.alloc (.cells #[.bool sg, .slice Ag ng cg, .bool tg, .slice Bg mg dg] 30) = w6 at *
  have Ew6 := Lib.hid hE
  clear hE
  have Kg := Lib.hid kw6
  clear kw6
  have hE : Ext w6 w6.drew := Ext.rfl'.drew
  refine wp_region_free (fun i => (([(.is (.agg #[.bool s1, .slice A1 n1 c1, .bool t1, .slice B1 m1 d1])), (.is (.agg #[.bool s1, .slice A1 n1 c1, .bool t1, .slice B1 m1 d1])), (.is (.agg #[.bool s1, .slice A1 n1 c1, .bool t1, .slice B1 m1 d1])), (.is (.agg #[.bool s3, .slice A3 n3 c3, .bool t3, .slice B3 m3 d3])), (.q (p + r)), (.row [p, p, p + r]), (.is (.agg #[.bool s2, .slice A2 n2 c2, .bool t2, .slice B2 m2 d2])), (.is (.agg #[.bool sg, .slice Ag ng cg, .bool tg, .slice Bg mg dg])), (.is (.agg #[.bool sg, .slice Ag ng cg, .bool tg, .slice Bg mg dg])), (.row [q, q + r, q + r]), (.made (madeF [p, p, p + r] [q, q + r, q + r])), (.made (madeF [p, p, p + r] [q, q + r, q + r]))] : List UK).getD i (.is undef)).holds) (by kernel_rfl) (by kernel_rfl) (fun _ _ _ _ h hE => UK.mono h hE) ?_ ?_
  all_goals generalize w6.drew = w7 at *
  all_goals have Ew7 := Lib.hid hE
  all_goals clear hE
  · intro i hi
    match i, hi with
    | 0, _ =>
      refine ⟨fun o ho x wx hE hF hd => ?_⟩
      obtain rfl := Option.some.inj ho
      clear ho
      have ef3 : x 3 = (.pointer (some ⟨w.heap.size, 0, none⟩)) := hF 3 (by decide +kernel)
      clear hd hF
      have HX := Lib.hid hE
      clear hE
      rw [show actOf _ x = (⟨#[x 0, x 1, x 2, x 3, x 4, x 5, x 6, x 7, x 8, x 9, x 10, x 11, x 12, x 13, x 14, x 15, x 16, x 17, x 18, x 19, x 20, x 21, x 22, x 23, x 24, x 25, x 26, x 27, x 28, x 29, x 30, x 31, x 32, x 33, x 34, x 35, x 36, x 37, x 38, x 39, x 40, x 41, x 42, x 43, x 44, x 45, x 46, x 47, x 48, x 49, x 50, x 51, x 52, x 53, x 54, x 55, x 56, x 57, x 58, x 59, x 60, x 61, x 62, x 63, x 64, x 65, x 66, x 67, x 68, x 69, x 70, x 71, x 72], []⟩ : Act) from rfl]
      rw [ef3]
      clear ef3
      obtain ⟨⟨xx0, xx1, xx2, xx3⟩, -, zx⟩ := (Kx.out.ext (Ext.trans Ewl.out (Ext.trans Ew2.out (Ext.trans Ew3.out (Ext.trans Ew4.out (Ext.trans Ew5.out (Ext.trans Ew6.out (Ext.trans Ew7.out HX.out))))))))
      go_wp2_with fail
      exact ⟨(.agg #[.bool s1, .slice A1 n1 c1, .bool t1, .slice B1 m1 d1]), rfl, Ext.rfl', rfl⟩
    | 1, _ =>
      refine ⟨fun o ho x wx hE hF hd => ?_⟩
      obtain rfl := Option.some.inj ho
      clear ho
      have ef3 : x 3 = (.pointer (some ⟨w.heap.size, 0, none⟩)) := hF 3 (by decide +kernel)
      clear hd hF
      have HX := Lib.hid hE
      clear hE
      rw [show actOf _ x = (⟨#[x 0, x 1, x 2, x 3, x 4, x 5, x 6, x 7, x 8, x 9, x 10, x 11, x 12, x 13, x 14, x 15, x 16, x 17, x 18, x 19, x 20, x 21, x 22, x 23, x 24, x 25, x 26, x 27, x 28, x 29, x 30, x 31, x 32, x 33, x 34, x 35, x 36, x 37, x 38, x 39, x 40, x 41, x 42, x 43, x 44, x 45, x 46, x 47, x 48, x 49, x 50, x 51, x 52, x 53, x 54, x 55, x 56, x 57, x 58, x 59, x 60, x 61, x 62, x 63, x 64, x 65, x 66, x 67, x 68, x 69, x 70, x 71, x 72], []⟩ : Act) from rfl]
      rw [ef3]
      clear ef3
      obtain ⟨⟨xx0, xx1, xx2, xx3⟩, -, zx⟩ := (Kx.out.ext (Ext.trans Ewl.out (Ext.trans Ew2.out (Ext.trans Ew3.out (Ext.trans Ew4.out (Ext.trans Ew5.out (Ext.trans Ew6.out (Ext.trans Ew7.out HX.out))))))))
      go_wp2_with fail
      exact ⟨(.agg #[.bool s1, .slice A1 n1 c1, .bool t1, .slice B1 m1 d1]), rfl, Ext.rfl', rfl⟩
    | 2, _ =>
      refine ⟨fun o ho x wx hE hF hd => ?_⟩
      obtain rfl := Option.some.inj ho
      clear ho
      have ef3 : x 3 = (.pointer (some ⟨w.heap.size, 0, none⟩)) := hF 3 (by decide +kernel)
      clear hd hF
      have HX := Lib.hid hE
      clear hE
      rw [show actOf _ x = (⟨#[x 0, x 1, x 2, x 3, x 4, x 5, x 6, x 7, x 8, x 9, x 10, x 11, x 12, x 13, x 14, x 15, x 16, x 17, x 18, x 19, x 20, x 21, x 22, x 23, x 24, x 25, x 26, x 27, x 28, x 29, x 30, x 31, x 32, x 33, x 34, x 35, x 36, x 37, x 38, x 39, x 40, x 41, x 42, x 43, x 44, x 45, x 46, x 47, x 48, x 49, x 50, x 51, x 52, x 53, x 54, x 55, x 56, x 57, x 58, x 59, x 60, x 61, x 62, x 63, x 64, x 65, x 66, x 67, x 68, x 69, x 70, x 71, x 72], []⟩ : Act) from rfl]
      rw [ef3]
      clear ef3
      obtain ⟨⟨xx0, xx1, xx2, xx3⟩, -, zx⟩ := (Kx.out.ext (Ext.trans Ewl.out (Ext.trans Ew2.out (Ext.trans Ew3.out (Ext.trans Ew4.out (Ext.trans Ew5.out (Ext.trans Ew6.out (Ext.trans Ew7.out HX.out))))))))
      go_wp2_with fail
      exact ⟨(.agg #[.bool s1, .slice A1 n1 c1, .bool t1, .slice B1 m1 d1]), rfl, Ext.rfl', rfl⟩
    | 3, _ =>
      refine ⟨fun o ho x wx hE hF hd => ?_⟩
      obtain rfl := Option.some.inj ho
      clear ho
      have ef5 : x 5 = (.pointer (some ⟨w.heap.size + 1 + 1, 0, none⟩)) := hF 5 (by decide +kernel)
      clear hd hF
      have HX := Lib.hid hE
      clear hE
      rw [show actOf _ x = (⟨#[x 0, x 1, x 2, x 3, x 4, x 5, x 6, x 7, x 8, x 9, x 10, x 11, x 12, x 13, x 14, x 15, x 16, x 17, x 18, x 19, x 20, x 21, x 22, x 23, x 24, x 25, x 26, x 27, x 28, x 29, x 30, x 31, x 32, x 33, x 34, x 35, x 36, x 37, x 38, x 39, x 40, x 41, x 42, x 43, x 44, x 45, x 46, x 47, x 48, x 49, x 50, x 51, x 52, x 53, x 54, x 55, x 56, x 57, x 58, x 59, x 60, x 61, x 62, x 63, x 64, x 65, x 66, x 67, x 68, x 69, x 70, x 71, x 72], []⟩ : Act) from rfl]
      rw [ef5]
      clear ef5
      obtain ⟨⟨xz0, xz1, xz2, xz3⟩, -, zz⟩ := (Kz.out.ext (Ext.trans Ewl.out (Ext.trans Ew2.out (Ext.trans Ew3.out (Ext.trans Ew4.out (Ext.trans Ew5.out (Ext.trans Ew6.out (Ext.trans Ew7.out HX.out))))))))
      go_wp2_with fail
      exact ⟨(.agg #[.bool s3, .slice A3 n3 c3, .bool t3, .slice B3 m3 d3]), rfl, Ext.rfl', rfl⟩
    | 4, _ =>
      refine ⟨fun o ho x wx hE hF hd => ?_⟩
      obtain rfl := Option.some.inj ho
      clear ho
      have ed30 : x 30 = (.agg #[.bool s1, .slice A1 n1 c1, .bool t1, .slice B1 m1 d1]) := hd 2 (by decide +kernel) _ _ rfl rfl
      have ed31 : x 31 = (.agg #[.bool s3, .slice A3 n3 c3, .bool t3, .slice B3 m3 d3]) := hd 3 (by decide +kernel) _ _ rfl rfl
      clear hd hF
      have HX := Lib.hid hE
      clear hE
      rw [show actOf _ x = (⟨#[x 0, x 1, x 2, x 3, x 4, x 5, x 6, x 7, x 8, x 9, x 10, x 11, x 12, x 13, x 14, x 15, x 16, x 17, x 18, x 19, x 20, x 21, x 22, x 23, x 24, x 25, x 26, x 27, x 28, x 29, x 30, x 31, x 32, x 33, x 34, x 35, x 36, x 37, x 38, x 39, x 40, x 41, x 42, x 43, x 44, x 45, x 46, x 47, x 48, x 49, x 50, x 51, x 52, x 53, x 54, x 55, x 56, x 57, x 58, x 59, x 60, x 61, x 62, x 63, x 64, x 65, x 66, x 67, x 68, x 69, x 70, x 71, x 72], []⟩ : Act) from rfl]
      rw [ed30, ed31]
      clear ed30 ed31
      go_wp2_with fail
      refine (qadd_any s1 A1 n1 c1 t1 B1 m1 d1 p s3 A3 n3 c3 t3 B3 m3 d3 r wx ⟨(H1.out.ext (Ext.trans Ew1.out (Ext.trans Ewl.out (Ext.trans Ew2.out (Ext.trans Ew3.out (Ext.trans Ew4.out (Ext.trans Ew5.out (Ext.trans Ew6.out (Ext.trans Ew7.out HX.out))))))))), by have := HB.out; omega, by have := HB.out; omega⟩ ⟨(H3.out.ext (Ext.trans Ew1.out (Ext.trans Ewl.out (Ext.trans Ew2.out (Ext.trans Ew3.out (Ext.trans Ew4.out (Ext.trans Ew5.out (Ext.trans Ew6.out (Ext.trans Ew7.out HX.out))))))))), by have := HB.out; omega, by have := HB.out; omega⟩).mono ?_
      rintro e wy ⟨sa, Aa, na, ca, ta, Ba, ma, da, rfl, hQ, hE⟩
      have HQ := Lib.hid hQ
      have hl := hQ.len (HZ1.out.add HZ3.out)
      have HL : Hid (na ≤ 1048576 ∧ ma ≤ 1048576) := ⟨Nat.le_trans hl.1 (by have := HB.out; omega), Nat.le_trans hl.2 (by have := HB.out; omega)⟩
      clear hQ hl
      go_wp2_with fail
      exact ⟨(.agg #[.bool sa, .slice Aa na ca, .bool ta, .slice Ba ma da]), rfl, hE, _, _, _, _, _, _, _, _, rfl, HQ.out.is, HL.out.1, HL.out.2⟩
    | 5, _ =>
      refine ⟨fun o ho x wx hE hF hd => ?_⟩
      obtain rfl := Option.some.inj ho
      clear ho
      have ed28 : x 28 = (.agg #[.bool s1, .slice A1 n1 c1, .bool t1, .slice B1 m1 d1]) := hd 0 (by decide +kernel) _ _ rfl rfl
      have ed29 : x 29 = (.agg #[.bool s1, .slice A1 n1 c1, .bool t1, .slice B1 m1 d1]) := hd 1 (by decide +kernel) _ _ rfl rfl
      obtain ⟨sa, Aa, na, ca, ta, Ba, ma, da, eq32, ha1, ha2, ha3⟩ : ((.q (p + r)) : UK).holds (x 32) wx := hd 4 (by decide +kernel) _ _ rfl rfl
      clear hd hF
      have HX := Lib.hid hE
      clear hE
      rw [show actOf _ x = (⟨#[x 0, x 1, x 2, x 3, x 4, x 5, x 6, x 7, x 8, x 9, x 10, x 11, x 12, x 13, x 14, x 15, x 16, x 17, x 18, x 19, x 20, x 21, x 22, x 23, x 24, x 25, x 26, x 27, x 28, x 29, x 30, x 31, x 32, x 33, x 34, x 35, x 36, x 37, x 38, x 39, x 40, x 41, x 42, x 43, x 44, x 45, x 46, x 47, x 48, x 49, x 50, x 51, x 52, x 53, x 54, x 55, x 56, x 57, x 58, x 59, x 60, x 61, x 62, x 63, x 64, x 65, x 66, x 67, x 68, x 69, x 70, x 71, x 72], []⟩ : Act) from rfl]
      rw [ed28, ed29, eq32]
      clear ed28 ed29 eq32
      have HA := Lib.hid (And.intro ha1 (And.intro ha2 ha3))
      clear ha1 ha2 ha3
      have hq3 := lit3U 30 (H1.out.ext (Ext.trans Ew1.out (Ext.trans Ewl.out (Ext.trans Ew2.out (Ext.trans Ew3.out (Ext.trans Ew4.out (Ext.trans Ew5.out (Ext.trans Ew6.out (Ext.trans Ew7.out HX.out))))))))) (by have := HB.out; omega) (by have := HB.out; omega) (H1.out.ext (Ext.trans Ew1.out (Ext.trans Ewl.out (Ext.trans Ew2.out (Ext.trans Ew3.out (Ext.trans Ew4.out (Ext.trans Ew5.out (Ext.trans Ew6.out (Ext.trans Ew7.out HX.out))))))))) (by have := HB.out; omega) (by have := HB.out; omega) HA.out.1 HA.out.2.1 HA.out.2.2
      have HQ3 := Lib.hid hq3
      clear hq3
      go_wp2_with fail
      exact ⟨_, rfl, Ext.al Ext.rfl' _, _, rfl, HQ3.out⟩
    | 6, _ =>
      refine ⟨fun o ho x wx hE hF hd => ?_⟩
      obtain rfl := Option.some.inj ho
      clear ho
      have ef4 : x 4 = (.pointer (some ⟨w.heap.size + 1, 0, none⟩)) := hF 4 (by decide +kernel)
      clear hd hF
      have HX := Lib.hid hE
      clear hE
      rw [show actOf _ x = (⟨#[x 0, x 1, x 2, x 3, x 4, x 5, x 6, x 7, x 8, x 9, x 10, x 11, x 12, x 13, x 14, x 15, x 16, x 17, x 18, x 19, x 20, x 21, x 22, x 23, x 24, x 25, x 26, x 27, x 28, x 29, x 30, x 31, x 32, x 33, x 34, x 35, x 36, x 37, x 38, x 39, x 40, x 41, x 42, x 43, x 44, x 45, x 46, x 47, x 48, x 49, x 50, x 51, x 52, x 53, x 54, x 55, x 56, x 57, x 58, x 59, x 60, x 61, x 62, x 63, x 64, x 65, x 66, x 67, x 68, x 69, x 70, x 71, x 72], []⟩ : Act) from rfl]
      rw [ef4]
      clear ef4
      obtain ⟨⟨xy0, xy1, xy2, xy3⟩, -, zy⟩ := (Ky.out.ext (Ext.trans Ewl.out (Ext.trans Ew2.out (Ext.trans Ew3.out (Ext.trans Ew4.out (Ext.trans Ew5.out (Ext.trans Ew6.out (Ext.trans Ew7.out HX.out))))))))
      go_wp2_with fail
      exact ⟨(.agg #[.bool s2, .slice A2 n2 c2, .bool t2, .slice B2 m2 d2]), rfl, Ext.rfl', rfl⟩
    | 7, _ =>
      refine ⟨fun o ho x wx hE hF hd => ?_⟩
      obtain rfl := Option.some.inj ho
      clear ho
      have ef7 : x 7 = (.pointer (some ⟨w5.heap.size, 0, none⟩)) := hF 7 (by decide +kernel)
      clear hd hF
      have HX := Lib.hid hE
      clear hE
      rw [show actOf _ x = (⟨#[x 0, x 1, x 2, x 3, x 4, x 5, x 6, x 7, x 8, x 9, x 10, x 11, x 12, x 13, x 14, x 15, x 16, x 17, x 18, x 19, x 20, x 21, x 22, x 23, x 24, x 25, x 26, x 27, x 28, x 29, x 30, x 31, x 32, x 33, x 34, x 35, x 36, x 37, x 38, x 39, x 40, x 41, x 42, x 43, x 44, x 45, x 46, x 47, x 48, x 49, x 50, x 51, x 52, x 53, x 54, x 55, x 56, x 57, x 58, x 59, x 60, x 61, x 62, x 63, x 64, x 65, x 66, x 67, x 68, x 69, x 70, x 71, x 72], []⟩ : Act) from rfl]
      rw [ef7]
      clear ef7
      obtain ⟨⟨xg0, xg1, xg2, xg3⟩, -, zg⟩ := (Kg.out.ext (Ext.trans Ew7.out HX.out))
      go_wp2_with fail
      exact ⟨(.agg #[.bool sg, .slice Ag ng cg, .bool tg, .slice Bg mg dg]), rfl, Ext.rfl', rfl⟩
    | 8, _ =>
      refine ⟨fun o ho x wx hE hF hd => ?_⟩
      obtain rfl := Option.some.inj ho
      clear ho
      have ef7 : x 7 = (.pointer (some ⟨w5.heap.size, 0, none⟩)) := hF 7 (by decide +kernel)
      clear hd hF
      have HX := Lib.hid hE
      clear hE
      rw [show actOf _ x = (⟨#[x 0, x 1, x 2, x 3, x 4, x 5, x 6, x 7, x 8, x 9, x 10, x 11, x 12, x 13, x 14, x 15, x 16, x 17, x 18, x 19, x 20, x 21, x 22, x 23, x 24, x 25, x 26, x 27, x 28, x 29, x 30, x 31, x 32, x 33, x 34, x 35, x 36, x 37, x 38, x 39, x 40, x 41, x 42, x 43, x 44, x 45, x 46, x 47, x 48, x 49, x 50, x 51, x 52, x 53, x 54, x 55, x 56, x 57, x 58, x 59, x 60, x 61, x 62, x 63, x 64, x 65, x 66, x 67, x 68, x 69, x 70, x 71, x 72], []⟩ : Act) from rfl]
      rw [ef7]
      clear ef7
      obtain ⟨⟨xg0, xg1, xg2, xg3⟩, -, zg⟩ := (Kg.out.ext (Ext.trans Ew7.out HX.out))
      go_wp2_with fail
      exact ⟨(.agg #[.bool sg, .slice Ag ng cg, .bool tg, .slice Bg mg dg]), rfl, Ext.rfl', rfl⟩
    | 9, _ =>
      refine ⟨fun o ho x wx hE hF hd => ?_⟩
      obtain rfl := Option.some.inj ho
      clear ho
      have ed34 : x 34 = (.agg #[.bool s2, .slice A2 n2 c2, .bool t2, .slice B2 m2 d2]) := hd 6 (by decide +kernel) _ _ rfl rfl
      have ed35 : x 35 = (.agg #[.bool sg, .slice Ag ng cg, .bool tg, .slice Bg mg dg]) := hd 7 (by decide +kernel) _ _ rfl rfl
      have ed36 : x 36 = (.agg #[.bool sg, .slice Ag ng cg, .bool tg, .slice Bg mg dg]) := hd 8 (by decide +kernel) _ _ rfl rfl
      clear hd hF
      have HX := Lib.hid hE
      clear hE
      rw [show actOf _ x = (⟨#[x 0, x 1, x 2, x 3, x 4, x 5, x 6, x 7, x 8, x 9, x 10, x 11, x 12, x 13, x 14, x 15, x 16, x 17, x 18, x 19, x 20, x 21, x 22, x 23, x 24, x 25, x 26, x 27, x 28, x 29, x 30, x 31, x 32, x 33, x 34, x 35, x 36, x 37, x 38, x 39, x 40, x 41, x 42, x 43, x 44, x 45, x 46, x 47, x 48, x 49, x 50, x 51, x 52, x 53, x 54, x 55, x 56, x 57, x 58, x 59, x 60, x 61, x 62, x 63, x 64, x 65, x 66, x 67, x 68, x 69, x 70, x 71, x 72], []⟩ : Act) from rfl]
      rw [ed34, ed35, ed36]
      clear ed34 ed35 ed36
      have hq3 := lit3U 30 (H2.out.ext (Ext.trans Ew1.out (Ext.trans Ewl.out (Ext.trans Ew2.out (Ext.trans Ew3.out (Ext.trans Ew4.out (Ext.trans Ew5.out (Ext.trans Ew6.out (Ext.trans Ew7.out HX.out))))))))) (by have := HB.out; omega) (by have := HB.out; omega) (Qg.out.ext (Ext.trans Ew6.out (Ext.trans Ew7.out HX.out))).is HLG.out.1 HLG.out.2 (Qg.out.ext (Ext.trans Ew6.out (Ext.trans Ew7.out HX.out))).is HLG.out.1 HLG.out.2
      have HQ3 := Lib.hid hq3
      clear hq3
      go_wp2_with fail
      exact ⟨_, rfl, Ext.al Ext.rfl' _, _, rfl, HQ3.out⟩
    | 10, _ =>
      refine ⟨fun o ho x wx hE hF hd => ?_⟩
      obtain rfl := Option.some.inj ho
      clear ho
      obtain ⟨ga, eq33, ha⟩ : ((.row [p, p, p + r]) : UK).holds (x 33) wx := hd 5 (by decide +kernel) _ _ rfl rfl
      obtain ⟨gb, eq37, hb⟩ : ((.row [q, q + r, q + r]) : UK).holds (x 37) wx := hd 9 (by decide +kernel) _ _ rfl rfl
      clear hd hF
      have HX := Lib.hid hE
      clear hE
      rw [show actOf _ x = (⟨#[x 0, x 1, x 2, x 3, x 4, x 5, x 6, x 7, x 8, x 9, x 10, x 11, x 12, x 13, x 14, x 15, x 16, x 17, x 18, x 19, x 20, x 21, x 22, x 23, x 24, x 25, x 26, x 27, x 28, x 29, x 30, x 31, x 32, x 33, x 34, x 35, x 36, x 37, x 38, x 39, x 40, x 41, x 42, x 43, x 44, x 45, x 46, x 47, x 48, x 49, x 50, x 51, x 52, x 53, x 54, x 55, x 56, x 57, x 58, x 59, x 60, x 61, x 62, x 63, x 64, x 65, x 66, x 67, x 68, x 69, x 70, x 71, x 72], []⟩ : Act) from rfl]
      rw [eq33, eq37]
      clear eq33 eq37
      have HA := Lib.hid (And.intro ha hb)
      clear ha hb
      go_wp2_with fail
      refine (made_any (some ⟨ga, 0, none⟩) 3 3 [p, p, p + r] (some ⟨gb, 0, none⟩) 3 3 [q, q + r, q + r] wx HA.out.1 HA.out.2 (by omega) (by omega)).mono ?_
      rintro e wy ⟨gM, rfl, -, hP, hE⟩
      have HP := Lib.hid (hP.baseU (Nat.zero_le _))
      clear hP
      go_wp2_with fail
      exact ⟨_, rfl, hE, gM, rfl, HP.out⟩
    | 11, _ =>
      refine ⟨fun o ho x wx hE hF hd => ?_⟩
      obtain rfl := Option.some.inj ho
      clear ho
      obtain ⟨gM, eq38, ha⟩ : ((.made (madeF [p, p, p + r] [q, q + r, q + r])) : UK).holds (x 38) wx := hd 10 (by decide +kernel) _ _ rfl rfl
      clear hd hF
      have HX := Lib.hid hE
      clear hE
      rw [show actOf _ x = (⟨#[x 0, x 1, x 2, x 3, x 4, x 5, x 6, x 7, x 8, x 9, x 10, x 11, x 12, x 13, x 14, x 15, x 16, x 17, x 18, x 19, x 20, x 21, x 22, x 23, x 24, x 25, x 26, x 27, x 28, x 29, x 30, x 31, x 32, x 33, x 34, x 35, x 36, x 37, x 38, x 39, x 40, x 41, x 42, x 43, x 44, x 45, x 46, x 47, x 48, x 49, x 50, x 51, x 52, x 53, x 54, x 55, x 56, x 57, x 58, x 59, x 60, x 61, x 62, x 63, x 64, x 65, x 66, x 67, x 68, x 69, x 70, x 71, x 72], []⟩ : Act) from rfl]
      rw [eq38]
      clear eq38
      have HA := Lib.hid ha
      clear ha
      go_wp2_with fail
      exact ⟨_, rfl, Ext.rfl', gM, rfl, HA.out⟩
    | k + 12, h => exact absurd h (by simp)
  intro x w8 hE hF hV
  obtain ⟨gM, ez8, hP⟩ : (UK.made (madeF [p, p, p + r] [q, q + r, q + r])).holds (x 8) w8 := hV 11 _ _ rfl rfl
  have ez5 : x 5 = (.pointer (some ⟨w.heap.size + 1 + 1, 0, none⟩)) := hF 5 (by decide +kernel)
  clear hV hF
  have Ew8 := Lib.hid hE
  clear hE
  rw [show actOf _ x = (⟨#[x 0, x 1, x 2, x 3, x 4, x 5, x 6, x 7, x 8, x 9, x 10, x 11, x 12, x 13, x 14, x 15, x 16, x 17, x 18, x 19, x 20, x 21, x 22, x 23, x 24, x 25, x 26, x 27, x 28, x 29, x 30, x 31, x 32, x 33, x 34, x 35, x 36, x 37, x 38, x 39, x 40, x 41, x 42, x 43, x 44, x 45, x 46, x 47, x 48, x 49, x 50, x 51, x 52, x 53, x 54, x 55, x 56, x 57, x 58, x 59, x 60, x 61, x 62, x 63, x 64, x 65, x 66, x 67, x 68, x 69, x 70, x 71, x 72], []⟩ : Act) from rfl, ez8, ez5]
  clear ez8 ez5
  have HL3 := Lib.hid (made_less (c := p) (r := q) (m := r) HR0.out)
  obtain ⟨sl0, Al0, nl0, cl0, tl0, Bl0, ml0, dl0, r0, r1, r2, r3, hq⟩ := hP.2 0 (by omega)
  have Ql0 := Lib.hid (show QCan w8 0 sl0 Al0 nl0 cl0 tl0 Bl0 ml0 dl0 (maxQ (p - q) 0) from hq)
  have Cl0 := Lib.hid (And.intro r0 (And.intro r1 (And.intro r2 r3)))
  clear r0 r1 r2 r3 hq
  obtain ⟨sl1, Al1, nl1, cl1, tl1, Bl1, ml1, dl1, r0, r1, r2, r3, hq⟩ := hP.2 1 (by omega)
  have Ql1 := Lib.hid (show QCan w8 0 sl1 Al1 nl1 cl1 tl1 Bl1 ml1 dl1 (maxQ (p - (q + r)) 0) from hq)
  have Cl1 := Lib.hid (And.intro r0 (And.intro r1 (And.intro r2 r3)))
  clear r0 r1 r2 r3 hq
  obtain ⟨sl2, Al2, nl2, cl2, tl2, Bl2, ml2, dl2, r0, r1, r2, r3, hq⟩ := hP.2 2 (by omega)
  have Ql2 := Lib.hid (show QCan w8 0 sl2 Al2 nl2 cl2 tl2 Bl2 ml2 dl2 (maxQ ((p + r) - (q + r)) 0) from hq)
  have Cl2 := Lib.hid (And.intro r0 (And.intro r1 (And.intro r2 r3)))
  clear r0 r1 r2 r3 hq
  clear hP
  have HM0 : Hid (Sz 2097154 (maxQ (p - q) 0)) := (sz_made (K := 1048576) (HZ1.out.mono (by have := HB.out; omega)) (HZ2.out.mono (by have := HB.out; omega))).mono (by omega)
  have HM1 : Hid (Sz 2097154 (maxQ (p - (q + r)) 0)) := (sz_made (K := 1048576) (HZ1.out.mono (by have := HB.out; omega)) ((HZ2.out.add HZ3.out).mono (by have := HB.out; omega))).mono (by omega)
  have HM2 : Hid (Sz 2097154 (maxQ ((p + r) - (q + r)) 0)) := (sz_made (K := 1048576) ((HZ1.out.add HZ3.out).mono (by have := HB.out; omega)) ((HZ2.out.add HZ3.out).mono (by have := HB.out; omega))).mono (by omega)
  obtain ⟨y0, hy0⟩ : ∃ v, maxQ (p - q) 0 = v := ⟨_, rfl⟩
  obtain ⟨y1, hy1⟩ : ∃ v, maxQ (p - (q + r)) 0 = v := ⟨_, rfl⟩
  obtain ⟨y2, hy2⟩ : ∃ v, maxQ ((p + r) - (q + r)) 0 = v := ⟨_, rfl⟩
  rw [hy0] at Ql0 HM0
  rw [hy1] at Ql1 HM1
  rw [hy2] at Ql2 HM2
  rw [hy0, hy1, hy2] at HL3
  clear hy0 hy1 hy2
  go_wp2_with fail
  refine wp_region_lexSW (C := InX w8.drew []) (by kernel_rfl) (by kernel_rfl) (inX_self _ _) ?_
  have hE : Ext w8 w8.drew := Ext.rfl'.drew
  generalize w8.drew = w9 at *
  have Ew9 := Lib.hid hE
  clear hE
  have fz0 := fun z : ExtX w9 [] => z.cell (p := ⟨w.heap.size + 1 + 1, 0, none⟩) (Kz.out.ext (Ext.trans Ewl.out (Ext.trans Ew2.out (Ext.trans Ew3.out (Ext.trans Ew4.out (Ext.trans Ew5.out (Ext.trans Ew6.out (Ext.trans Ew7.out (Ext.trans Ew8.out Ew9.out))))))))).1.1 (by simp)
  have fz1 := fun z : ExtX w9 [] => z.cell (p := ⟨w.heap.size + 1 + 1, 1, none⟩) (Kz.out.ext (Ext.trans Ewl.out (Ext.trans Ew2.out (Ext.trans Ew3.out (Ext.trans Ew4.out (Ext.trans Ew5.out (Ext.trans Ew6.out (Ext.trans Ew7.out (Ext.trans Ew8.out Ew9.out))))))))).1.2.1 (by simp)
  have fz2 := fun z : ExtX w9 [] => z.cell (p := ⟨w.heap.size + 1 + 1, 2, none⟩) (Kz.out.ext (Ext.trans Ewl.out (Ext.trans Ew2.out (Ext.trans Ew3.out (Ext.trans Ew4.out (Ext.trans Ew5.out (Ext.trans Ew6.out (Ext.trans Ew7.out (Ext.trans Ew8.out Ew9.out))))))))).1.2.2.1 (by simp)
  have fz3 := fun z : ExtX w9 [] => z.cell (p := ⟨w.heap.size + 1 + 1, 3, none⟩) (Kz.out.ext (Ext.trans Ewl.out (Ext.trans Ew2.out (Ext.trans Ew3.out (Ext.trans Ew4.out (Ext.trans Ew5.out (Ext.trans Ew6.out (Ext.trans Ew7.out (Ext.trans Ew8.out Ew9.out))))))))).1.2.2.2 (by simp)
  have fl00 := fun z : ExtX w9 [] => z.cell (p := ⟨gM, 0, none⟩) (Ext.cellOf Ew9.out Cl0.out.1) (by simp)
  have fl01 := fun z : ExtX w9 [] => z.cell (p := ⟨gM, 1, none⟩) (Ext.cellOf Ew9.out Cl0.out.2.1) (by simp)
  have fl02 := fun z : ExtX w9 [] => z.cell (p := ⟨gM, 2, none⟩) (Ext.cellOf Ew9.out Cl0.out.2.2.1) (by simp)
  have fl03 := fun z : ExtX w9 [] => z.cell (p := ⟨gM, 3, none⟩) (Ext.cellOf Ew9.out Cl0.out.2.2.2) (by simp)
  have fl10 := fun z : ExtX w9 [] => z.cell (p := ⟨gM, 4, none⟩) (Ext.cellOf Ew9.out Cl1.out.1) (by simp)
  have fl11 := fun z : ExtX w9 [] => z.cell (p := ⟨gM, 5, none⟩) (Ext.cellOf Ew9.out Cl1.out.2.1) (by simp)
  have fl12 := fun z : ExtX w9 [] => z.cell (p := ⟨gM, 6, none⟩) (Ext.cellOf Ew9.out Cl1.out.2.2.1) (by simp)
  have fl13 := fun z : ExtX w9 [] => z.cell (p := ⟨gM, 7, none⟩) (Ext.cellOf Ew9.out Cl1.out.2.2.2) (by simp)
  have fl20 := fun z : ExtX w9 [] => z.cell (p := ⟨gM, 8, none⟩) (Ext.cellOf Ew9.out Cl2.out.1) (by simp)
  have fl21 := fun z : ExtX w9 [] => z.cell (p := ⟨gM, 9, none⟩) (Ext.cellOf Ew9.out Cl2.out.2.1) (by simp)
  have fl22 := fun z : ExtX w9 [] => z.cell (p := ⟨gM, 10, none⟩) (Ext.cellOf Ew9.out Cl2.out.2.2.1) (by simp)
  have fl23 := fun z : ExtX w9 [] => z.cell (p := ⟨gM, 11, none⟩) (Ext.cellOf Ew9.out Cl2.out.2.2.2) (by simp)
  repeat (refine lexAt_still (by rfl) ?_; go_big_quiet_step (fail); refine wpQuiet_nil ?_)
  refine lexAt_move (by rfl) (by kernel_rfl) ?_
  go_wp2_with fail
  refine (qcmp_any sl1 Al1 nl1 cl1 tl1 Bl1 ml1 dl1 _ sl0 Al0 nl0 cl0 tl0 Bl0 ml0 dl0 _ w9 ((Ql1.out.ext Ew9.out).arg HM1.out (by omega)) ((Ql0.out.ext Ew9.out).arg HM0.out (by omega))).mono ?_
  rintro e w10 ⟨rfl, hE⟩
  have Ew10 := Lib.hid hE
  clear hE
  obtain ⟨ca, hca⟩ : ∃ x, cmpQ y1 y0 = x := ⟨_, rfl⟩
  rw [hca]
  have Hca := Lib.hid hca
  clear hca
  have hca : decide (ca ≤ 0) = true := by
    have hge := cmpQ_pos y1 y0
    rw [Hca.out] at hge
    exact decide_eq_true (by have : ¬ 0 < ca := fun e => Rat.not_lt.2 HL3.out.1 (hge.1 e); omega)
  go_wp2_with fail
  refine And.intro (inX_of_ext _ Ew10.out) ?_
  repeat (refine lexAt_still (by rfl) ?_; go_big_quiet_step (fail); refine wpQuiet_nil ?_)
  refine lexAt_move (by rfl) (by kernel_rfl) ?_
  go_wp2_with fail
  refine (qsub_any sl0 Al0 nl0 cl0 tl0 Bl0 ml0 dl0 _ sl1 Al1 nl1 cl1 tl1 Bl1 ml1 dl1 _ w10 ((Ql0.out.ext (Ext.trans Ew9.out Ew10.out)).arg HM0.out (by omega)) ((Ql1.out.ext (Ext.trans Ew9.out Ew10.out)).arg HM1.out (by omega))).mono ?_
  rintro e w11 ⟨su, Au, nu, cu, tu, Bu, mu, du, rfl, hQ, hE⟩
  have Ew11 := Lib.hid hE
  clear hE
  have Qu := Lib.hid hQ
  clear hQ
  go_wp2_with fail
  refine And.intro (inX_of_ext _ (Ext.trans Ew10.out Ew11.out)) ?_
  repeat (refine lexAt_still (by rfl) ?_; go_big_quiet_step (fail); refine wpQuiet_nil ?_)
  refine lexAt_move (by rfl) (by kernel_rfl) ?_
  go_wp2_with fail
  refine (qcmp_any su Au nu cu tu Bu mu du _ s3 A3 n3 c3 t3 B3 m3 d3 _ w11 (Qu.out.arg (HM0.out.sub HM1.out) (by omega)) ⟨(H3.out.ext (Ext.trans Ew1.out (Ext.trans Ewl.out (Ext.trans Ew2.out (Ext.trans Ew3.out (Ext.trans Ew4.out (Ext.trans Ew5.out (Ext.trans Ew6.out (Ext.trans Ew7.out (Ext.trans Ew8.out (Ext.trans Ew9.out (Ext.trans Ew10.out Ew11.out)))))))))))), by have := HB.out; omega, by have := HB.out; omega⟩).mono ?_
  rintro e w12 ⟨rfl, hE⟩
  have Ew12 := Lib.hid hE
  clear hE
  obtain ⟨cb, hcb⟩ : ∃ x, cmpQ (y0 - y1) r = x := ⟨_, rfl⟩
  rw [hcb]
  have Hcb := Lib.hid hcb
  clear hcb
  have hcb : decide (cb ≤ 0) = true := by
    have hge := cmpQ_pos (y0 - y1) r
    rw [Hcb.out] at hge
    exact decide_eq_true (by have : ¬ 0 < cb := fun e => Rat.not_lt.2 HL3.out.2.1 (hge.1 e); omega)
  go_wp2_with fail
  refine And.intro (inX_of_ext _ (Ext.trans Ew10.out (Ext.trans Ew11.out Ew12.out))) ?_
  repeat (refine lexAt_still (by rfl) ?_; go_big_quiet_step (fail); refine wpQuiet_nil ?_)
  refine lexAt_move (by rfl) (by kernel_rfl) ?_
  go_wp2_with fail
  refine (qequal_any sl2 Al2 nl2 cl2 tl2 Bl2 ml2 dl2 _ sl0 Al0 nl0 cl0 tl0 Bl0 ml0 dl0 _ w12 ((Ql2.out.ext (Ext.trans Ew9.out (Ext.trans Ew10.out (Ext.trans Ew11.out Ew12.out)))).arg HM2.out (by omega)) ((Ql0.out.ext (Ext.trans Ew9.out (Ext.trans Ew10.out (Ext.trans Ew11.out Ew12.out)))).arg HM0.out (by omega))).mono ?_
  rintro e w13 ⟨rfl, hE⟩
  have Ew13 := Lib.hid hE
  clear hE
  rw [decide_eq_true HL3.out.2.2]
  go_wp2_with fail
  refine And.intro (inX_of_ext _ (Ext.trans Ew10.out (Ext.trans Ew11.out (Ext.trans Ew12.out Ew13.out)))) ?_
  repeat (refine lexAt_still (by rfl) ?_; go_big_quiet_step (fail); refine wpQuiet_nil ?_)
  refine lexAt_nil ?_
  clear fz0 fz1 fz2 fz3 fl00 fl01 fl02 fl03 fl10 fl11 fl12 fl13 fl20 fl21 fl22 fl23
  go_wp2_with fail
  go_ret
  exact ⟨rfl, (Ext.trans Ew1.out (Ext.trans Ewl.out (Ext.trans Ew2.out (Ext.trans Ew3.out (Ext.trans Ew4.out (Ext.trans Ew5.out (Ext.trans Ew6.out (Ext.trans Ew7.out (Ext.trans Ew8.out (Ext.trans Ew9.out (Ext.trans Ew10.out (Ext.trans Ew11.out (Ext.trans Ew12.out Ew13.out)))))))))))))⟩
end Go.Proofs.Ytfokholpgakjpaa
