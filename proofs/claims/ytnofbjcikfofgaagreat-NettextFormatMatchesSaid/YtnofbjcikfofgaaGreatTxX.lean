/- Contracts of nettext.valid and nettext.ParseOutage. Printed by gen_txx.py. -/
import Derived.Test.YtnofbjcikfofgaaGreatTxI
namespace Go.Proofs.YtnofbjcikfofgaaGreat
open Go.RowKit
def validO (kd wh fr to_ : Int) : Bool := decide (0 ≤ wh) && (decide (wh < if kd = 3 then 5 else 10) && (decide (0 ≤ fr) && (decide (fr ≤ to_) && decide (to_ < 8))))
/-- kind, which, from, to, offset, error -/
structure OR where
  kd : Int
  wh : Int
  fr : Int
  to_ : Int
  nx : Int
  e : Int
def outE (l : Bs) (p : PS) (kd : Int) (zs : List Int) : OR :=
  if (psE l p 2).e ≠ 0 then ⟨0, 0, 0, 0, 0, (psE l p 2).e⟩ else if validO kd (zs.getD 0 0) (zs.getD 1 0) (zs.getD 2 0) then ⟨kd, zs.getD 0 0, zs.getD 1 0, zs.getD 2 0, (psE l p 2).k, 0⟩ else ⟨0, 0, 0, 0, 0, 1⟩
def outR (l : Bs) (k : Int) : OR := outE l (psIs l 3 (psK l (psE l ⟨k, 0⟩ 1))) (psKV l (psE l ⟨k, 0⟩ 1)) (psVs l 3 (psK l (psE l ⟨k, 0⟩ 1)))
def RetOut (w : World) (x : OR) (e : Ending) (w' : World) : Prop := e = .returned (.tuple #[.agg #[.int .u8 x.kd, .int .i64 x.wh, .int .i64 x.fr, .int .i64 x.to_], .int .i64 x.nx, .int .i64 x.e]) ∧ Ext w w'
theorem blk4 {w : World} {r : Nat} {t : TypeId} {v0 v1 v2 v3 : Value} (h : Blk w r t #[v0, v1, v2, v3]) : w.cell? ⟨r, 0, none⟩ = some v0 ∧ w.cell? ⟨r, 1, none⟩ = some v1 ∧ w.cell? ⟨r, 2, none⟩ = some v2 ∧ w.cell? ⟨r, 3, none⟩ = some v3 ∧ w.frozen? ⟨r, 0, none⟩ = false ∧ w.frozen? ⟨r, 1, none⟩ = false ∧ w.frozen? ⟨r, 2, none⟩ = false ∧ w.frozen? ⟨r, 3, none⟩ = false ∧ r < w.heap.size := ⟨by rw [h.cell]; rfl, by rw [h.cell]; rfl, by rw [h.cell]; rfl, by rw [h.cell]; rfl, h.frozen 0, h.frozen 1, h.frozen 2, h.frozen 3, h.lt⟩

set_option maxHeartbeats 4000000 in
theorem valid_any (kd wh fr to_ : Int) (w : World) :
    Calls Tryz.prog 22 #[.agg #[.int .u8 kd, .int .i64 wh, .int .i64 fr, .int .i64 to_]] w fun e w' => e = .returned (.bool (validO kd wh fr to_)) ∧ Ext w w' := by
  obtain ⟨V, hV⟩ : ∃ V, validO kd wh fr to_ = V := ⟨_, rfl⟩
  rw [hV]
  have HV := Lib.hid hV
  clear hV
  obtain ⟨lm, hlm⟩ : ∃ x : Int, (if kd = 3 then (5 : Int) else 10) = x := ⟨_, rfl⟩
  have HLM := Lib.hid hlm
  clear hlm
  by_cases hk : kd = 3
  · have hkb : (kd == 3) = true := by simp [hk]
    obtain rfl : lm = 5 := by rw [← HLM.out, if_pos hk]
    have HK := Lib.hid hk
    clear hk
    by_cases h1 : 0 ≤ wh
    rotate_left
    · have a1 : decide (0 ≤ wh) = false := decide_eq_false h1
      have HR : Hid (false = V) := by unfold Hid; rw [← HV.out]; unfold validO; rw [HLM.out]; simp only [a1, Bool.false_and]
      clear HV HLM
      go_enter Tryz.func22, Tryz.ntmps22
      go_wp2_with fail
      go_ret
      exact ⟨ret_b (by first | exact HR.out | rfl), Ext.al Ext.rfl' _⟩
    · have a1 : decide (0 ≤ wh) = true := decide_eq_true h1
      by_cases h2 : wh < 5
      rotate_left
      · have a2 : decide (wh < 5) = false := decide_eq_false h2
        have HR : Hid (false = V) := by unfold Hid; rw [← HV.out]; unfold validO; rw [HLM.out]; simp only [a1, a2, Bool.true_and, Bool.false_and]
        clear HV HLM
        go_enter Tryz.func22, Tryz.ntmps22
        go_wp2_with fail
        go_ret
        exact ⟨ret_b (by first | exact HR.out | rfl), Ext.al Ext.rfl' _⟩
      · have a2 : decide (wh < 5) = true := decide_eq_true h2
        by_cases h3 : 0 ≤ fr
        rotate_left
        · have a3 : decide (0 ≤ fr) = false := decide_eq_false h3
          have HR : Hid (false = V) := by unfold Hid; rw [← HV.out]; unfold validO; rw [HLM.out]; simp only [a1, a2, a3, Bool.true_and, Bool.false_and]
          clear HV HLM
          go_enter Tryz.func22, Tryz.ntmps22
          go_wp2_with fail
          go_ret
          exact ⟨ret_b (by first | exact HR.out | rfl), Ext.al Ext.rfl' _⟩
        · have a3 : decide (0 ≤ fr) = true := decide_eq_true h3
          by_cases h4 : fr ≤ to_
          rotate_left
          · have a4 : decide (fr ≤ to_) = false := decide_eq_false h4
            have HR : Hid (false = V) := by unfold Hid; rw [← HV.out]; unfold validO; rw [HLM.out]; simp only [a1, a2, a3, a4, Bool.true_and, Bool.false_and]
            clear HV HLM
            go_enter Tryz.func22, Tryz.ntmps22
            go_wp2_with fail
            go_ret
            exact ⟨ret_b (by first | exact HR.out | rfl), Ext.al Ext.rfl' _⟩
          · have a4 : decide (fr ≤ to_) = true := decide_eq_true h4
            by_cases h5 : to_ < 8
            rotate_left
            · have a5 : decide (to_ < 8) = false := decide_eq_false h5
              have HR : Hid (false = V) := by unfold Hid; rw [← HV.out]; unfold validO; rw [HLM.out]; simp only [a1, a2, a3, a4, a5, Bool.true_and]
              clear HV HLM
              go_enter Tryz.func22, Tryz.ntmps22
              go_wp2_with fail
              go_ret
              exact ⟨ret_b (by first | exact HR.out | rfl), Ext.al Ext.rfl' _⟩
            · have a5 : decide (to_ < 8) = true := decide_eq_true h5
              have HR : Hid (true = V) := by unfold Hid; rw [← HV.out]; unfold validO; rw [HLM.out]; simp only [a1, a2, a3, a4, a5, Bool.and_self]
              clear HV HLM
              go_enter Tryz.func22, Tryz.ntmps22
              go_wp2_with fail
              go_ret
              exact ⟨ret_b (by first | exact HR.out | rfl), Ext.al Ext.rfl' _⟩
  · have hkb : (kd == 3) = false := by simp [hk]
    obtain rfl : lm = 10 := by rw [← HLM.out, if_neg hk]
    have HK := Lib.hid hk
    clear hk
    by_cases h1 : 0 ≤ wh
    rotate_left
    · have a1 : decide (0 ≤ wh) = false := decide_eq_false h1
      have HR : Hid (false = V) := by unfold Hid; rw [← HV.out]; unfold validO; rw [HLM.out]; simp only [a1, Bool.false_and]
      clear HV HLM
      go_enter Tryz.func22, Tryz.ntmps22
      go_wp2_with fail
      go_ret
      exact ⟨ret_b (by first | exact HR.out | rfl), Ext.al Ext.rfl' _⟩
    · have a1 : decide (0 ≤ wh) = true := decide_eq_true h1
      by_cases h2 : wh < 10
      rotate_left
      · have a2 : decide (wh < 10) = false := decide_eq_false h2
        have HR : Hid (false = V) := by unfold Hid; rw [← HV.out]; unfold validO; rw [HLM.out]; simp only [a1, a2, Bool.true_and, Bool.false_and]
        clear HV HLM
        go_enter Tryz.func22, Tryz.ntmps22
        go_wp2_with fail
        go_ret
        exact ⟨ret_b (by first | exact HR.out | rfl), Ext.al Ext.rfl' _⟩
      · have a2 : decide (wh < 10) = true := decide_eq_true h2
        by_cases h3 : 0 ≤ fr
        rotate_left
        · have a3 : decide (0 ≤ fr) = false := decide_eq_false h3
          have HR : Hid (false = V) := by unfold Hid; rw [← HV.out]; unfold validO; rw [HLM.out]; simp only [a1, a2, a3, Bool.true_and, Bool.false_and]
          clear HV HLM
          go_enter Tryz.func22, Tryz.ntmps22
          go_wp2_with fail
          go_ret
          exact ⟨ret_b (by first | exact HR.out | rfl), Ext.al Ext.rfl' _⟩
        · have a3 : decide (0 ≤ fr) = true := decide_eq_true h3
          by_cases h4 : fr ≤ to_
          rotate_left
          · have a4 : decide (fr ≤ to_) = false := decide_eq_false h4
            have HR : Hid (false = V) := by unfold Hid; rw [← HV.out]; unfold validO; rw [HLM.out]; simp only [a1, a2, a3, a4, Bool.true_and, Bool.false_and]
            clear HV HLM
            go_enter Tryz.func22, Tryz.ntmps22
            go_wp2_with fail
            go_ret
            exact ⟨ret_b (by first | exact HR.out | rfl), Ext.al Ext.rfl' _⟩
          · have a4 : decide (fr ≤ to_) = true := decide_eq_true h4
            by_cases h5 : to_ < 8
            rotate_left
            · have a5 : decide (to_ < 8) = false := decide_eq_false h5
              have HR : Hid (false = V) := by unfold Hid; rw [← HV.out]; unfold validO; rw [HLM.out]; simp only [a1, a2, a3, a4, a5, Bool.true_and]
              clear HV HLM
              go_enter Tryz.func22, Tryz.ntmps22
              go_wp2_with fail
              go_ret
              exact ⟨ret_b (by first | exact HR.out | rfl), Ext.al Ext.rfl' _⟩
            · have a5 : decide (to_ < 8) = true := decide_eq_true h5
              have HR : Hid (true = V) := by unfold Hid; rw [← HV.out]; unfold validO; rw [HLM.out]; simp only [a1, a2, a3, a4, a5, Bool.and_self]
              clear HV HLM
              go_enter Tryz.func22, Tryz.ntmps22
              go_wp2_with fail
              go_ret
              exact ⟨ret_b (by first | exact HR.out | rfl), Ext.al Ext.rfl' _⟩
set_option maxRecDepth 100000 in
set_option maxHeartbeats 16000000 in
theorem parseout_any (s : ByteArray) (k : Int) (w : World) (hs : s.size ≤ maxLen) :
    Calls Tryz.prog 32 #[.string s, .int .i64 k] w (RetOut w (outR s.data.toList k)) := by
  obtain ⟨NF, hNF⟩ : ∃ x, outR s.data.toList k = x := ⟨_, rfl⟩
  rw [hNF]
  have HN := Lib.hid hNF
  have HS := Lib.hid hs
  clear hNF hs
  go_enter Tryz.func32, Tryz.ntmps32
  go_wp2_with fail
  have hP0 : PAt ((w.alloc (.cells #[.int .u8 0, .int .i64 0, .int .i64 0, .int .i64 0] 26)).alloc (.cells #[.string s, .int .i64 k, .int .i64 0] 59)) (w.heap.size + 1) s ⟨k, 0⟩ := by have := Blk.new (w.alloc (.cells #[.int .u8 0, .int .i64 0, .int .i64 0, .int .i64 0] 26)) 59 #[.string s, .int .i64 k, .int .i64 0]; simp only [World.size_alloc] at this; exact this
  have hB0 : Blk ((w.alloc (.cells #[.int .u8 0, .int .i64 0, .int .i64 0, .int .i64 0] 26)).alloc (.cells #[.string s, .int .i64 k, .int .i64 0] 59)) w.heap.size 26 #[.int .u8 0, .int .i64 0, .int .i64 0, .int .i64 0] := (Blk.new w 26 _).alloc _
  have hE0 : Ext w ((w.alloc (.cells #[.int .u8 0, .int .i64 0, .int .i64 0, .int .i64 0] 26)).alloc (.cells #[.string s, .int .i64 k, .int .i64 0] 59)) := Ext.al (Ext.al Ext.rfl' _) _
  have hsz : ((w.alloc (.cells #[.int .u8 0, .int .i64 0, .int .i64 0, .int .i64 0] 26)).alloc (.cells #[.string s, .int .i64 k, .int .i64 0] 59)).heap.size = w.heap.size + 2 := by simp
  generalize ((w.alloc (.cells #[.int .u8 0, .int .i64 0, .int .i64 0, .int .i64 0] 26)).alloc (.cells #[.string s, .int .i64 k, .int .i64 0] 59)) = w0 at *
  obtain ⟨r, hr⟩ : ∃ r, w.heap.size = r := ⟨_, rfl⟩
  rw [hr] at hP0 hB0 hsz ⊢
  obtain ⟨g, hg⟩ : ∃ g, r + 1 = g := ⟨_, rfl⟩
  rw [hg] at hP0 ⊢
  have hgr : r < g := by omega
  have hg0 : g < w0.heap.size := hP0.blk.lt
  have HP0 := Lib.hid hP0
  have HB0 := Lib.hid hB0
  have HE0 := Lib.hid hE0
  have HR := Lib.hid hr
  clear hP0 hB0 hE0 hr hg hsz
  refine (nexpect_any g s ⟨k, 0⟩ 1 w0 HP0.out HS.out).mono ?_
  rintro e w1 ⟨⟨_, _, _, _, _, _, _, _, rfl⟩, hp, hm⟩
  have HNR : Hid (NF = outE s.data.toList (psIs s.data.toList 3 (psK s.data.toList (psE s.data.toList ⟨k, 0⟩ 1))) (psKV s.data.toList (psE s.data.toList ⟨k, 0⟩ 1)) (psVs s.data.toList 3 (psK s.data.toList (psE s.data.toList ⟨k, 0⟩ 1)))) := HN.out.symm
  clear HN
  have HB1 := Lib.hid (blk_mv HB0.out hm (by omega))
  have HE1 := Lib.hid (Mv.ext hm HE0.out (by rw [HR.out]; omega))
  have HS1 : Hid (g < w1.heap.size) := Nat.lt_of_lt_of_le hg0 hm.size
  generalize psE s.data.toList ⟨k, 0⟩ 1 = p1 at *
  have HP1 := Lib.hid hp
  clear hp hm HB0 HE0 HP0
  go_wp2_with fail
  refine (nkind_any g s p1 w1 HP1.out HS.out).mono ?_
  rintro e w2 ⟨rfl, hp, hm⟩
  have HB2 := Lib.hid (blk_mv HB1.out hm (by omega))
  have HE2 := Lib.hid (Mv.ext hm HE1.out (by rw [HR.out]; omega))
  have HS2 : Hid (g < w2.heap.size) := Nat.lt_of_lt_of_le HS1.out hm.size
  generalize psK s.data.toList p1 = p2 at *
  generalize psKV s.data.toList p1 = kd at *
  have HP2 := Lib.hid hp
  clear hp hm HB1 HE1 HP1 HS1
  obtain ⟨b0, b1, b2, b3, f0, f1, f2, f3, bl⟩ := blk4 HB2.out
  go_wp2_with fail
  clear b0 b1 b2 b3 f0 f1 f2 f3 bl
  have ht : Touch r w2 (w2.setCell ⟨r, 0, none⟩ (.int .u8 kd)) := (Touch.refl r w2).set 0 _
  have HB3 := Lib.hid (show Blk (w2.setCell ⟨r, 0, none⟩ (.int .u8 kd)) r 26 #[.int .u8 kd, .int .i64 0, .int .i64 0, .int .i64 0] from HB2.out.put 0 _)
  have HP3 := Lib.hid (HP2.out.touch ht (by omega))
  have HE3 := Lib.hid (ht.ext w HE2.out (by rw [HR.out]; exact Nat.le_refl _))
  have HS3 : Hid (g < (w2.setCell ⟨r, 0, none⟩ (.int .u8 kd)).heap.size) := by unfold Hid; rw [ht.size]; exact HS2.out
  generalize w2.setCell ⟨r, 0, none⟩ (.int .u8 kd) = w3 at *
  clear ht HB2 HP2 HE2 HS2
  have hls := nlist_any g s p2 3 w3 HP3.out HS.out (by omega)
  rw [show ((3 : Nat) : Int) = 3 from rfl] at hls
  refine hls.mono ?_
  clear hls
  rintro e w4 ⟨⟨q, rfl, hq1, hq2, hq3⟩, hp, hm⟩
  have HB4 := Lib.hid (blk_mv HB3.out hm (by omega))
  have HE4 := Lib.hid (Mv.ext hm HE3.out (by rw [HR.out]; omega))
  generalize psIs s.data.toList 3 p2 = p4 at *
  generalize psVs s.data.toList 3 p2 = zs at *
  have HP4 := Lib.hid hp
  have HQ4 := Lib.hid hq3
  have hqg : g < q := Nat.lt_of_lt_of_le HS3.out hq1
  have HS4 : Hid (w3.heap.size ≤ w4.heap.size) := hm.size
  clear hp hm HB3 HE3 HP3 hq1 hq2 hq3
  go_wp2_with fail
  refine (nexpect_any g s p4 2 w4 HP4.out HS.out).mono ?_
  rintro e w5 ⟨⟨_, _, _, _, _, _, _, _, rfl⟩, hp, hm⟩
  have HB5 := Lib.hid (blk_mv HB4.out hm (by omega))
  have HE5 := Lib.hid (Mv.ext hm HE4.out (by rw [HR.out]; omega))
  have HQ5 : Hid (∀ i, i < 3 → w5.cell? ⟨q, i, none⟩ = some (.int .i64 (zs.getD i 0))) := fun i hi => hm.cell (HQ4.out i hi) (by simp; omega)
  have HNE : Hid (NF = if (psE s.data.toList p4 2).e ≠ 0 then ⟨0, 0, 0, 0, 0, (psE s.data.toList p4 2).e⟩ else if validO kd (zs.getD 0 0) (zs.getD 1 0) (zs.getD 2 0) then ⟨kd, zs.getD 0 0, zs.getD 1 0, zs.getD 2 0, (psE s.data.toList p4 2).k, 0⟩ else ⟨0, 0, 0, 0, 0, 1⟩) := HNR.out
  clear HNR
  generalize psE s.data.toList p4 2 = p5 at *
  obtain ⟨k5, e5⟩ := p5
  simp only at HNE
  have HP5 := Lib.hid hp
  clear hp hm HB4 HE4 HP4 HQ4
  have y0 := HQ5.out 0 (by omega)
  have y1 := HQ5.out 1 (by omega)
  have y2 := HQ5.out 2 (by omega)
  generalize zs.getD 0 0 = u0 at *
  generalize zs.getD 1 0 = u1 at *
  generalize zs.getD 2 0 = u2 at *
  have HY := Lib.hid (And.intro y0 (And.intro y1 y2))
  clear y0 y1 y2 HQ5
  obtain ⟨⟨p0, p1', p2'⟩, q1, q2, pl⟩ := HP5.out.cells
  simp only at p1' p2'
  by_cases h5 : e5 = 0
  rotate_left
  · have hb2 : (e5 != 0) = true := by simp [h5]
    have HRES : Hid (NF = ⟨0, 0, 0, 0, 0, e5⟩) := by unfold Hid; rw [HNE.out, if_pos h5]
    clear h5 HNE
    go_wp2_with fail
    clear p0 p1' p2' q1 q2 pl
    have HEX : Hid (Ext w5 w5.drew) := Ext.rfl'.drew
    have hB9 : Blk w5.drew r 26 #[.int .u8 kd, .int .i64 0, .int .i64 0, .int .i64 0] := HB5.out.keep (HEX.out.block r HB5.out.lt)
    have hP9 := HP5.out.ext HEX.out
    have hE9 := Ext.trans HE5.out HEX.out
    refine wp_region_lexS (C := InX w5.drew [r]) (by kernel_rfl) (by kernel_rfl) (inX_self _ _) ?_
    generalize w5.drew = w9 at *
    obtain ⟨⟨z0, z1, z2⟩, -, -, -⟩ := hP9.cells
    have HB9 := Lib.hid hB9
    obtain ⟨b0, b1, b2, b3, -, -, -, -, -⟩ := blk4 hB9
    have zz1 := fun z : ExtX w9 [r] => z.cell (p := ⟨g, 1, none⟩) z1 (by simp; omega)
    have zz2 := fun z : ExtX w9 [r] => z.cell (p := ⟨g, 2, none⟩) z2 (by simp; omega)
    have HE9 := Lib.hid hE9
    clear z0 z1 z2 b0 b1 b2 b3 hE9 hP9 hB9
    repeat (refine lexAt_still (by rfl) ?_; go_big_quiet_step (fail); refine wpQuiet_nil ?_)
    obtain ⟨c0, c1, c2, c3, f0, f1, f2, f3, cl⟩ := blk4 HB9.out
    refine lexAt_move (by rfl) (by kernel_rfl) ?_
    go_wp2_with fail
    have hBf : Blk ((((w9.setCell ⟨r, 0, none⟩ (.int .u8 0)).setCell ⟨r, 1, none⟩ (.int .i64 0)).setCell ⟨r, 2, none⟩ (.int .i64 0)).setCell ⟨r, 3, none⟩ (.int .i64 0)) r 26 #[.int .u8 0, .int .i64 0, .int .i64 0, .int .i64 0] := ((((HB9.out.put 0 _).put 1 _).put 2 _).put 3 _)
    have htf : Touch r w9 ((((w9.setCell ⟨r, 0, none⟩ (.int .u8 0)).setCell ⟨r, 1, none⟩ (.int .i64 0)).setCell ⟨r, 2, none⟩ (.int .i64 0)).setCell ⟨r, 3, none⟩ (.int .i64 0)) := (((((Touch.refl r w9).set 0 _).set 1 _).set 2 _).set 3 _)
    have hcls : InX w9 [r] ((((w9.setCell ⟨r, 0, none⟩ (.int .u8 0)).setCell ⟨r, 1, none⟩ (.int .i64 0)).setCell ⟨r, 2, none⟩ (.int .i64 0)).setCell ⟨r, 3, none⟩ (.int .i64 0)) := ⟨⟨((((w9.setCell ⟨r, 0, none⟩ (.int .u8 0)).setCell ⟨r, 1, none⟩ (.int .i64 0)).setCell ⟨r, 2, none⟩ (.int .i64 0)).setCell ⟨r, 3, none⟩ (.int .i64 0)), Nat.le_of_eq htf.size.symm, fun x hx hn => htf.block x (fun e => hn (by simp [e]))⟩, rfl⟩
    refine And.intro hcls ?_
    clear hcls
    have HBf := Lib.hid hBf
    have HEf := Lib.hid (htf.ext w HE9.out (by rw [HR.out]; exact Nat.le_refl _))
    clear hBf htf c0 c1 c2 c3 f0 f1 f2 f3 cl
    repeat (refine lexAt_still (by rfl) ?_; go_big_quiet_step (fail); refine wpQuiet_nil ?_)
    refine lexAt_nil ?_
    clear zz1 zz2
    generalize ((((w9.setCell ⟨r, 0, none⟩ (.int .u8 0)).setCell ⟨r, 1, none⟩ (.int .i64 0)).setCell ⟨r, 2, none⟩ (.int .i64 0)).setCell ⟨r, 3, none⟩ (.int .i64 0)) = wf at *
    go_wp2_with fail
    obtain ⟨c0, c1, c2, c3, f0, f1, f2, f3, cl⟩ := blk4 HBf.out
    refine bodyPost_ret (v := .tuple #[.agg #[.int .u8 0, .int .i64 0, .int .i64 0, .int .i64 0], .int .i64 0, .int .i64 e5]) (by simp [results, Tryz.results32, go_sem, c0, c1, c2, c3]) rfl ?_
    rw [HRES.out]
    exact ⟨rfl, HEf.out⟩
  · subst h5
    have HN2 : Hid (NF = if validO kd u0 u1 u2 then ⟨kd, u0, u1, u2, k5, 0⟩ else ⟨0, 0, 0, 0, 0, 1⟩) := by unfold Hid; rw [HNE.out, if_neg (by simp)]
    clear HNE
    go_wp2_with fail
    clear p0 p1' p2' q1 q2 pl
    have HEX : Hid (Ext w5 w5.drew) := Ext.rfl'.drew
    have hB9 : Blk w5.drew r 26 #[.int .u8 kd, .int .i64 0, .int .i64 0, .int .i64 0] := HB5.out.keep (HEX.out.block r HB5.out.lt)
    have hP9 := HP5.out.ext HEX.out
    have hE9 := Ext.trans HE5.out HEX.out
    have q0 := Ext.cellOf HEX.out HY.out.1
    have q1 := Ext.cellOf HEX.out HY.out.2.1
    have q2 := Ext.cellOf HEX.out HY.out.2.2
    refine wp_region_lexS (C := InX w5.drew [r]) (by kernel_rfl) (by kernel_rfl) (inX_self _ _) ?_
    generalize w5.drew = w6 at *
    have qq0 := fun z : ExtX w6 [r] => z.cell (p := ⟨q, 0, none⟩) q0 (by simp; omega)
    have qq1 := fun z : ExtX w6 [r] => z.cell (p := ⟨q, 1, none⟩) q1 (by simp; omega)
    have qq2 := fun z : ExtX w6 [r] => z.cell (p := ⟨q, 2, none⟩) q2 (by simp; omega)
    have HB6 := Lib.hid hB9
    have HP6 := Lib.hid hP9
    have HE6 := Lib.hid hE9
    clear q0 q1 q2 hB9 hP9 hE9
    repeat (refine lexAt_still (by rfl) ?_; go_big_quiet_step (fail); refine wpQuiet_nil ?_)
    obtain ⟨c0, c1, c2, c3, f0, f1, f2, f3, cl⟩ := blk4 HB6.out
    refine lexAt_move (by rfl) (by kernel_rfl) ?_
    go_wp2_with fail
    have htf : Touch r w6 (w6.setCell ⟨r, 1, none⟩ (.int .i64 u0)) := (Touch.refl r w6).set 1 _
    have HB7 := Lib.hid (show Blk (w6.setCell ⟨r, 1, none⟩ (.int .i64 u0)) r 26 #[.int .u8 kd, .int .i64 u0, .int .i64 0, .int .i64 0] from HB6.out.put 1 _)
    have HP7 := Lib.hid (HP6.out.touch htf (by omega))
    have HE7 := Lib.hid (htf.ext w HE6.out (by rw [HR.out]; exact Nat.le_refl _))
    have hcls1 : InX w6 [r] (w6.setCell ⟨r, 1, none⟩ (.int .i64 u0)) := inX_put (inX_self _ _) (p := ⟨r, 1, none⟩) (.inl (by simp)) _
    refine And.intro hcls1 ?_
    have HC1 := Lib.hid hcls1
    clear hcls1 htf c0 c1 c2 c3 f0 f1 f2 f3 cl
    generalize (w6.setCell ⟨r, 1, none⟩ (.int .i64 u0)) = w7 at *
    repeat (refine lexAt_still (by rfl) ?_; go_big_quiet_step (fail); refine wpQuiet_nil ?_)
    obtain ⟨c0, c1, c2, c3, f0, f1, f2, f3, cl⟩ := blk4 HB7.out
    refine lexAt_move (by rfl) (by kernel_rfl) ?_
    go_wp2_with fail
    have htf : Touch r w7 (w7.setCell ⟨r, 2, none⟩ (.int .i64 u1)) := (Touch.refl r w7).set 2 _
    have HB8 := Lib.hid (show Blk (w7.setCell ⟨r, 2, none⟩ (.int .i64 u1)) r 26 #[.int .u8 kd, .int .i64 u0, .int .i64 u1, .int .i64 0] from HB7.out.put 2 _)
    have HP8 := Lib.hid (HP7.out.touch htf (by omega))
    have HE8 := Lib.hid (htf.ext w HE7.out (by rw [HR.out]; exact Nat.le_refl _))
    have hcls2 : InX w6 [r] (w7.setCell ⟨r, 2, none⟩ (.int .i64 u1)) := inX_put HC1.out (p := ⟨r, 2, none⟩) (.inl (by simp)) _
    refine And.intro hcls2 ?_
    have HC2 := Lib.hid hcls2
    clear hcls2 htf c0 c1 c2 c3 f0 f1 f2 f3 cl
    generalize (w7.setCell ⟨r, 2, none⟩ (.int .i64 u1)) = w8 at *
    repeat (refine lexAt_still (by rfl) ?_; go_big_quiet_step (fail); refine wpQuiet_nil ?_)
    obtain ⟨c0, c1, c2, c3, f0, f1, f2, f3, cl⟩ := blk4 HB8.out
    refine lexAt_move (by rfl) (by kernel_rfl) ?_
    go_wp2_with fail
    have htf : Touch r w8 (w8.setCell ⟨r, 3, none⟩ (.int .i64 u2)) := (Touch.refl r w8).set 3 _
    have HB9 := Lib.hid (show Blk (w8.setCell ⟨r, 3, none⟩ (.int .i64 u2)) r 26 #[.int .u8 kd, .int .i64 u0, .int .i64 u1, .int .i64 u2] from HB8.out.put 3 _)
    have HP9 := Lib.hid (HP8.out.touch htf (by omega))
    have HE9 := Lib.hid (htf.ext w HE8.out (by rw [HR.out]; exact Nat.le_refl _))
    have hcls3 : InX w6 [r] (w8.setCell ⟨r, 3, none⟩ (.int .i64 u2)) := inX_put HC2.out (p := ⟨r, 3, none⟩) (.inl (by simp)) _
    refine And.intro hcls3 ?_
    have HC3 := Lib.hid hcls3
    clear hcls3 htf c0 c1 c2 c3 f0 f1 f2 f3 cl
    generalize (w8.setCell ⟨r, 3, none⟩ (.int .i64 u2)) = w9 at *
    repeat (refine lexAt_still (by rfl) ?_; go_big_quiet_step (fail); refine wpQuiet_nil ?_)
    refine lexAt_nil ?_
    clear qq0 qq1 qq2
    obtain ⟨c0, c1, c2, c3, f0, f1, f2, f3, cl⟩ := blk4 HB9.out
    go_wp2_with fail
    clear c0 c1 c2 c3 f0 f1 f2 f3 cl
    refine (valid_any kd u0 u1 u2 w9).mono ?_
    rintro e wv ⟨rfl, hEv⟩
    have HBv := Lib.hid (HB9.out.keep (hEv.block r HB9.out.lt))
    have HPv := Lib.hid (HP9.out.ext hEv)
    have HEv := Lib.hid (Ext.trans HE9.out hEv)
    clear hEv
    clear HB6 HB7 HB8 HB9 HP6 HP7 HP8 HP9 HE6 HE7 HE8 HE9 HC1 HC2 HC3 HEX
    obtain ⟨vb, hvb⟩ : ∃ v, validO kd u0 u1 u2 = v := ⟨_, rfl⟩
    rw [hvb] at HN2 ⊢
    clear hvb
    cases vb
    · have HRES : Hid (NF = ⟨0, 0, 0, 0, 0, 1⟩) := by unfold Hid; rw [HN2.out]; simp
      obtain ⟨c0, c1, c2, c3, f0, f1, f2, f3, cl⟩ := blk4 HBv.out
      go_wp2_with fail
      clear c0 c1 c2 c3 f0 f1 f2 f3 cl
      have hBf : Blk ((((wv.setCell ⟨r, 0, none⟩ (.int .u8 0)).setCell ⟨r, 1, none⟩ (.int .i64 0)).setCell ⟨r, 2, none⟩ (.int .i64 0)).setCell ⟨r, 3, none⟩ (.int .i64 0)) r 26 #[.int .u8 0, .int .i64 0, .int .i64 0, .int .i64 0] := ((((HBv.out.put 0 _).put 1 _).put 2 _).put 3 _)
      have htf : Touch r wv ((((wv.setCell ⟨r, 0, none⟩ (.int .u8 0)).setCell ⟨r, 1, none⟩ (.int .i64 0)).setCell ⟨r, 2, none⟩ (.int .i64 0)).setCell ⟨r, 3, none⟩ (.int .i64 0)) := (((((Touch.refl r wv).set 0 _).set 1 _).set 2 _).set 3 _)
      have HEf := Lib.hid (htf.ext w HEv.out (by rw [HR.out]; exact Nat.le_refl _))
      generalize ((((wv.setCell ⟨r, 0, none⟩ (.int .u8 0)).setCell ⟨r, 1, none⟩ (.int .i64 0)).setCell ⟨r, 2, none⟩ (.int .i64 0)).setCell ⟨r, 3, none⟩ (.int .i64 0)) = wf at *
      obtain ⟨c0, c1, c2, c3, f0, f1, f2, f3, cl⟩ := blk4 hBf
      refine bodyPost_ret (v := .tuple #[.agg #[.int .u8 0, .int .i64 0, .int .i64 0, .int .i64 0], .int .i64 0, .int .i64 1]) (by simp [results, Tryz.results32, go_sem, c0, c1, c2, c3]) rfl ?_
      rw [HRES.out]
      exact ⟨rfl, HEf.out⟩
    · have HRES : Hid (NF = ⟨kd, u0, u1, u2, k5, 0⟩) := by unfold Hid; rw [HN2.out]; simp
      go_wp2_with fail
      have HEX : Hid (Ext wv wv.drew) := Ext.rfl'.drew
      have hB9 : Blk wv.drew r 26 #[.int .u8 kd, .int .i64 u0, .int .i64 u1, .int .i64 u2] := HBv.out.keep (HEX.out.block r HBv.out.lt)
      have hP9 := HPv.out.ext HEX.out
      have hE9 := Ext.trans HEv.out HEX.out
      refine wp_region_lexS (C := InX wv.drew []) (by kernel_rfl) (by kernel_rfl) (inX_self _ _) ?_
      generalize wv.drew = w9 at *
      obtain ⟨⟨z0, z1, z2⟩, -, -, -⟩ := hP9.cells
      have HB9 := Lib.hid hB9
      obtain ⟨b0, b1, b2, b3, -, -, -, -, -⟩ := blk4 hB9
      have zz1 := fun z : ExtX w9 [] => z.cell (p := ⟨g, 1, none⟩) z1 (by simp)
      have zz2 := fun z : ExtX w9 [] => z.cell (p := ⟨g, 2, none⟩) z2 (by simp)
      have bb0 := fun z : ExtX w9 [] => z.cell (p := ⟨r, 0, none⟩) b0 (by simp)
      have bb1 := fun z : ExtX w9 [] => z.cell (p := ⟨r, 1, none⟩) b1 (by simp)
      have bb2 := fun z : ExtX w9 [] => z.cell (p := ⟨r, 2, none⟩) b2 (by simp)
      have bb3 := fun z : ExtX w9 [] => z.cell (p := ⟨r, 3, none⟩) b3 (by simp)
      have HE9 := Lib.hid hE9
      clear z0 z1 z2 b0 b1 b2 b3 hE9 hP9 hB9
      repeat (refine lexAt_still (by rfl) ?_; go_big_quiet_step (fail); refine wpQuiet_nil ?_)
      obtain ⟨c0, c1, c2, c3, f0, f1, f2, f3, cl⟩ := blk4 HB9.out
      refine lexAt_move (by rfl) (by kernel_rfl) ?_
      go_wp2_with fail
      have hBf : Blk ((((w9.setCell ⟨r, 0, none⟩ (.int .u8 kd)).setCell ⟨r, 1, none⟩ (.int .i64 u0)).setCell ⟨r, 2, none⟩ (.int .i64 u1)).setCell ⟨r, 3, none⟩ (.int .i64 u2)) r 26 #[.int .u8 kd, .int .i64 u0, .int .i64 u1, .int .i64 u2] := ((((HB9.out.put 0 _).put 1 _).put 2 _).put 3 _)
      have htf : Touch r w9 ((((w9.setCell ⟨r, 0, none⟩ (.int .u8 kd)).setCell ⟨r, 1, none⟩ (.int .i64 u0)).setCell ⟨r, 2, none⟩ (.int .i64 u1)).setCell ⟨r, 3, none⟩ (.int .i64 u2)) := (((((Touch.refl r w9).set 0 _).set 1 _).set 2 _).set 3 _)
      have hsame : InX w9 [] ((((w9.setCell ⟨r, 0, none⟩ (.int .u8 kd)).setCell ⟨r, 1, none⟩ (.int .i64 u0)).setCell ⟨r, 2, none⟩ (.int .i64 u1)).setCell ⟨r, 3, none⟩ (.int .i64 u2)) := ⟨⟨((((w9.setCell ⟨r, 0, none⟩ (.int .u8 kd)).setCell ⟨r, 1, none⟩ (.int .i64 u0)).setCell ⟨r, 2, none⟩ (.int .i64 u1)).setCell ⟨r, 3, none⟩ (.int .i64 u2)), Nat.le_of_eq htf.size.symm, fun x hx _ => by
        by_cases e : x = r
        · rw [e]; exact hBf.trans HB9.out.symm
        · exact htf.block x e⟩, rfl⟩
      refine And.intro hsame ?_
      clear hsame
      have HBf := Lib.hid hBf
      have HEf := Lib.hid (htf.ext w HE9.out (by rw [HR.out]; exact Nat.le_refl _))
      clear hBf htf c0 c1 c2 c3 f0 f1 f2 f3 cl
      repeat (refine lexAt_still (by rfl) ?_; go_big_quiet_step (fail); refine wpQuiet_nil ?_)
      refine lexAt_nil ?_
      clear zz1 zz2 bb0 bb1 bb2 bb3
      generalize ((((w9.setCell ⟨r, 0, none⟩ (.int .u8 kd)).setCell ⟨r, 1, none⟩ (.int .i64 u0)).setCell ⟨r, 2, none⟩ (.int .i64 u1)).setCell ⟨r, 3, none⟩ (.int .i64 u2)) = wf at *
      go_wp2_with fail
      obtain ⟨c0, c1, c2, c3, f0, f1, f2, f3, cl⟩ := blk4 HBf.out
      refine bodyPost_ret (v := .tuple #[.agg #[.int .u8 kd, .int .i64 u0, .int .i64 u1, .int .i64 u2], .int .i64 k5, .int .i64 0]) (by simp [results, Tryz.results32, go_sem, c0, c1, c2, c3]) rfl ?_
      rw [HRES.out]
      exact ⟨rfl, HEf.out⟩
end Go.Proofs.YtnofbjcikfofgaaGreat
