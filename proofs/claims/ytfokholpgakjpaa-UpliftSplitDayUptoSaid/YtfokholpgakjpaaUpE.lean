/- Contracts of pylonlaw37.is, ex and of uplift.Shared (small arguments). Printed by gen_ups.py. -/
import Derived.Test.YtfokholpgakjpaaUpM
import Derived.Deep.Cut
namespace Go.Proofs.Ytfokholpgakjpaa
open Go.RowKit

def exU : U := ⟨0, 0, 1, 1, 50, 4, 0, -1, [(10, 3), (5, 7)]⟩
theorem PartsAt.baseU {w : World} {B0 B1 g n k : Nat} {f : Nat → Rat} (h : PartsAt w B0 g n k f) (hb : B1 ≤ B0) : PartsAt w B1 g n k f := ⟨h.1, fun i hi => by
  obtain ⟨a1, a2, a3, a4, a5, a6, a7, a8, b1, b2, b3, b4, b5⟩ := h.2 i hi
  exact ⟨a1, a2, a3, a4, a5, a6, a7, a8, b1, b2, b3, b4, b5.base hb⟩⟩
theorem PartsAt.congrU {w : World} {B0 g n k : Nat} {f f' : Nat → Rat} (h : PartsAt w B0 g n k f) (hf : ∀ i, f i = f' i) : PartsAt w B0 g n k f' := by
  rw [show f' = f from funext fun i => (hf i).symm]
  exact h
theorem VarQ.touchU {w w' : World} {B : Nat} {gl : List Nat} {g g' : Nat} {q : Rat} (h : VarQ w B gl g q) (ht : Touch g' w w') (hne : g ≠ g') (hg : g' ∈ gl) : VarQ w' B gl g q := by
  obtain ⟨s, A, n, c, t, B', m, d, h1, h2, h3⟩ := h
  exact ⟨s, A, n, c, t, B', m, d, h1.touch ht hne, h2.touch ht (h3 g' hg), h3⟩
set_option maxRecDepth 100000 in
set_option maxHeartbeats 4000000 in
theorem exU_any (w : World) : Calls Try.prog 18 #[] w fun e w' => ∃ A, e = .returned (exU.val A 2 2) ∧ StepsAt w' A 2 exU.steps ∧ Ext w w' := by
  go_enter Try.func18, Try.ntmps18
  go_wp2_with fail
  refine bodyPost_ret (v := exU.val (some ⟨w.heap.size + 1, 0, none⟩) 2 2) (by simp [results, Try.results18, go_sem, exU]) rfl ?_
  refine ⟨_, rfl, ⟨rfl, fun _ => ⟨w.heap.size + 1, 0, rfl, by simp, fun i hi => ?_⟩⟩, Ext.al (Ext.al Ext.rfl' _) _⟩
  have : i = 0 ∨ i = 1 := by omega
  rcases this with rfl | rfl <;> simp [go_sem, exU]
def sumTo (ts : List Rat) : Nat → Rat
  | 0 => 0
  | j + 1 => sumTo ts j + ts.getD j 0
theorem sz_sumTo {ts : List Rat} (hz : ∀ i, Sz 10 (ts.getD i 0)) : ∀ j, Sz (1 + 11 * j) (sumTo ts j)
  | 0 => sz_zero
  | j + 1 => ((sz_sumTo hz j).add (hz j)).mono (by omega)
theorem sz_divU {p q : Rat} (hp : Sz 10 p) (hq : Sz 100 q) (h0 : q ≠ 0) : Sz 111 (p / q) := by
  rw [Rat.div_def]
  refine (hp.mul (l := 100) ?_).mono (by omega)
  have hn : q.num ≠ 0 := fun e => h0 (Rat.num_eq_zero.1 e)
  refine ⟨?_, ?_⟩
  · rw [Rat.num_inv]
    have : ((q.num.sign * (q.den : Int)).natAbs) = q.den := by
      rw [Int.natAbs_mul, Int.natAbs_sign_of_ne_zero hn]; simp
    rw [this]; exact hq.2
  · rw [Rat.den_inv, if_neg hn]
    exact hq.1
/-- What a bid is allocated, and the operator. -/
def bidF (t : Rat) (ts : List Rat) (k i : Nat) : Rat := if sumTo ts k = 0 then 0 else t / sumTo ts k * ts.getD i 0
def opV (t : Rat) (ts : List Rat) (k : Nat) : Rat := if sumTo ts k = 0 then t else 0
def RetShared (w : World) (t : Rat) (ts : List Rat) (k : Nat) (e : Ending) (w' : World) : Prop := ∃ g s A n c t' B m d, e = .returned (.tuple #[.slice (some ⟨g, 0, none⟩) k k, .agg #[.bool s, .slice A n c, .bool t', .slice B m d]]) ∧ w.heap.size ≤ g ∧ PartsAt w' w.heap.size g k k (bidF t ts k) ∧ QCan w' w.heap.size s A n c t' B m d (opV t ts k) ∧ Ext w w'
theorem madeQ_get (n j : Nat) (h : j < n * 4) : (madeCells #[Value.bool false, .slice none 0 0, .bool false, .slice none 0 0] (n * 4))[j]? = #[Value.bool false, .slice none 0 0, .bool false, .slice none 0 0][j % 4]? := by
  have h4 : j % 4 < 4 := Nat.mod_lt _ (by omega)
  simp [madeCells, h]
  generalize j % 4 = m at *
  match m, h4 with
  | 0, _ => rfl
  | 1, _ => rfl
  | 2, _ => rfl
  | 3, _ => rfl
theorem parts_zero (w : World) (B0 n : Nat) (t : TypeId) : PartsAt (w.alloc (.cells (madeCells #[.bool false, .slice none 0 0, .bool false, .slice none 0 0] (n * 4)) t)) B0 w.heap.size n n (fun _ => 0) := by
  refine ⟨row4_made w n _ t, fun i hi => ?_⟩
  have hb := Blk.new w t (madeCells #[.bool false, .slice none 0 0, .bool false, .slice none 0 0] (n * 4))
  refine ⟨false, none, 0, 0, false, none, 0, 0, ?_, ?_, ?_, ?_, qcan_zero _ _⟩
  · rw [hb.cell, madeQ_get n _ (by omega), show i * 4 % 4 = 0 by omega]; rfl
  · rw [hb.cell, madeQ_get n _ (by omega), show (i * 4 + 1) % 4 = 1 by omega]; rfl
  · rw [hb.cell, madeQ_get n _ (by omega), show (i * 4 + 2) % 4 = 2 by omega]; rfl
  · rw [hb.cell, madeQ_get n _ (by omega), show (i * 4 + 3) % 4 = 3 by omega]; rfl
set_option maxRecDepth 100000 in
set_option maxHeartbeats 4000000 in
theorem is_any (s1 : Bool) (A1 : Option Addr) (n1 c1 : Nat) (t1 : Bool) (B1 : Option Addr) (m1 d1 : Nat) (q : Rat) (z : Int) (w : World) (h1 : QArg w s1 A1 n1 c1 t1 B1 m1 d1 q) (hz : -4294967296 < z ∧ z < 4294967296) :
    Calls Try.prog 17 #[.agg #[.bool s1, .slice A1 n1 c1, .bool t1, .slice B1 m1 d1], .int .i64 z] w fun e w' => e = .returned (.bool (decide (q = ((z : Int) : Rat)))) ∧ Ext w w' := by
  have J1 := Lib.hid h1
  clear h1
  obtain ⟨hz1, hz2⟩ := hz
  go_enter Try.func17, Try.ntmps17
  go_wp2_with fail
  have kw1 := Cell4.new w _ rfl (.bool s1) (.slice A1 n1 c1) (.bool t1) (.slice B1 m1 d1) 30
  have hE : Ext w (w.alloc (.cells #[.bool s1, .slice A1 n1 c1, .bool t1, .slice B1 m1 d1] 30)) := Ext.al Ext.rfl' _
  generalize w.alloc (.cells #[.bool s1, .slice A1 n1 c1, .bool t1, .slice B1 m1 d1] 30) = w1 at *
  have Ew1 := Lib.hid hE
  clear hE
  have Kb := Lib.hid kw1
  clear kw1
  refine wp_region_lexS (C := InX w1.drew []) (by kernel_rfl) (by kernel_rfl) (inX_self _ _) ?_
  have hE : Ext w1 w1.drew := Ext.rfl'.drew
  generalize w1.drew = w2 at *
  have Ew2 := Lib.hid hE
  clear hE
  have fb0 := fun z : ExtX w2 [] => z.cell (p := ⟨w.heap.size, 0, none⟩) (Kb.out.ext Ew2.out).1.1 (by simp)
  have fb1 := fun z : ExtX w2 [] => z.cell (p := ⟨w.heap.size, 1, none⟩) (Kb.out.ext Ew2.out).1.2.1 (by simp)
  have fb2 := fun z : ExtX w2 [] => z.cell (p := ⟨w.heap.size, 2, none⟩) (Kb.out.ext Ew2.out).1.2.2.1 (by simp)
  have fb3 := fun z : ExtX w2 [] => z.cell (p := ⟨w.heap.size, 3, none⟩) (Kb.out.ext Ew2.out).1.2.2.2 (by simp)
  repeat (refine lexAt_still (by rfl) ?_; go_big_quiet_step (fail); refine wpQuiet_nil ?_)
  refine lexAt_move (by rfl) (by kernel_rfl) ?_
  go_wp2_with fail
  refine (qfrom_any z w2 ⟨by omega, by omega⟩).mono ?_
  rintro e w3 ⟨sz, Az, nz, cz, tz, Bz, mz, dz, rfl, hQ, hE⟩
  have Ew3 := Lib.hid hE
  clear hE
  have Qz := Lib.hid hQ
  clear hQ
  go_wp2_with fail
  refine And.intro (inX_of_ext _ Ew3.out) ?_
  repeat (refine lexAt_still (by rfl) ?_; go_big_quiet_step (fail); refine wpQuiet_nil ?_)
  refine lexAt_move (by rfl) (by kernel_rfl) ?_
  go_wp2_with fail
  refine (qequal_any s1 A1 n1 c1 t1 B1 m1 d1 _ sz Az nz cz tz Bz mz dz _ w3 (J1.out.ext (Ext.trans Ew1.out (Ext.trans Ew2.out Ew3.out))) (Qz.out.arg (sz_small (z := z) (by omega) (by omega)) (by omega))).mono ?_
  rintro e w4 ⟨rfl, hE⟩
  have Ew4 := Lib.hid hE
  clear hE
  obtain ⟨bb, hbb⟩ : ∃ v, decide (q = ((z : Int) : Rat)) = v := ⟨_, rfl⟩
  rw [hbb]
  have HBB := Lib.hid hbb
  clear hbb
  go_wp2_with fail
  refine And.intro (inX_of_ext _ (Ext.trans Ew3.out Ew4.out)) ?_
  repeat (refine lexAt_still (by rfl) ?_; go_big_quiet_step (fail); refine wpQuiet_nil ?_)
  refine lexAt_nil ?_
  clear fb0 fb1 fb2 fb3
  go_wp2_with fail
  go_ret
  exact ⟨by rw [HBB.out]; rfl, (Ext.trans Ew1.out (Ext.trans Ew2.out (Ext.trans Ew3.out Ew4.out)))⟩
set_option maxRecDepth 100000 in
set_option maxHeartbeats 16000000 in
theorem shared_any (s1 : Bool) (A1 : Option Addr) (n1 c1 : Nat) (t1 : Bool) (B1 : Option Addr) (m1 d1 : Nat) (t : Rat) (P : Option Addr) (k c : Nat) (ts : List Rat) (w : World) (h1 : QIs w s1 A1 n1 c1 t1 B1 m1 d1 t) (l1 : n1 ≤ 10) (l2 : m1 ≤ 10) (h : QsK 10 w P k ts) (hk : k ≤ 5) :
    Calls Try.prog 20 #[.agg #[.bool s1, .slice A1 n1 c1, .bool t1, .slice B1 m1 d1], .slice P k c] w (RetShared w t ts k) := by
  have H1 := Lib.hid h1
  have HT := Lib.hid h
  have HST : Hid (Sz 10 t) := h1.sz l1 l2 (by omega)
  have HSZ : Hid (∀ i, Sz 10 (ts.getD i 0)) := fun i => h.sz (by omega) i
  have HSS : Hid (∀ j, j ≤ 5 → Sz 100 (sumTo ts j)) := fun j hj => (sz_sumTo HSZ.out j).mono (by omega)
  clear h1 h
  go_enter Try.func20, Try.ntmps20
  go_wp2_with fail
  have k0 := (Cell4.new w _ rfl (.bool s1) (.slice A1 n1 c1) (.bool t1) (.slice B1 m1 d1) 30).ext (show Ext (w.alloc (.cells #[.bool s1, .slice A1 n1 c1, .bool t1, .slice B1 m1 d1] 30)) (((w.alloc (.cells #[.bool s1, .slice A1 n1 c1, .bool t1, .slice B1 m1 d1] 30)).alloc (.cells #[.bool false, .slice none 0 0, .bool false, .slice none 0 0] 30)).alloc (.cells #[.bool false, .slice none 0 0, .bool false, .slice none 0 0] 30)) from Ext.al (Ext.al Ext.rfl' _) _)
  have k1 := (Cell4.new (w.alloc (.cells #[.bool s1, .slice A1 n1 c1, .bool t1, .slice B1 m1 d1] 30)) (w.heap.size + 1) (by simp) (.bool false) (.slice none 0 0) (.bool false) (.slice none 0 0) 30).ext (show Ext ((w.alloc (.cells #[.bool s1, .slice A1 n1 c1, .bool t1, .slice B1 m1 d1] 30)).alloc (.cells #[.bool false, .slice none 0 0, .bool false, .slice none 0 0] 30)) (((w.alloc (.cells #[.bool s1, .slice A1 n1 c1, .bool t1, .slice B1 m1 d1] 30)).alloc (.cells #[.bool false, .slice none 0 0, .bool false, .slice none 0 0] 30)).alloc (.cells #[.bool false, .slice none 0 0, .bool false, .slice none 0 0] 30)) from Ext.al Ext.rfl' _)
  have k2 := Cell4.new ((w.alloc (.cells #[.bool s1, .slice A1 n1 c1, .bool t1, .slice B1 m1 d1] 30)).alloc (.cells #[.bool false, .slice none 0 0, .bool false, .slice none 0 0] 30)) (w.heap.size + 1 + 1) (by simp) (.bool false) (.slice none 0 0) (.bool false) (.slice none 0 0) 30
  have hE : Ext w (((w.alloc (.cells #[.bool s1, .slice A1 n1 c1, .bool t1, .slice B1 m1 d1] 30)).alloc (.cells #[.bool false, .slice none 0 0, .bool false, .slice none 0 0] 30)).alloc (.cells #[.bool false, .slice none 0 0, .bool false, .slice none 0 0] 30)) := Ext.al (Ext.al (Ext.al Ext.rfl' _) _) _
  have hsz : (((w.alloc (.cells #[.bool s1, .slice A1 n1 c1, .bool t1, .slice B1 m1 d1] 30)).alloc (.cells #[.bool false, .slice none 0 0, .bool false, .slice none 0 0] 30)).alloc (.cells #[.bool false, .slice none 0 0, .bool false, .slice none 0 0] 30)).heap.size = w.heap.size + 1 + 1 + 1 := by simp
  generalize (((w.alloc (.cells #[.bool s1, .slice A1 n1 c1, .bool t1, .slice B1 m1 d1] 30)).alloc (.cells #[.bool false, .slice none 0 0, .bool false, .slice none 0 0] 30)).alloc (.cells #[.bool false, .slice none 0 0, .bool false, .slice none 0 0] 30)) = wb at *
  have SZ := Lib.hid hsz
  clear hsz
  have Ewb := Lib.hid hE
  clear hE
  have Kt := Lib.hid k0
  clear k0
  have Kr := Lib.hid k1
  clear k1
  have Ks := Lib.hid k2
  clear k2
  have h0sz : w.heap.size + 1 + 1 + 1 ≤ wb.heap.size := by rw [SZ.out]; exact Nat.le_refl _
  obtain ⟨gS, hgS⟩ : ∃ g, w.heap.size + 1 + 1 = g := ⟨_, rfl⟩
  rw [hgS] at Ks h0sz ⊢
  have HGS := Lib.hid hgS
  clear hgS
  go_loopw [16] (fun i wr => ∃ j : Nat, j ≤ k ∧ i = .int .i64 (j : Int) ∧ wb.heap.size ≤ wr.heap.size ∧ Hid (Ext w wr) ∧ Hid (Cell4 wr w.heap.size (.bool s1) (.slice A1 n1 c1) (.bool t1) (.slice B1 m1 d1)) ∧ Hid (Cell4 wr (w.heap.size + 1) (.bool false) (.slice none 0 0) (.bool false) (.slice none 0 0)) ∧ Hid (VarQ wr (gS + 1) [gS] gS (sumTo ts j))) (fun i _ => k - (intOf i).toNat)
  case atStart => exact ⟨0, by omega, rfl, Nat.le_refl _, Ewb.out, Kt.out, Kr.out, ⟨false, none, 0, 0, false, none, 0, 0, Ks.out, qcan_zero _ _, fun x hx => ⟨fun h => absurd h (by omega), fun h => absurd h (by omega)⟩⟩⟩
  case round =>
    obtain ⟨j, hj, rfl, hsr, HER, KTr, KRr, HV⟩ := hrel
    clear Kt Kr Ks
    obtain ⟨sv, Av, nv, cv, tv, Bv, mv, dv, hKv, hQv, hAv⟩ := HV.out
    have KS := Lib.hid hKv
    have Qv := Lib.hid hQv
    have HAv := Lib.hid hAv
    clear hKv hQv hAv HV
    by_cases hlt : j < k
    · have hbv : decide ((j : Int) < (k : Int)) = true := by simp; omega
      have hbv2 : decide (j < k) = true := by simp; omega
      have hz0 : (0 : Int) ≤ (j : Int) := by omega
      have hzn : (j : Int) < (k : Int) := by omega
      obtain ⟨bP, oP, hP, hbP, hcP⟩ := HT.out.2 (by omega)
      subst hP
      obtain ⟨se, Ae, ne, ce, te, Be, me, de, p0, p1, p2, p3, hpi, lp1, lp2⟩ := hcP j hlt
      have He := Lib.hid hpi
      have HSE := Lib.hid (HSZ.out j)
      have HSU : Hid (sumTo ts (j + 1) = sumTo ts j + ts.getD j 0) := rfl
      obtain ⟨pk, hpk⟩ : ∃ v, ts.getD j 0 = v := ⟨_, rfl⟩
      rw [hpk] at He HSE HSU
      clear hpk hcP hpi
      have xp0 := Ext.cellOf HER.out p0
      have xp1 := Ext.cellOf HER.out p1
      have xp2 := Ext.cellOf HER.out p2
      have xp3 := Ext.cellOf HER.out p3
      have zp := World.block_lt_of_cell? _ _ xp0
      clear p0 p1 p2 p3
      obtain ⟨⟨xs0, xs1, xs2, xs3⟩, -, zs⟩ := KS.out
      go_wp2_with fail
      clear xs0 xs1 xs2 xs3 zs
      clear xp0 xp1 xp2 xp3 zp
      have kw5 := Cell4.new wr _ rfl (.bool se) (.slice Ae ne ce) (.bool te) (.slice Be me de) 30
      have hE : Ext wr (wr.alloc (.cells #[.bool se, .slice Ae ne ce, .bool te, .slice Be me de] 30)) := Ext.al Ext.rfl' _
      generalize wr.alloc (.cells #[.bool se, .slice Ae ne ce, .bool te, .slice Be me de] 30) = w5 at *
      have Ew5 := Lib.hid hE
      clear hE
      have Kq := Lib.hid kw5
      clear kw5
      refine (qadd_any sv Av nv cv tv Bv mv dv _ se Ae ne ce te Be me de _ w5 ((Qv.out.ext Ew5.out).arg (HSS.out j (by omega)) (by omega)) ⟨(He.out.ext (Ext.trans HER.out Ew5.out)), by omega, by omega⟩).mono ?_
      rintro e w6 ⟨sz, Az, nz, cz, tz, Bz, mz, dz, rfl, hQ, hE⟩
      have Ew6 := Lib.hid hE
      clear hE
      have Qz := Lib.hid hQ
      clear hQ
      obtain ⟨⟨xs0, xs1, xs2, xs3⟩, ⟨ys0, ys1, ys2, ys3⟩, zs⟩ := (KS.out.ext (Ext.trans Ew5.out Ew6.out))
      go_wp2_with fail
      clear xs0 xs1 xs2 xs3 ys0 ys1 ys2 ys3 zs
      have Ks_1 := Lib.hid ((KS.out.ext (Ext.trans Ew5.out Ew6.out)).put4 (.bool sz) (.slice Az nz cz) (.bool tz) (.slice Bz mz dz))
      have NJ1 := Lib.hid (ext_put4 (Ext.trans HER.out (Ext.trans Ew5.out Ew6.out)) (g := gS) (by have := HGS.out; omega) 0 (.bool sz) (.slice Az nz cz) (.bool tz) (.slice Bz mz dz))
      have NZ1 : Hid (w6.heap.size ≤ (put4 w6 (gS) 0 (.bool sz) (.slice Az nz cz) (.bool tz) (.slice Bz mz dz)).heap.size) := by unfold Hid; rw [put4_size]; exact Nat.le_refl _
      have Kt_1 := Lib.hid ((KTr.out.ext (Ext.trans Ew5.out Ew6.out)).far4 (g := gS) (off := 0) (by have := HGS.out; omega) (.bool sz) (.slice Az nz cz) (.bool tz) (.slice Bz mz dz))
      have Kr_1 := Lib.hid ((KRr.out.ext (Ext.trans Ew5.out Ew6.out)).far4 (g := gS) (off := 0) (by have := HGS.out; omega) (.bool sz) (.slice Az nz cz) (.bool tz) (.slice Bz mz dz))
      have Qz_1 := Lib.hid (Qz.out.put4A (g := gS) (Qz.out.span (.inl (Nat.lt_of_lt_of_le KS.out.2.2 Ew5.out.size))) 0 (.bool sz) (.slice Az nz cz) (.bool tz) (.slice Bz mz dz))
      unfold put4 at Ks_1 NJ1 NZ1 Kt_1 Kr_1 Qz_1
      simp only [Nat.zero_add] at Ks_1 NJ1 NZ1 Kt_1 Kr_1 Qz_1
      generalize ((((w6.setCell ⟨gS, 0, none⟩ (.bool sz)).setCell ⟨gS, 1, none⟩ (.slice Az nz cz)).setCell ⟨gS, 2, none⟩ (.bool tz)).setCell ⟨gS, 3, none⟩ (.slice Bz mz dz)) = w7 at *
      go_roundw
      case rel => exact ⟨j + 1, by omega, by go_num, Nat.le_trans hsr (Nat.le_trans Ew5.out.size (Nat.le_trans Ew6.out.size NZ1.out)), NJ1.out, Kt_1.out, Kr_1.out, ⟨sz, Az, nz, cz, tz, Bz, mz, dz, Ks_1.out, by rw [HSU.out]; exact Qz_1.out.base (Nat.le_trans (by have := HGS.out; omega) Ew5.out.size), fun x hx => by
        simp only [List.mem_cons, List.not_mem_nil, or_false] at hx
        subst hx
        exact (Qz.out.span (.inl (Nat.lt_of_lt_of_le KS.out.2.2 Ew5.out.size)))⟩⟩
      case measure => simp [intOf]; omega
    have hjk : j = k := by omega
    subst hjk
    have hbv : decide ((j : Int) < (j : Int)) = false := by simp
    have hbv2 : decide (j < j) = false := by simp
    have hmk := make_qs j (by omega)
    obtain ⟨⟨xt0, xt1, xt2, xt3⟩, -, zt⟩ := KTr.out
    obtain ⟨⟨xs0, xs1, xs2, xs3⟩, -, zs⟩ := KS.out
    go_wp2_with fail
    clear xt0 xt1 xt2 xt3 zt xs0 xs1 xs2 xs3 zs
    clear hmk hbv hbv2
    have r1 := parts_zero wr wr.heap.size j 30
    have r2 := row4_made wr j #[.bool false, .slice none 0 0, .bool false, .slice none 0 0] 30
    have hE : Ext wr (wr.alloc (.cells (madeCells #[.bool false, .slice none 0 0, .bool false, .slice none 0 0] (j * 4)) 30)) := Ext.al Ext.rfl' _
    generalize (wr.alloc (.cells (madeCells #[.bool false, .slice none 0 0, .bool false, .slice none 0 0] (j * 4)) 30)) = w8 at *
    obtain ⟨gM, hgM⟩ : ∃ g, wr.heap.size = g := ⟨_, rfl⟩
    rw [hgM] at r1 r2 ⊢
    have RZ := Lib.hid r1
    have RM := Lib.hid r2
    have hl1 : gM < w8.heap.size := r1.1.1
    have HGM := Lib.hid hgM
    clear r1 r2 hgM
    have Ew8 := Lib.hid hE
    clear hE
    have HSX : Hid (sumTo ts j ≠ 0 → Sz 111 (t / sumTo ts j)) := fun h0 => sz_divU HST.out (HSS.out j (by omega)) h0
    refine (qdiv_any s1 A1 n1 c1 t1 B1 m1 d1 t sv Av nv cv tv Bv mv dv _ w8 ⟨(H1.out.ext (Ext.trans HER.out Ew8.out)), by omega, by omega⟩ ((Qv.out.ext Ew8.out).arg (HSS.out j (by omega)) (by omega))).mono ?_
    rintro e w9 ⟨sx, Ax, nx, cx, tx, Bx, mx, dx, rfl, hQ, hE⟩
    have Ew9 := Lib.hid hE
    clear hE
    have Qx := Lib.hid hQ
    clear hQ
    have hrM : w.heap.size + 1 < gM := by have := HGM.out; have := HGS.out; have : wr.heap.size ≤ wr.heap.size := (Nat.le_refl _); omega
    by_cases hs0 : sumTo ts j = 0
    · have HS0 := Lib.hid hs0
      rw [if_pos hs0]
      have hb : ((7 : Int) != 0) = true := by decide
      clear hs0
      obtain ⟨⟨xt0, xt1, xt2, xt3⟩, -, zt⟩ := (KTr.out.ext (Ext.trans Ew8.out Ew9.out))
      go_wp2_with fail
      clear xt0 xt1 xt2 xt3 zt
      have kw10 := Cell4.new w9 _ rfl (.bool sx) (.slice Ax nx cx) (.bool tx) (.slice Bx mx dx) 30
      have hE : Ext w9 (w9.alloc (.cells #[.bool sx, .slice Ax nx cx, .bool tx, .slice Bx mx dx] 30)) := Ext.al Ext.rfl' _
      generalize w9.alloc (.cells #[.bool sx, .slice Ax nx cx, .bool tx, .slice Bx mx dx] 30) = w10 at *
      have Ew10 := Lib.hid hE
      clear hE
      have Kx := Lib.hid kw10
      clear kw10
      refine (qcan_any s1 A1 n1 c1 t1 B1 m1 d1 t w10 ⟨(H1.out.ext (Ext.trans HER.out (Ext.trans Ew8.out (Ext.trans Ew9.out Ew10.out)))), by omega, by omega⟩).mono ?_
      rintro e w11 ⟨sf, Af, nf, cf, tf, Bf, mf, df, rfl, hQ, hE⟩
      have Ew11 := Lib.hid hE
      clear hE
      have Qf := Lib.hid hQ
      clear hQ
      obtain ⟨⟨xr0, xr1, xr2, xr3⟩, ⟨yr0, yr1, yr2, yr3⟩, zr⟩ := (KRr.out.ext (Ext.trans Ew8.out (Ext.trans Ew9.out (Ext.trans Ew10.out Ew11.out))))
      go_wp2_with fail
      refine bodyPost_ret (v := .tuple #[.slice (some ⟨gM, 0, none⟩) j j, .agg #[.bool sf, .slice Af nf cf, .bool tf, .slice Bf mf df]]) (by simp [results, Try.results20, go_sem, xr0, xr1, xr2, xr3]) rfl ?_
      have HF := retQ_fill (r := w.heap.size + 1) (by omega) (show w.heap.size + 1 < w10.heap.size from Nat.lt_of_lt_of_le hrM (by rw [← HGM.out]; exact (Nat.le_trans Ew8.out.size (Nat.le_trans Ew9.out.size Ew10.out.size)))) Qf.out (Ext.trans HER.out (Ext.trans Ew8.out (Ext.trans Ew9.out (Ext.trans Ew10.out Ew11.out)))) (.bool sf) (.slice Af nf cf) (.bool tf) (.slice Bf mf df)
      have HPF := (((RZ.out.ext (Ext.trans Ew9.out (Ext.trans Ew10.out Ew11.out))).far (g' := w.heap.size + 1) (by omega) hrM 0 (.bool sf) (.slice Af nf cf) (.bool tf) (.slice Bf mf df)).baseU (B1 := w.heap.size) (by omega)).congrU (f' := bidF t ts j) (fun i => by unfold bidF; rw [if_pos HS0.out])
      unfold put4 at HPF
      simp only [Nat.zero_add] at HPF
      exact ⟨gM, _, _, _, _, _, _, _, _, rfl, by omega, HPF, by unfold opV; rw [if_pos HS0.out]; exact HF.1, HF.2⟩
    have HS0 := Lib.hid hs0
    have HSY := Lib.hid (HSX.out hs0)
    rw [if_neg hs0]
    have hb : ((0 : Int) != 0) = false := by decide
    clear hs0
    go_wp2_with fail
    have kw12 := Cell4.new w9 _ rfl (.bool sx) (.slice Ax nx cx) (.bool tx) (.slice Bx mx dx) 30
    have hE : Ext w9 (w9.alloc (.cells #[.bool sx, .slice Ax nx cx, .bool tx, .slice Bx mx dx] 30)) := Ext.al Ext.rfl' _
    generalize w9.alloc (.cells #[.bool sx, .slice Ax nx cx, .bool tx, .slice Bx mx dx] 30) = w12 at *
    have Ew12 := Lib.hid hE
    clear hE
    have Kx := Lib.hid kw12
    clear kw12
    obtain ⟨gX, hgX⟩ : ∃ g, w9.heap.size = g := ⟨_, rfl⟩
    have HGX := Lib.hid hgX
    rw [hgX] at Kx ⊢
    clear hgX
    have hXM : gM < gX := by have := HGX.out; have : w8.heap.size ≤ w9.heap.size := Ew9.out.size; omega
    have HVX : Hid (VarQ w12 w8.heap.size [gM] gX (t / sumTo ts j)) := ⟨sx, Ax, nx, cx, tx, Bx, mx, dx, Kx.out, (Qx.out.ext Ew12.out).base (Nat.le_refl _), fun x hx => by
      simp only [List.mem_cons, List.not_mem_nil, or_false] at hx
      subst hx
      exact Qx.out.span (.inl (Nat.lt_of_lt_of_le hl1 (Nat.le_refl _)))⟩
    have HMX : Hid (w8.heap.size ≤ w12.heap.size) := (Nat.le_trans Ew9.out.size Ew12.out.size)
    have HPM : Hid (PartsAt w12 w8.heap.size gM j 0 (bidF t ts j)) := ⟨RM.out.ext (Ext.trans Ew9.out Ew12.out), fun i hi => by omega⟩
    go_loopw [40] (fun i ws => ∃ q : Nat, q ≤ j ∧ i = .int .i64 (q : Int) ∧ w12.heap.size ≤ ws.heap.size ∧ Hid (Ext wr ws) ∧ Hid (VarQ ws w8.heap.size [gM] gX (t / sumTo ts j)) ∧ Hid (PartsAt ws w8.heap.size gM j q (bidF t ts j))) (fun i _ => j - (intOf i).toNat)
    case atStart => exact ⟨0, by omega, rfl, Nat.le_refl _, (Ext.trans Ew8.out (Ext.trans Ew9.out Ew12.out)), HVX.out, HPM.out⟩
    case round =>
      obtain ⟨q, hq, rfl, hsq, HES, HVS, HPS⟩ := hrel
      clear HVX HPM Kx Qx
      obtain ⟨sx, Ax, nx, cx, tx, Bx, mx, dx, hKx, hQx, hAx⟩ := HVS.out
      have KX := Lib.hid hKx
      have QX := Lib.hid hQx
      clear hKx hQx hAx
      by_cases hlt : q < j
      rotate_left
      · have hqj : q = j := by omega
        subst hqj
        have hbv : decide ((q : Int) < (q : Int)) = false := by simp
        have hbv2 : decide (q < q) = false := by simp
        obtain ⟨⟨xr0, xr1, xr2, xr3⟩, ⟨yr0, yr1, yr2, yr3⟩, zr⟩ := (KRr.out.ext HES.out)
        go_wp2_with fail
        refine bodyPost_ret (v := .tuple #[.slice (some ⟨gM, 0, none⟩) q q, .agg #[.bool false, .slice none 0 0, .bool false, .slice none 0 0]]) (by simp [results, Try.results20, go_sem, xr0, xr1, xr2, xr3]) rfl ?_
        have HF := retQ_fill (r := w.heap.size + 1) (B0 := w.heap.size + 1 + 1) (by omega) (by omega) (qcan_zero wr (w.heap.size + 1 + 1)) (Ext.trans HER.out HES.out) (.bool false) (.slice none 0 0) (.bool false) (.slice none 0 0)
        have HPF := (HPS.out.far (g' := w.heap.size + 1) (by omega) (Nat.lt_trans hrM hl1) 0 (.bool false) (.slice none 0 0) (.bool false) (.slice none 0 0)).baseU (B1 := w.heap.size) (by omega)
        unfold put4 at HPF
        simp only [Nat.zero_add] at HPF
        exact ⟨gM, _, _, _, _, _, _, _, _, rfl, by omega, HPF, by unfold opV; rw [if_neg HS0.out]; exact HF.1, HF.2⟩
      have hbv : decide ((q : Int) < (j : Int)) = true := by simp; omega
      have hbv2 : decide (q < j) = true := by simp; omega
      have hz0 : (0 : Int) ≤ (q : Int) := by omega
      have hzn : (q : Int) < (j : Int) := by omega
      obtain ⟨bP, oP, hP, hbP, hcP⟩ := HT.out.2 (by omega)
      subst hP
      obtain ⟨se, Ae, ne, ce, te, Be, me, de, p0, p1, p2, p3, hpi, lp1, lp2⟩ := hcP q hlt
      have He := Lib.hid hpi
      have HSE := Lib.hid (HSZ.out q)
      have HBF : Hid (t / sumTo ts j * ts.getD q 0 = bidF t ts j q) := by unfold Hid bidF; rw [if_neg HS0.out]
      obtain ⟨pk, hpk⟩ : ∃ v, ts.getD q 0 = v := ⟨_, rfl⟩
      rw [hpk] at He HSE HBF
      clear hpk hcP hpi
      have xp0 := Ext.cellOf (Ext.trans HER.out HES.out) p0
      have xp1 := Ext.cellOf (Ext.trans HER.out HES.out) p1
      have xp2 := Ext.cellOf (Ext.trans HER.out HES.out) p2
      have xp3 := Ext.cellOf (Ext.trans HER.out HES.out) p3
      have zp := World.block_lt_of_cell? _ _ xp0
      clear p0 p1 p2 p3
      obtain ⟨⟨xx0, xx1, xx2, xx3⟩, -, zx⟩ := KX.out
      go_wp2_with fail
      clear xx0 xx1 xx2 xx3 zx
      clear xp0 xp1 xp2 xp3 zp
      have kw13 := Cell4.new wr _ rfl (.bool se) (.slice Ae ne ce) (.bool te) (.slice Be me de) 30
      have hE : Ext wr (wr.alloc (.cells #[.bool se, .slice Ae ne ce, .bool te, .slice Be me de] 30)) := Ext.al Ext.rfl' _
      generalize wr.alloc (.cells #[.bool se, .slice Ae ne ce, .bool te, .slice Be me de] 30) = w13 at *
      have Ew13 := Lib.hid hE
      clear hE
      have Kq := Lib.hid kw13
      clear kw13
      refine (qmul_any sx Ax nx cx tx Bx mx dx _ se Ae ne ce te Be me de _ w13 ((QX.out.ext Ew13.out).arg HSY.out (by omega)) ⟨(He.out.ext (Ext.trans HER.out (Ext.trans HES.out Ew13.out))), by omega, by omega⟩).mono ?_
      rintro e w14 ⟨sz, Az, nz, cz, tz, Bz, mz, dz, rfl, hQ, hE⟩
      have Ew14 := Lib.hid hE
      clear hE
      have Qz := Lib.hid hQ
      clear hQ
      rw [HBF.out] at Qz
      have HPb := Lib.hid (HPS.out.ext (Ext.trans Ew13.out Ew14.out))
      have HEb := Lib.hid (Ext.trans HES.out (Ext.trans Ew13.out Ew14.out))
      have HVb := Lib.hid (HVS.out.ext (Ext.trans Ew13.out Ew14.out))
      have HQb : Hid (QCan w14 w8.heap.size sz Az nz cz tz Bz mz dz (bidF t ts j q)) := Qz.out.base (Nat.le_trans HMX.out (Nat.le_trans hsq Ew13.out.size))
      obtain ⟨v0, hv0⟩ := HPb.out.1.2.1 (q * 4) (by omega)
      have f0 := HPb.out.1.2.2 (q * 4)
      obtain ⟨v1, hv1⟩ := HPb.out.1.2.1 (q * 4 + 1) (by omega)
      have f1 := HPb.out.1.2.2 (q * 4 + 1)
      obtain ⟨v2, hv2⟩ := HPb.out.1.2.1 (q * 4 + 2) (by omega)
      have f2 := HPb.out.1.2.2 (q * 4 + 2)
      obtain ⟨v3, hv3⟩ := HPb.out.1.2.1 (q * 4 + 3) (by omega)
      have f3 := HPb.out.1.2.2 (q * 4 + 3)
      have hsb : w12.heap.size ≤ w14.heap.size := Nat.le_trans hsq (Nat.le_trans Ew13.out.size Ew14.out.size)
      go_wp2_with fail
      have HPc := Lib.hid (HPb.out.put hlt hl1 HQb.out)
      have HEc := Lib.hid (ext_put4 HEb.out (g := gM) (by rw [← HGM.out]; exact Nat.le_refl _) (q * 4) (.bool sz) (.slice Az nz cz) (.bool tz) (.slice Bz mz dz))
      have HVc := Lib.hid (HVb.out.touchU (touch_put4 _ gM (q * 4) (.bool sz) (.slice Az nz cz) (.bool tz) (.slice Bz mz dz)) (by omega) (by simp))
      have hsc := put4_size w14 gM (q * 4) (.bool sz) (.slice Az nz cz) (.bool tz) (.slice Bz mz dz)
      unfold put4 at HPc HEc HVc hsc
      clear hv0 hv1 hv2 hv3 f0 f1 f2 f3
      go_roundw
      case rel => exact ⟨q + 1, by omega, by go_num, by rw [hsc]; exact hsb, HEc.out, HVc.out, HPc.out⟩
      case measure => simp [intOf]; omega
end Go.Proofs.Ytfokholpgakjpaa
