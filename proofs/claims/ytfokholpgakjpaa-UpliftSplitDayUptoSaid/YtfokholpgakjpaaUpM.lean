/- Contracts of uplift.Made and vec.FromInts. Printed by gen_upm.py. -/
import Derived.Test.YtfokholpgakjpaaUpB
namespace Go.Proofs.Ytfokholpgakjpaa
open Go.RowKit

/-- A row of rationals in new memory. -/
def RetRow (w : World) (n : Nat) (f : Nat → Rat) (e : Ending) (w' : World) : Prop := ∃ g, e = .returned (.slice (some ⟨g, 0, none⟩) n n) ∧ w.heap.size ≤ g ∧ PartsAt w' w.heap.size g n n f ∧ Ext w w'
/-- What a unit is paid. -/
def madeF (cs rs : List Rat) (i : Nat) : Rat := maxQ (cs.getD i 0 - rs.getD i 0) 0
theorem sz_made {K : Nat} {p q : Rat} (hp : Sz K p) (hq : Sz K q) : Sz (2 * K + 2) (maxQ (p - q) 0) := by
  unfold maxQ
  split
  · exact sz_zero.mono (by omega)
  · exact (hp.sub hq).mono (by omega)
/-- The whole integers of a list. -/
def ratF (zs : List Int) (i : Nat) : Rat := ((zs.getD i 0 : Int) : Rat)
def IntsU (w : World) (A : Option Addr) (n : Nat) (zs : List Int) : Prop := zs.length = n ∧ (0 < n → ∃ b off, A = some ⟨b, off, none⟩ ∧ b < w.heap.size ∧ ∀ i, i < n → w.cell? ⟨b, off + i, none⟩ = some (.int .i64 (zs.getD i 0)))
theorem IntsU.ext {w w' : World} {A : Option Addr} {n : Nat} {zs : List Int} (h : IntsU w A n zs) (hb : Ext w w') : IntsU w' A n zs := by
  refine ⟨h.1, fun hn => ?_⟩
  obtain ⟨b, off, ha, hlt, hc⟩ := h.2 hn
  exact ⟨b, off, ha, Nat.lt_of_lt_of_le hlt hb.size, fun i hi => Ext.cellOf hb (hc i hi)⟩
theorem intsU_lit (w : World) (t : TypeId) (cs : Array Value) (zs : List Int) (h : cs = (zs.map (Value.int .i64)).toArray) : IntsU (w.alloc (.cells cs t)) (some ⟨w.heap.size, 0, none⟩) zs.length zs := by
  refine ⟨rfl, fun _ => ⟨w.heap.size, 0, rfl, by simp, fun i hi => ?_⟩⟩
  have hb := Blk.new w t cs
  rw [Nat.zero_add, hb.cell, h]
  simp [List.getD, List.getElem?_eq_getElem hi]
set_option maxRecDepth 100000 in
set_option maxHeartbeats 4000000 in
theorem fromInts_any (A : Option Addr) (n c : Nat) (zs : List Int) (w : World) (h : IntsU w A n zs) (hn : n ≤ 100) (hz : ∀ i, i < n → I64r (zs.getD i 0)) :
    Calls Try.prog 19 #[.slice A n c] w (RetRow w n (ratF zs)) := by
  have H := Lib.hid h
  have HZ := Lib.hid hz
  clear h hz
  have hmk := make_qs n (by omega)
  go_enter Try.func19, Try.ntmps19
  go_wp2_with fail
  clear hmk
  have r1 := row4_made w n #[.bool false, .slice none 0 0, .bool false, .slice none 0 0] 30
  have hE : Ext w (w.alloc (.cells (madeCells #[.bool false, .slice none 0 0, .bool false, .slice none 0 0] (n * 4)) 30)) := Ext.al Ext.rfl' _
  generalize (w.alloc (.cells (madeCells #[.bool false, .slice none 0 0, .bool false, .slice none 0 0] (n * 4)) 30)) = wm at *
  obtain ⟨gM, hgM⟩ : ∃ g, w.heap.size = g := ⟨_, rfl⟩
  rw [hgM] at r1 ⊢
  have R1 := Lib.hid r1
  have HE1 := Lib.hid hE
  have hl1 : gM < wm.heap.size := r1.1
  have HGM := Lib.hid hgM
  clear r1 hE hgM
  go_loopw [11] (fun i wr => ∃ k : Nat, k ≤ n ∧ i = .int .i64 k ∧ wm.heap.size ≤ wr.heap.size ∧ Hid (Ext w wr) ∧ Hid (PartsAt wr wm.heap.size gM n k (ratF zs))) (fun i _ => n - (intOf i).toNat)
  case atStart => exact ⟨0, by omega, rfl, Nat.le_refl _, HE1.out, R1.out, fun i hi => by omega⟩
  case round =>
    obtain ⟨k, hk, rfl, hsr, HER, HPR⟩ := hrel
    by_cases hlt : k < n
    rotate_left
    · have hkn : k = n := by omega
      subst hkn
      have hbv : decide ((k : Int) < (k : Int)) = false := by simp
      have hbv2 : decide (k < k) = false := by simp
      go_wp2_with fail
      go_ret
      exact ⟨gM, rfl, by rw [HGM.out]; exact Nat.le_refl _, ⟨HPR.out.1, fun i hi => by
          obtain ⟨a1, a2, a3, a4, a5, a6, a7, a8, b1, b2, b3, b4, b5⟩ := HPR.out.2 i hi
          exact ⟨a1, a2, a3, a4, a5, a6, a7, a8, b1, b2, b3, b4, b5.base (by rw [HGM.out]; omega)⟩⟩, HER.out⟩
    have hbv : decide ((k : Int) < (n : Int)) = true := by simp; omega
    have hbv2 : decide (k < n) = true := by simp; omega
    have hz0 : (0 : Int) ≤ (k : Int) := by omega
    have hzn : (k : Int) < (n : Int) := by omega
    obtain ⟨b, off, rfl, hb, hc⟩ := (H.out.ext HER.out).2 (by omega)
    have xz := hc k hlt
    have zz := World.block_lt_of_cell? _ _ xz
    have HRF : Hid (ratF zs k = ((zs.getD k 0 : Int) : Rat)) := rfl
    have HZK := Lib.hid (HZ.out k hlt)
    obtain ⟨z, hzz⟩ : ∃ z, zs.getD k 0 = z := ⟨_, rfl⟩
    rw [hzz] at xz HRF HZK
    clear hc hb hzz
    go_wp2_with fail
    clear xz zz
    refine (qfrom_any z wr HZK.out).mono ?_
    rintro e w1 ⟨sz, Az, nz, cz, tz, Bz, mz, dz, rfl, hQ, hE⟩
    have Ew1 := Lib.hid hE
    clear hE
    have Qz := Lib.hid hQ
    clear hQ
    rw [← HRF.out] at Qz
    have HPb := Lib.hid (HPR.out.ext Ew1.out)
    have HEb := Lib.hid (Ext.trans HER.out Ew1.out)
    have HQb : Hid (QCan w1 wm.heap.size sz Az nz cz tz Bz mz dz (ratF zs k)) := Qz.out.base (Nat.le_trans hsr (Nat.le_refl _))
    obtain ⟨v0, hv0⟩ := HPb.out.1.2.1 (k * 4) (by omega)
    have f0 := HPb.out.1.2.2 (k * 4)
    obtain ⟨v1, hv1⟩ := HPb.out.1.2.1 (k * 4 + 1) (by omega)
    have f1 := HPb.out.1.2.2 (k * 4 + 1)
    obtain ⟨v2, hv2⟩ := HPb.out.1.2.1 (k * 4 + 2) (by omega)
    have f2 := HPb.out.1.2.2 (k * 4 + 2)
    obtain ⟨v3, hv3⟩ := HPb.out.1.2.1 (k * 4 + 3) (by omega)
    have f3 := HPb.out.1.2.2 (k * 4 + 3)
    have hsb : wm.heap.size ≤ w1.heap.size := Nat.le_trans hsr Ew1.out.size
    go_wp2_with fail
    have HPc := Lib.hid (HPb.out.put hlt hl1 HQb.out)
    have HEc := Lib.hid (ext_put4 HEb.out (g := gM) (by rw [← HGM.out]; exact Nat.le_refl _) (k * 4) (.bool sz) (.slice Az nz cz) (.bool tz) (.slice Bz mz dz))
    have hsc := put4_size w1 gM (k * 4) (.bool sz) (.slice Az nz cz) (.bool tz) (.slice Bz mz dz)
    unfold put4 at HPc HEc hsc
    clear hv0 hv1 hv2 hv3 f0 f1 f2 f3
    go_roundw
    case rel => exact ⟨k + 1, by omega, by go_num, by rw [hsc]; exact hsb, HEc.out, HPc.out⟩
    case measure => simp [intOf]; omega
set_option maxRecDepth 100000 in
set_option maxHeartbeats 4000000 in
theorem made_any (P1 : Option Addr) (k1 c1 : Nat) (cs : List Rat) (P2 : Option Addr) (k2 c2 : Nat) (rs : List Rat) (w : World) (h1 : QsK 1048576 w P1 k1 cs) (h2 : QsK 1048576 w P2 k2 rs) (hk1 : k1 ≤ 100) (hk2 : k2 ≤ 100) :
    Calls Try.prog 8 #[.slice P1 k1 c1, .slice P2 k2 c2] w (RetRow w (max k1 k2) (madeF cs rs)) := by
  have H1 := Lib.hid h1
  have H2 := Lib.hid h2
  clear h1 h2
  obtain ⟨N, hN⟩ : ∃ v, max k1 k2 = v := ⟨_, rfl⟩
  have hN100 : N ≤ 100 := by omega
  have HN := Lib.hid hN
  rw [hN]
  have hmk1 := make_qs k1 (by omega)
  have hmk2 := make_qs k2 (by omega)
  clear hN
  go_enter Try.func8, Try.ntmps8
  go_wp2_with fail
  · skip
    obtain rfl : N = k2 := by
      have := HN.out
      omega
    clear hmk1 hmk2 HN
    have r1 := row4_made w N #[.bool false, .slice none 0 0, .bool false, .slice none 0 0] 30
    have hE : Ext w (w.alloc (.cells (madeCells #[.bool false, .slice none 0 0, .bool false, .slice none 0 0] (N * 4)) 30)) := Ext.al Ext.rfl' _
    generalize (w.alloc (.cells (madeCells #[.bool false, .slice none 0 0, .bool false, .slice none 0 0] (N * 4)) 30)) = wm at *
    obtain ⟨gM, hgM⟩ : ∃ g, w.heap.size = g := ⟨_, rfl⟩
    rw [hgM] at r1 ⊢
    have R1 := Lib.hid r1
    have HE1 := Lib.hid hE
    have hl1 : gM < wm.heap.size := r1.1
    have HGM := Lib.hid hgM
    clear r1 hE hgM
    go_loopw [15] (fun i wr => ∃ k : Nat, k ≤ N ∧ i = .int .i64 k ∧ wm.heap.size ≤ wr.heap.size ∧ Hid (Ext w wr) ∧ Hid (PartsAt wr wm.heap.size gM N k (madeF cs rs))) (fun i _ => N - (intOf i).toNat)
    case atStart => exact ⟨0, by omega, rfl, Nat.le_refl _, HE1.out, R1.out, fun i hi => by omega⟩
    case round =>
      obtain ⟨k, hk, rfl, hsr, HER, HPR⟩ := hrel
      by_cases hlt : k < N
      rotate_left
      · have hkn : k = N := by omega
        subst hkn
        have hbv : decide ((k : Int) < (k : Int)) = false := by simp
        have hbv2 : decide (k < k) = false := by simp
        go_wp2_with fail
        go_ret
        exact ⟨gM, rfl, by rw [HGM.out]; exact Nat.le_refl _, ⟨HPR.out.1, fun i hi => by
            obtain ⟨a1, a2, a3, a4, a5, a6, a7, a8, b1, b2, b3, b4, b5⟩ := HPR.out.2 i hi
            exact ⟨a1, a2, a3, a4, a5, a6, a7, a8, b1, b2, b3, b4, b5.base (by rw [HGM.out]; omega)⟩⟩, HER.out⟩
      have hbv : decide ((k : Int) < (N : Int)) = true := by simp; omega
      have hbv2 : decide (k < N) = true := by simp; omega
      have hz0 : (0 : Int) ≤ (k : Int) := by omega
      have hzn : (k : Int) < (N : Int) := by omega
      go_wp2_with fail
      refine (element_any 1048576 P1 k1 c1 cs k wr (H1.out.ext HER.out) (by omega) (by omega)).mono ?_
      rintro e w2 ⟨sa, Aa, na, ca, ta, Ba, ma, da, rfl, hI, la1, la2, hE⟩
      have Ia := Lib.hid hI
      clear hI
      have Ew2 := Lib.hid hE
      clear hE
      go_wp2_with fail
      refine (element_any 1048576 P2 N c2 rs k w2 (H2.out.ext (Ext.trans HER.out Ew2.out)) (by omega) (by omega)).mono ?_
      rintro e w3 ⟨sb, Ab, nb, cb, tb, Bb, mb, db, rfl, hI, lb1, lb2, hE⟩
      have Ib := Lib.hid hI
      clear hI
      have Ew3 := Lib.hid hE
      clear hE
      go_wp2_with fail
      have HSA : Hid (Sz 1048576 (cs.getD k 0)) := H1.out.sz (by omega) k
      have HSB : Hid (Sz 1048576 (rs.getD k 0)) := H2.out.sz (by omega) k
      have HMF : Hid (maxQ (cs.getD k 0 - rs.getD k 0) 0 = madeF cs rs k) := rfl
      obtain ⟨pa, hpa⟩ : ∃ v, cs.getD k 0 = v := ⟨_, rfl⟩
      obtain ⟨pb, hpb⟩ : ∃ v, rs.getD k 0 = v := ⟨_, rfl⟩
      rw [hpa] at Ia HSA HMF
      rw [hpb] at Ib HSB HMF
      clear hpa hpb
      refine (qsub_any sa Aa na ca ta Ba ma da pa sb Ab nb cb tb Bb mb db pb w3 ⟨(Ia.out.ext Ew3.out), by omega, by omega⟩ ⟨Ib.out, by omega, by omega⟩).mono ?_
      rintro e w4 ⟨sv, Av, nv, cv, tv, Bv, mv, dv, rfl, hQ, hE⟩
      have Ew4 := Lib.hid hE
      clear hE
      have Qv := Lib.hid hQ
      clear hQ
      go_wp2_with fail
      refine (qmax_any sv Av nv cv tv Bv mv dv _ false none 0 0 false none 0 0 0 w4 (Qv.out.arg (HSA.out.sub HSB.out) (by omega)) ⟨(qcan_zero _ 0).is, by omega, by omega⟩).mono ?_
      rintro e w5 ⟨sz, Az, nz, cz, tz, Bz, mz, dz, rfl, hQ, hE⟩
      have Ew5 := Lib.hid hE
      clear hE
      have Qz := Lib.hid hQ
      clear hQ
      rw [HMF.out] at Qz
      have HPb := Lib.hid (HPR.out.ext (Ext.trans Ew2.out (Ext.trans Ew3.out (Ext.trans Ew4.out Ew5.out))))
      have HEb := Lib.hid (Ext.trans HER.out (Ext.trans Ew2.out (Ext.trans Ew3.out (Ext.trans Ew4.out Ew5.out))))
      have HQb : Hid (QCan w5 wm.heap.size sz Az nz cz tz Bz mz dz (madeF cs rs k)) := Qz.out.base (Nat.le_trans hsr (Nat.le_trans Ew2.out.size (Nat.le_trans Ew3.out.size Ew4.out.size)))
      obtain ⟨v0, hv0⟩ := HPb.out.1.2.1 (k * 4) (by omega)
      have f0 := HPb.out.1.2.2 (k * 4)
      obtain ⟨v1, hv1⟩ := HPb.out.1.2.1 (k * 4 + 1) (by omega)
      have f1 := HPb.out.1.2.2 (k * 4 + 1)
      obtain ⟨v2, hv2⟩ := HPb.out.1.2.1 (k * 4 + 2) (by omega)
      have f2 := HPb.out.1.2.2 (k * 4 + 2)
      obtain ⟨v3, hv3⟩ := HPb.out.1.2.1 (k * 4 + 3) (by omega)
      have f3 := HPb.out.1.2.2 (k * 4 + 3)
      have hsb : wm.heap.size ≤ w5.heap.size := Nat.le_trans hsr (Nat.le_trans Ew2.out.size (Nat.le_trans Ew3.out.size (Nat.le_trans Ew4.out.size Ew5.out.size)))
      go_wp2_with fail
      have HPc := Lib.hid (HPb.out.put hlt hl1 HQb.out)
      have HEc := Lib.hid (ext_put4 HEb.out (g := gM) (by rw [← HGM.out]; exact Nat.le_refl _) (k * 4) (.bool sz) (.slice Az nz cz) (.bool tz) (.slice Bz mz dz))
      have hsc := put4_size w5 gM (k * 4) (.bool sz) (.slice Az nz cz) (.bool tz) (.slice Bz mz dz)
      unfold put4 at HPc HEc hsc
      clear hv0 hv1 hv2 hv3 f0 f1 f2 f3
      go_roundw
      case rel => exact ⟨k + 1, by omega, by go_num, by rw [hsc]; exact hsb, HEc.out, HPc.out⟩
      case measure => simp [intOf]; omega
  · skip
    obtain rfl : N = k1 := by
      have := HN.out
      omega
    clear hmk1 hmk2 HN
    have r1 := row4_made w N #[.bool false, .slice none 0 0, .bool false, .slice none 0 0] 30
    have hE : Ext w (w.alloc (.cells (madeCells #[.bool false, .slice none 0 0, .bool false, .slice none 0 0] (N * 4)) 30)) := Ext.al Ext.rfl' _
    generalize (w.alloc (.cells (madeCells #[.bool false, .slice none 0 0, .bool false, .slice none 0 0] (N * 4)) 30)) = wm at *
    obtain ⟨gM, hgM⟩ : ∃ g, w.heap.size = g := ⟨_, rfl⟩
    rw [hgM] at r1 ⊢
    have R1 := Lib.hid r1
    have HE1 := Lib.hid hE
    have hl1 : gM < wm.heap.size := r1.1
    have HGM := Lib.hid hgM
    clear r1 hE hgM
    go_loopw [15] (fun i wr => ∃ k : Nat, k ≤ N ∧ i = .int .i64 k ∧ wm.heap.size ≤ wr.heap.size ∧ Hid (Ext w wr) ∧ Hid (PartsAt wr wm.heap.size gM N k (madeF cs rs))) (fun i _ => N - (intOf i).toNat)
    case atStart => exact ⟨0, by omega, rfl, Nat.le_refl _, HE1.out, R1.out, fun i hi => by omega⟩
    case round =>
      obtain ⟨k, hk, rfl, hsr, HER, HPR⟩ := hrel
      by_cases hlt : k < N
      rotate_left
      · have hkn : k = N := by omega
        subst hkn
        have hbv : decide ((k : Int) < (k : Int)) = false := by simp
        have hbv2 : decide (k < k) = false := by simp
        go_wp2_with fail
        go_ret
        exact ⟨gM, rfl, by rw [HGM.out]; exact Nat.le_refl _, ⟨HPR.out.1, fun i hi => by
            obtain ⟨a1, a2, a3, a4, a5, a6, a7, a8, b1, b2, b3, b4, b5⟩ := HPR.out.2 i hi
            exact ⟨a1, a2, a3, a4, a5, a6, a7, a8, b1, b2, b3, b4, b5.base (by rw [HGM.out]; omega)⟩⟩, HER.out⟩
      have hbv : decide ((k : Int) < (N : Int)) = true := by simp; omega
      have hbv2 : decide (k < N) = true := by simp; omega
      have hz0 : (0 : Int) ≤ (k : Int) := by omega
      have hzn : (k : Int) < (N : Int) := by omega
      go_wp2_with fail
      refine (element_any 1048576 P1 N c1 cs k wr (H1.out.ext HER.out) (by omega) (by omega)).mono ?_
      rintro e w6 ⟨sa, Aa, na, ca, ta, Ba, ma, da, rfl, hI, la1, la2, hE⟩
      have Ia := Lib.hid hI
      clear hI
      have Ew6 := Lib.hid hE
      clear hE
      go_wp2_with fail
      refine (element_any 1048576 P2 k2 c2 rs k w6 (H2.out.ext (Ext.trans HER.out Ew6.out)) (by omega) (by omega)).mono ?_
      rintro e w7 ⟨sb, Ab, nb, cb, tb, Bb, mb, db, rfl, hI, lb1, lb2, hE⟩
      have Ib := Lib.hid hI
      clear hI
      have Ew7 := Lib.hid hE
      clear hE
      go_wp2_with fail
      have HSA : Hid (Sz 1048576 (cs.getD k 0)) := H1.out.sz (by omega) k
      have HSB : Hid (Sz 1048576 (rs.getD k 0)) := H2.out.sz (by omega) k
      have HMF : Hid (maxQ (cs.getD k 0 - rs.getD k 0) 0 = madeF cs rs k) := rfl
      obtain ⟨pa, hpa⟩ : ∃ v, cs.getD k 0 = v := ⟨_, rfl⟩
      obtain ⟨pb, hpb⟩ : ∃ v, rs.getD k 0 = v := ⟨_, rfl⟩
      rw [hpa] at Ia HSA HMF
      rw [hpb] at Ib HSB HMF
      clear hpa hpb
      refine (qsub_any sa Aa na ca ta Ba ma da pa sb Ab nb cb tb Bb mb db pb w7 ⟨(Ia.out.ext Ew7.out), by omega, by omega⟩ ⟨Ib.out, by omega, by omega⟩).mono ?_
      rintro e w8 ⟨sv, Av, nv, cv, tv, Bv, mv, dv, rfl, hQ, hE⟩
      have Ew8 := Lib.hid hE
      clear hE
      have Qv := Lib.hid hQ
      clear hQ
      go_wp2_with fail
      refine (qmax_any sv Av nv cv tv Bv mv dv _ false none 0 0 false none 0 0 0 w8 (Qv.out.arg (HSA.out.sub HSB.out) (by omega)) ⟨(qcan_zero _ 0).is, by omega, by omega⟩).mono ?_
      rintro e w9 ⟨sz, Az, nz, cz, tz, Bz, mz, dz, rfl, hQ, hE⟩
      have Ew9 := Lib.hid hE
      clear hE
      have Qz := Lib.hid hQ
      clear hQ
      rw [HMF.out] at Qz
      have HPb := Lib.hid (HPR.out.ext (Ext.trans Ew6.out (Ext.trans Ew7.out (Ext.trans Ew8.out Ew9.out))))
      have HEb := Lib.hid (Ext.trans HER.out (Ext.trans Ew6.out (Ext.trans Ew7.out (Ext.trans Ew8.out Ew9.out))))
      have HQb : Hid (QCan w9 wm.heap.size sz Az nz cz tz Bz mz dz (madeF cs rs k)) := Qz.out.base (Nat.le_trans hsr (Nat.le_trans Ew6.out.size (Nat.le_trans Ew7.out.size Ew8.out.size)))
      obtain ⟨v0, hv0⟩ := HPb.out.1.2.1 (k * 4) (by omega)
      have f0 := HPb.out.1.2.2 (k * 4)
      obtain ⟨v1, hv1⟩ := HPb.out.1.2.1 (k * 4 + 1) (by omega)
      have f1 := HPb.out.1.2.2 (k * 4 + 1)
      obtain ⟨v2, hv2⟩ := HPb.out.1.2.1 (k * 4 + 2) (by omega)
      have f2 := HPb.out.1.2.2 (k * 4 + 2)
      obtain ⟨v3, hv3⟩ := HPb.out.1.2.1 (k * 4 + 3) (by omega)
      have f3 := HPb.out.1.2.2 (k * 4 + 3)
      have hsb : wm.heap.size ≤ w9.heap.size := Nat.le_trans hsr (Nat.le_trans Ew6.out.size (Nat.le_trans Ew7.out.size (Nat.le_trans Ew8.out.size Ew9.out.size)))
      go_wp2_with fail
      have HPc := Lib.hid (HPb.out.put hlt hl1 HQb.out)
      have HEc := Lib.hid (ext_put4 HEb.out (g := gM) (by rw [← HGM.out]; exact Nat.le_refl _) (k * 4) (.bool sz) (.slice Az nz cz) (.bool tz) (.slice Bz mz dz))
      have hsc := put4_size w9 gM (k * 4) (.bool sz) (.slice Az nz cz) (.bool tz) (.slice Bz mz dz)
      unfold put4 at HPc HEc hsc
      clear hv0 hv1 hv2 hv3 f0 f1 f2 f3
      go_roundw
      case rel => exact ⟨k + 1, by omega, by go_num, by rw [hsc]; exact hsb, HEc.out, HPc.out⟩
      case measure => simp [intOf]; omega
end Go.Proofs.Ytfokholpgakjpaa
