/- The walk of the law StepMatches. Printed by gen_smatch.py. -/
import Derived.Test.YtppcpklnnbgcjaaGreatAwake23
import Derived.Test.YtppcpklnnbgcjaaGreatSpoil
import Derived.Test.YtppcpklnnbgcjaaGreatRefW
import Derived.Test.YtppcpklnnbgcjaaGreatNeg
namespace Go.Proofs.YtppcpklnnbgcjaaGreat
open Go.RowKit

/-- Cells of steps that may be written. -/
def Wr2 (w : World) (g n : Nat) : Prop := ∀ j, j < n * 2 → (∃ v, w.cell? ⟨g, j, none⟩ = some v) ∧ w.frozen? ⟨g, j, none⟩ = false
theorem Wr2.put {w : World} {g n : Nat} (h : Wr2 w g n) (p : Addr) (v : Value) : Wr2 (w.setCell p v) g n := fun j hj => by
  obtain ⟨⟨u, hu⟩, hf⟩ := h j hj
  exact ⟨cell?_setCell_some hu, by rw [World.frozen?_setCell]; exact hf⟩
theorem SRow.wr2 {w : World} {g n k : Nat} {f : Nat → Int × Int} (h : SRow w g n k f) : Wr2 w g n := fun j hj => ⟨h.2.1 j hj, h.2.2.1 j⟩
theorem Wr2.ext {w w' : World} {g n : Nat} (h : Wr2 w g n) (hb : Ext w w') : Wr2 w' g n := fun j hj => by
  obtain ⟨⟨u, hu⟩, hf⟩ := h j hj
  exact ⟨⟨u, Ext.cellOf hb hu⟩, (hb.frozen (p := ⟨g, j, none⟩) (World.block_lt_of_cell? _ _ hu)).trans hf⟩
set_option maxRecDepth 100000 in
set_option maxHeartbeats 16000000 in
theorem smatch_any (A : Option Addr) (n c : Nat) (xs : List (Int × Int)) (s1 : Bool) (A1 : Option Addr) (n1 c1 : Nat) (t1 : Bool) (B1 : Option Addr) (m1 d1 : Nat) (q : Rat) (w : World) (hs : StepsAt w A n xs) (hn : n ≤ maxLen) (h1 : QIs w s1 A1 n1 c1 t1 B1 m1 d1 q) :
    Calls Tryz.prog 4 #[.slice A n c, .agg #[.bool s1, .slice A1 n1 c1, .bool t1, .slice B1 m1 d1]] w fun e w' => e = .returned (.bool true) ∧ Ext w w' := by
  by_cases h100 : 100 < n
  · have hb : decide ((100 : Int) < (n : Int)) = true := by simp; omega
    have hb2 : decide (100 < n) = true := by simp; omega
    go_enter Tryz.func4, Tryz.ntmps4
    go_wp2_with fail
    refine (awake_any _).mono ?_
    rintro e wz ⟨rfl, hEz⟩
    go_wp2_with fail
    go_ret
    exact ⟨rfl, Ext.trans (Ext.al Ext.rfl' _) hEz⟩
  have hb : decide ((100 : Int) < (n : Int)) = false := by simp; omega
  have hb2 : decide (100 < n) = false := by simp; omega
  have HS := Lib.hid hs
  have H1 := Lib.hid h1
  have HBL : Hid (n1 ≤ maxLen ∧ m1 ≤ maxLen) := by
    obtain ⟨z, y, ⟨_, _, a1, a2, _⟩, ⟨_, _, a3, a4, _⟩, _⟩ := h1
    exact ⟨by omega, by omega⟩
  clear hs h1
  go_enter Tryz.func4, Tryz.ntmps4
  go_wp2_with fail
  have k1 := Cell4.new w _ rfl (.bool s1) (.slice A1 n1 c1) (.bool t1) (.slice B1 m1 d1) 27
  have hE : Ext w (w.alloc (.cells #[.bool s1, .slice A1 n1 c1, .bool t1, .slice B1 m1 d1] 27)) := Ext.al Ext.rfl' _
  have hbk := Blk.new (w.alloc (.cells #[.bool s1, .slice A1 n1 c1, .bool t1, .slice B1 m1 d1] 27)) 27 #[.bool s1, .slice A1 n1 c1, .bool t1, .slice B1 m1 d1]
  have hE1 : Ext (w.alloc (.cells #[.bool s1, .slice A1 n1 c1, .bool t1, .slice B1 m1 d1] 27)) ((w.alloc (.cells #[.bool s1, .slice A1 n1 c1, .bool t1, .slice B1 m1 d1] 27)).alloc (.cells #[.bool s1, .slice A1 n1 c1, .bool t1, .slice B1 m1 d1] 27)) := Ext.al Ext.rfl' _
  rw [show (w.alloc (.cells #[.bool s1, .slice A1 n1 c1, .bool t1, .slice B1 m1 d1] 27)).heap.size = w.heap.size + 1 by simp] at hbk
  generalize (w.alloc (.cells #[.bool s1, .slice A1 n1 c1, .bool t1, .slice B1 m1 d1] 27)).alloc (.cells #[.bool s1, .slice A1 n1 c1, .bool t1, .slice B1 m1 d1] 27) = wb2 at *
  generalize w.alloc (.cells #[.bool s1, .slice A1 n1 c1, .bool t1, .slice B1 m1 d1] 27) = wb1 at *
  have Ewb1 := Lib.hid hE
  clear hE
  have K1 := Lib.hid k1
  clear k1
  have Ewb2 := Lib.hid hE1
  clear hE1
  refine (long_any (w.heap.size + 1) 1 1 (fun _ => (n1, m1)) wb2 ?_ (by omega) ?_).mono ?_
  · intro i hi
    have : i = 0 := by omega
    subst this
    exact ⟨A1, c1, B1, d1, by rw [hbk.cell]; rfl, by rw [hbk.cell]; rfl⟩
  · intro i
    exact HBL.out
  rintro e w1 ⟨⟨bl, rfl, hbl⟩, hE⟩
  have Ew1 := Lib.hid hE
  clear hE
  have HLN : Hid (bl = false → n1 ≤ 6 ∧ m1 ≤ 6) := fun e => hbl.1 e 0 (by omega)
  clear hbk hbl HBL
  cases bl
  rotate_left
  · go_wp2_with fail
    refine (awake_any w1).mono ?_
    rintro e wz ⟨rfl, hEz⟩
    go_wp2_with fail
    go_ret
    exact ⟨rfl, Ext.trans (Ext.trans Ewb1.out (Ext.trans Ewb2.out Ew1.out)) hEz⟩
  obtain ⟨ln1, lm1⟩ := HLN.out rfl
  clear HLN
  have HZ1 : Hid (Sz 6 q) := H1.out.sz (by omega) (by omega) (by omega)
  have hn100 : n ≤ 100 := by omega
  obtain ⟨⟨x10, x11, x12, x13⟩, -, z1⟩ := (K1.out.ext (Ext.trans Ewb2.out Ew1.out))
  go_wp2_with fail
  clear x10 x11 x12 x13 z1
  obtain ⟨la, hla⟩ : ∃ v, wantL true xs q = v := ⟨_, rfl⟩
  have Hla := Lib.hid hla
  have bla : (la != la) = false := by simp
  have ela : (la == la) = true := by simp
  clear hla
  obtain ⟨ua, hua⟩ : ∃ v, wantM true xs q = v := ⟨_, rfl⟩
  have Hua := Lib.hid hua
  have bua : (ua != ua) = false := by simp
  have eua : (ua == ua) = true := by simp
  clear hua
  obtain ⟨ca, hca⟩ : ∃ v, chk true xs = v := ⟨_, rfl⟩
  have Hca := Lib.hid hca
  have bca : (ca != ca) = false := by simp
  have eca : (ca == ca) = true := by simp
  clear hca
  obtain ⟨lb, hlb⟩ : ∃ v, wantL false xs q = v := ⟨_, rfl⟩
  have Hlb := Lib.hid hlb
  have blb : (lb != lb) = false := by simp
  have elb : (lb == lb) = true := by simp
  clear hlb
  obtain ⟨ub, hub⟩ : ∃ v, wantM false xs q = v := ⟨_, rfl⟩
  have Hub := Lib.hid hub
  have bub : (ub != ub) = false := by simp
  have eub : (ub == ub) = true := by simp
  clear hub
  obtain ⟨cb, hcb⟩ : ∃ v, chk false xs = v := ⟨_, rfl⟩
  have Hcb := Lib.hid hcb
  have bcb : (cb != cb) = false := by simp
  have ecb : (cb == cb) = true := by simp
  clear hcb
  obtain ⟨tt, htt⟩ : ∃ v, total xs = v := ⟨_, rfl⟩
  have Htt := Lib.hid htt
  have btt : (tt != tt) = false := by simp
  have ett : (tt == tt) = true := by simp
  clear htt
  refine (supply_any A n c xs s1 A1 n1 c1 t1 B1 m1 d1 q w1 (HS.out.below (Ext.trans Ewb1.out (Ext.trans Ewb2.out Ew1.out))) hn ⟨(H1.out.ext (Ext.trans Ewb1.out (Ext.trans Ewb2.out Ew1.out))), by omega, by omega⟩).mono ?_
  rintro e w2 ⟨rfl, hE⟩
  have Ew2 := Lib.hid hE
  clear hE
  rw [Hla.out, Hua.out, Hca.out]
  obtain ⟨⟨x10, x11, x12, x13⟩, -, z1⟩ := (K1.out.ext (Ext.trans Ewb2.out (Ext.trans Ew1.out Ew2.out)))
  go_wp2_with fail
  clear x10 x11 x12 x13 z1
  refine (rsupply_any A n c xs s1 A1 n1 c1 t1 B1 m1 d1 q w2 (HS.out.below (Ext.trans Ewb1.out (Ext.trans Ewb2.out (Ext.trans Ew1.out Ew2.out)))) hn (H1.out.ext (Ext.trans Ewb1.out (Ext.trans Ewb2.out (Ext.trans Ew1.out Ew2.out)))) (by omega) (by omega)).mono ?_
  rintro e w3 ⟨rfl, hE⟩
  have Ew3 := Lib.hid hE
  clear hE
  rw [Hla.out, Hua.out, Hca.out]
  obtain ⟨⟨x10, x11, x12, x13⟩, -, z1⟩ := (K1.out.ext (Ext.trans Ewb2.out (Ext.trans Ew1.out (Ext.trans Ew2.out Ew3.out))))
  go_wp2_with fail
  clear x10 x11 x12 x13 z1
  refine (demand_any A n c xs s1 A1 n1 c1 t1 B1 m1 d1 q w3 (HS.out.below (Ext.trans Ewb1.out (Ext.trans Ewb2.out (Ext.trans Ew1.out (Ext.trans Ew2.out Ew3.out))))) hn ⟨(H1.out.ext (Ext.trans Ewb1.out (Ext.trans Ewb2.out (Ext.trans Ew1.out (Ext.trans Ew2.out Ew3.out))))), by omega, by omega⟩).mono ?_
  rintro e w4 ⟨rfl, hE⟩
  have Ew4 := Lib.hid hE
  clear hE
  rw [Hlb.out, Hub.out, Hcb.out]
  obtain ⟨⟨x10, x11, x12, x13⟩, -, z1⟩ := (K1.out.ext (Ext.trans Ewb2.out (Ext.trans Ew1.out (Ext.trans Ew2.out (Ext.trans Ew3.out Ew4.out)))))
  go_wp2_with fail
  clear x10 x11 x12 x13 z1
  refine (rdemand_any A n c xs s1 A1 n1 c1 t1 B1 m1 d1 q w4 (HS.out.below (Ext.trans Ewb1.out (Ext.trans Ewb2.out (Ext.trans Ew1.out (Ext.trans Ew2.out (Ext.trans Ew3.out Ew4.out)))))) hn (H1.out.ext (Ext.trans Ewb1.out (Ext.trans Ewb2.out (Ext.trans Ew1.out (Ext.trans Ew2.out (Ext.trans Ew3.out Ew4.out)))))) (by omega) (by omega)).mono ?_
  rintro e w5 ⟨rfl, hE⟩
  have Ew5 := Lib.hid hE
  clear hE
  rw [Hlb.out, Hub.out, Hcb.out]
  obtain ⟨⟨x10, x11, x12, x13⟩, -, z1⟩ := (K1.out.ext (Ext.trans Ewb2.out (Ext.trans Ew1.out (Ext.trans Ew2.out (Ext.trans Ew3.out (Ext.trans Ew4.out Ew5.out))))))
  go_wp2_with fail
  clear x10 x11 x12 x13 z1
  refine (checkOffer_any A n c xs w5 (HS.out.below (Ext.trans Ewb1.out (Ext.trans Ewb2.out (Ext.trans Ew1.out (Ext.trans Ew2.out (Ext.trans Ew3.out (Ext.trans Ew4.out Ew5.out))))))) hn).mono ?_
  rintro e w6 ⟨rfl, hE⟩
  have Ew6 := Lib.hid hE
  clear hE
  rw [Hca.out]
  go_wp2_with fail
  refine (rOffer_any A n c xs w6 (HS.out.below (Ext.trans Ewb1.out (Ext.trans Ewb2.out (Ext.trans Ew1.out (Ext.trans Ew2.out (Ext.trans Ew3.out (Ext.trans Ew4.out (Ext.trans Ew5.out Ew6.out)))))))) hn).mono ?_
  rintro e w7 ⟨rfl, hE⟩
  have Ew7 := Lib.hid hE
  clear hE
  rw [Hca.out]
  go_wp2_with fail
  refine (checkBid_any A n c xs w7 (HS.out.below (Ext.trans Ewb1.out (Ext.trans Ewb2.out (Ext.trans Ew1.out (Ext.trans Ew2.out (Ext.trans Ew3.out (Ext.trans Ew4.out (Ext.trans Ew5.out (Ext.trans Ew6.out Ew7.out))))))))) hn).mono ?_
  rintro e w8 ⟨rfl, hE⟩
  have Ew8 := Lib.hid hE
  clear hE
  rw [Hcb.out]
  go_wp2_with fail
  refine (rBid_any A n c xs w8 (HS.out.below (Ext.trans Ewb1.out (Ext.trans Ewb2.out (Ext.trans Ew1.out (Ext.trans Ew2.out (Ext.trans Ew3.out (Ext.trans Ew4.out (Ext.trans Ew5.out (Ext.trans Ew6.out (Ext.trans Ew7.out Ew8.out)))))))))) hn).mono ?_
  rintro e w9 ⟨rfl, hE⟩
  have Ew9 := Lib.hid hE
  clear hE
  rw [Hcb.out]
  go_wp2_with fail
  refine (sum_any A n c xs w9 (HS.out.below (Ext.trans Ewb1.out (Ext.trans Ewb2.out (Ext.trans Ew1.out (Ext.trans Ew2.out (Ext.trans Ew3.out (Ext.trans Ew4.out (Ext.trans Ew5.out (Ext.trans Ew6.out (Ext.trans Ew7.out (Ext.trans Ew8.out Ew9.out))))))))))) hn).mono ?_
  rintro e w10 ⟨rfl, hE⟩
  have Ew10 := Lib.hid hE
  clear hE
  rw [Htt.out]
  go_wp2_with fail
  refine (rSum_any A n c xs w10 (HS.out.below (Ext.trans Ewb1.out (Ext.trans Ewb2.out (Ext.trans Ew1.out (Ext.trans Ew2.out (Ext.trans Ew3.out (Ext.trans Ew4.out (Ext.trans Ew5.out (Ext.trans Ew6.out (Ext.trans Ew7.out (Ext.trans Ew8.out (Ext.trans Ew9.out Ew10.out)))))))))))) hn).mono ?_
  rintro e w11 ⟨rfl, hE⟩
  have Ew11 := Lib.hid hE
  clear hE
  rw [Htt.out]
  go_wp2_with fail
  go_loopw [17] (fun i wr => ∃ k : Nat, k ≤ 2 ∧ i = .int .i64 k ∧ Hid (Ext w11 wr)) (fun i _ => 2 - (intOf i).toNat)
  case atStart => exact ⟨0, by omega, rfl, Ext.rfl'⟩
  case round =>
    obtain ⟨k, hk, rfl, HEL⟩ := hrel
    by_cases hlt : k < 2
    rotate_left
    · have hbv : decide ((k : Int) < 2) = false := by simp; omega
      have hbv2 : decide (k < 2) = false := by simp; omega
      go_wp2_with fail
      refine (awake_any wr).mono ?_
      rintro e wz ⟨rfl, hEz⟩
      go_wp2_with fail
      go_ret
      exact ⟨rfl, Ext.trans (Ext.trans Ewb1.out (Ext.trans Ewb2.out (Ext.trans Ew1.out (Ext.trans Ew2.out (Ext.trans Ew3.out (Ext.trans Ew4.out (Ext.trans Ew5.out (Ext.trans Ew6.out (Ext.trans Ew7.out (Ext.trans Ew8.out (Ext.trans Ew9.out (Ext.trans Ew10.out (Ext.trans Ew11.out HEL.out))))))))))))) hEz⟩
    · have hbv : decide ((k : Int) < 2) = true := by simp; omega
      have hbv2 : decide (k < 2) = true := by simp; omega
      go_wp2_with fail
      refine (negate_new A n c xs wr (HS.out.below (Ext.trans Ewb1.out (Ext.trans Ewb2.out (Ext.trans Ew1.out (Ext.trans Ew2.out (Ext.trans Ew3.out (Ext.trans Ew4.out (Ext.trans Ew5.out (Ext.trans Ew6.out (Ext.trans Ew7.out (Ext.trans Ew8.out (Ext.trans Ew9.out (Ext.trans Ew10.out (Ext.trans Ew11.out HEL.out)))))))))))))) hn100).mono ?_
      rintro e w12 ⟨ct, rfl, hst, hc1, hc2, hE, hsr⟩
      have HT := Lib.hid hst
      have HWR := Lib.hid hsr.wr2
      clear hst hsr
      have Ew12 := Lib.hid hE
      clear hE
      go_wp2_with fail
      refine (rneg23_any A n c xs w12 (HS.out.below (Ext.trans Ewb1.out (Ext.trans Ewb2.out (Ext.trans Ew1.out (Ext.trans Ew2.out (Ext.trans Ew3.out (Ext.trans Ew4.out (Ext.trans Ew5.out (Ext.trans Ew6.out (Ext.trans Ew7.out (Ext.trans Ew8.out (Ext.trans Ew9.out (Ext.trans Ew10.out (Ext.trans Ew11.out (Ext.trans HEL.out Ew12.out))))))))))))))) hn100).mono ?_
      rintro e w13 ⟨Au, cu, rfl, hst, hu1, hu2, hE⟩
      have HU := Lib.hid hst
      clear hst
      have Ew13 := Lib.hid hE
      clear hE
      go_wp2_with fail
      refine (rsteps_same (some ⟨wr.heap.size, 0, none⟩) n ct (negL xs) Au n cu (negL xs) w13 (HT.out.below Ew13.out) HU.out hn hn).mono ?_
      rintro e w14 ⟨rfl, hE⟩
      rw [decide_eq_true rfl]
      have Ew14 := Lib.hid hE
      clear hE
      go_wp2_with fail
      have hsx : w11.heap.size ≤ wr.heap.size := HEL.out.size
      have HW2 := Lib.hid (HWR.out.ext (Ext.trans Ew13.out Ew14.out))
      have HE2 := Lib.hid (Ext.trans HEL.out (Ext.trans Ew12.out (Ext.trans Ew13.out Ew14.out)))
      have hg := (Nat.le_trans HEL.out.size (Nat.le_trans Ew12.out.size (Nat.le_trans Ew13.out.size Ew14.out.size)))
      obtain ⟨g, hgg⟩ : ∃ g, wr.heap.size = g := ⟨_, rfl⟩
      rw [hgg] at hsx HW2 ⊢
      clear hg HT HWR
      clear hgg
      go_loopw [19] (fun j wr => ∃ l : Nat, l ≤ n ∧ j = .int .i64 l ∧ Hid (Ext w11 wr ∧ Wr2 wr g n)) (fun j _ => n - (intOf j).toNat)
      case atStart => exact ⟨0, by omega, rfl, HE2.out, HW2.out⟩
      case round =>
        obtain ⟨l, hl, rfl, HI⟩ := hrel
        have HE := Lib.hid HI.out.1
        have HW := Lib.hid HI.out.2
        clear HI
        by_cases hll : l < n
        · have hbw : decide ((l : Int) < (n : Int)) = true := by simp; omega
          have hbw2 : decide (l < n) = true := by simp; omega
          obtain ⟨⟨v0, hv0⟩, hf0⟩ := HW.out (l * 2) (by omega)
          obtain ⟨⟨v1, hv1⟩, hf1⟩ := HW.out (l * 2 + 1) (by omega)
          have hgl := World.block_lt_of_cell? _ _ hv0
          have hy0 : (0 : Int) ≤ (l : Int) := by omega
          have hyn : (l : Int) < (n : Int) := by omega
          have HP : Hid (Ext w11 ((wr.setCell ⟨g, l * 2, none⟩ (.int .i64 0)).setCell ⟨g, l * 2 + 1, none⟩ (.int .i64 0)) ∧ Wr2 ((wr.setCell ⟨g, l * 2, none⟩ (.int .i64 0)).setCell ⟨g, l * 2 + 1, none⟩ (.int .i64 0)) g n) := ⟨Below.setCell (Below.setCell HE.out (p := ⟨g, l * 2, none⟩) hsx _) (p := ⟨g, l * 2 + 1, none⟩) hsx _, (HW.out.put _ _).put _ _⟩
          go_wp2_with fail
          go_roundw
          case rel => exact ⟨l + 1, by omega, by go_num, HP.out⟩
          case measure => simp [intOf]; omega
        · have hbw : decide ((l : Int) < (n : Int)) = false := by simp; omega
          have hbw2 : decide (l < n) = false := by simp; omega
          go_wp2_with fail
          go_roundw
          case rel => exact ⟨k + 1, by omega, by go_num, HE.out⟩
          case measure => simp [intOf]; omega
end Go.Proofs.YtppcpklnnbgcjaaGreat
