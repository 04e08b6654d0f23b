/- A part of the proof. -/
import Derived.Test.YtjinpfnefeiooaaGreatRefPH
namespace Go.Proofs.YtjinpfnefeiooaaGreat
open Go.RowKit

set_option maxRecDepth 100000 in
set_option maxHeartbeats 4000000 in
theorem rstarts_any (u : U) (A : Option Addr) (n c : Nat) (R : Option Addr) (m d : Nat) (row : List Bool) (w : World) (hs : StepsAt w A n u.steps) (hn : n ≤ maxLen) (hr : BoolsAt w R m row) (hm : m ≤ 1000) (hok : u.ok = true) :
  Calls Tryz.prog 65 #[u.val A n c, .slice R m d] w fun e w' => e = .returned (.int .i64 (u.starts row)) ∧ Ext w w' := by
 have HI : Hid (u.starts row = 0 + startsFrom (decide (0 < u.on)) (row.drop 0)) := by unfold Hid U.starts; rw [hok]; simp
 have HS := LH hs
 have HB := LH hr
 have HL := LH hr.1
 have HOK := LH hok
 clear hs hr hok
 go_enter Tryz.func65, Tryz.ntmps65
 go_wp2_with fail
 have hb1 : Ext w (w.alloc (.cells #[.int .i64 u.bus, .int .i64 u.mn, .slice A n c, .int .i64 u.up, .int .i64 u.down, .int .i64 u.start, .int .i64 u.idle, .int .i64 u.spin, .int .i64 u.on] 24)) := Ext.al Ext.rfl' _
 have hu := UBox.new w w.heap.size rfl u A n c 24
 generalize w.alloc (.cells #[.int .i64 u.bus, .int .i64 u.mn, .slice A n c, .int .i64 u.up, .int .i64 u.down, .int .i64 u.start, .int .i64 u.idle, .int .i64 u.spin, .int .i64 u.on] 24) = w1 at *
 have HU := LH hu
 have HE := LH hb1
 clear hu hb1
 go_loopw [5, 6, 7] (fun s p i wr => ∃ (k : Nat) (q : Int) (on : Bool), k ≤ m ∧ i = .int .i64 k ∧ s = .int .i64 q ∧ p = .bool on ∧ 0 ≤ q ∧ q ≤ k ∧ Hid (u.starts row = q + startsFrom on (row.drop k)) ∧ Hid (Ext w1 wr)) (fun _ _ i _ => m - (intOf i).toNat)
 case atStart => exact ⟨0, 0, decide (0 < u.on), Nat.zero_le _, rfl, rfl, rfl, by omega, by omega, HI, Ext.rfl'⟩
 case round =>
  obtain ⟨k, q, p, hk, rfl, rfl, rfl, hq0, hqk, HF, HEr⟩ := hrel
  by_cases hlt : k < m
  ·have hbv : decide ((k : Int) < (m : Int)) = true := by simp; omega
   have hbv2 : decide (k < m) = true := by simp; omega
   obtain ⟨b, off, rfl, hbl, hcell⟩ := HB.out.2 (by omega)
   have HC := LH (hcell k hlt)
   clear hcell
   have HN := LH (starts_at (p := p) (xs := row) (k := k) (by rw [HL.out]; exact hlt))
   generalize row.getD k false = on at *
   obtain ⟨d0, d1, d2, d3, d4, d5, d6, d7, d8⟩ := HU.out.ext HEr.out
   have hsb := World.block_lt_of_cell? _ _ d0
   go_wp2_with fail
   clear d0 d1 d2 d3 d4 d5 d6 d7 d8 hsb
   refine (rMay_any u A n c wr (HS.out.below (ET HE.out HEr.out)) hn).mono ?_
   rintro e w2 ⟨rfl, hE2⟩
   rw [HOK.out]
   have HE2 := LH (ET HEr.out hE2)
   clear hE2
   have c1 := Ext.cellOf (ET HE.out HE2.out) HC.out
   have hz0 : (0 : Int) ≤ (k : Int) := by omega
   have hzn : (k : Int) < (m : Int) := by omega
   cases on <;> cases p
   all_goals
    go_wp2_with fail
    go_roundw
    case rel => exact ⟨k + 1, _, _, by omega, by go_num, rfl, rfl, by omega, by omega, HF.out.trans (by rw [HN.out]; simp; try omega), HE2.out⟩
    case measure => simp [intOf]; omega
  ·have hbv : decide ((k : Int) < (m : Int)) = false := by simp; omega
   have hbv2 : decide (k < m) = false := by simp; omega
   have HV : Hid (q = u.starts row) := by
    unfold Hid
    rw [HF.out, List.drop_eq_nil_of_le (by rw [HL.out]; omega)]
    simp [startsFrom]
   clear HF
   go_wp2_with fail
   go_ret
   exact ⟨ret_int HV.out, ET HE.out HEr.out⟩
end Go.Proofs.YtjinpfnefeiooaaGreat
