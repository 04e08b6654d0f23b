/- UnitPrefix: the walk: for every unit, schedule and byte the law answers true. -/
import Derived.Test.YtkkobdfhnkdfgaaAwakeB
import Derived.Test.YtkkobdfhnkdfgaaOpen
namespace Go.Proofs.Ytkkobdfhnkdfgaa
open Go.RowKit

theorem init_signP {u : U} (g : u.Good) : decide (0 < u.init) = decide (0 < u.on) := by
  obtain ⟨⟩ := g
  by_cases h : 0 < u.on
  · rw [decide_eq_true h, decide_eq_true]; unfold U.init; omega
  · rw [decide_eq_false h, decide_eq_false]; unfold U.init; omega
theorem stay_next {u : U} (g : u.Good) {s : Int} (hs : u.isState s = true) : u.next s (decide (0 < s)) ≠ 0 ∧ decide (0 < u.next s (decide (0 < s))) = decide (0 < s) := by
  obtain ⟨⟩ := g
  simp only [U.isState, Bool.and_eq_true, decide_eq_true_eq] at hs
  by_cases h : 0 < s
  · have e : u.next s true = min (s + 1) u.up := by unfold U.next; simp [h]
    rw [decide_eq_true h, e]
    exact ⟨by omega, decide_eq_true (by omega)⟩
  · have e : u.next s false = max (s - 1) (-u.down) := by
      have : s < 0 := by omega
      unfold U.next; simp [this]
    rw [decide_eq_false h, e]
    exact ⟨by omega, decide_eq_false (by omega)⟩
theorem stay_feas {u : U} (g : u.Good) : ∀ (p : Nat) (s : Int), u.isState s = true → u.feasFrom s (List.replicate p (decide (0 < s))) = true
  | 0, _, _ => rfl
  | p + 1, s, hs => by
    obtain ⟨h1, h2⟩ := stay_next g hs
    rw [List.replicate_succ, U.feasFrom, if_neg h1]
    have := stay_feas g p _ (U.next_state g hs h1)
    rw [h2] at this
    exact this
theorem stay_starts (b : Bool) : ∀ p : Nat, startsFrom b (List.replicate p b) = 0
  | 0 => rfl
  | p + 1 => by rw [List.replicate_succ, startsFrom, stay_starts b p]; cases b <;> rfl
theorem take_feas (u : U) : ∀ (xs : List Bool) (s : Int) (k : Nat), u.feasFrom s xs = true → u.feasFrom s (xs.take k) = true
  | [], _, _, _ => by simp [U.feasFrom]
  | _ :: _, _, 0, _ => by simp [U.feasFrom]
  | b :: r, s, k + 1, h => by
    rw [U.feasFrom] at h
    rw [List.take_succ_cons, U.feasFrom]
    by_cases h0 : u.next s b = 0
    · rw [if_pos h0] at h; cases h
    · rw [if_neg h0] at h ⊢
      exact take_feas u r _ k h
theorem BoolsAt.take {w : World} {A : Option Addr} {n : Nat} {xs : List Bool} (h : BoolsAt w A n xs) {k : Nat} (hk : k ≤ n) : BoolsAt w A k (xs.take k) := by
  refine ⟨by rw [List.length_take, h.1]; omega, fun h0 => ?_⟩
  obtain ⟨b, off, ha, hlt, hc⟩ := h.2 (by omega)
  refine ⟨b, off, ha, hlt, fun i hi => ?_⟩
  rw [hc i (by omega)]
  simp [List.getD, hi]
theorem blk_bools {w : World} {g : Nat} {xs : List Bool} (h : Blk w g 4 (xs.map Value.bool).toArray) : BoolsAt w (some ⟨g, 0, none⟩) xs.length xs := by
  refine ⟨rfl, fun _ => ⟨g, 0, rfl, h.lt, fun i hi => ?_⟩⟩
  rw [Nat.zero_add, h.cell i]
  simp [List.getD, hi]

set_option maxRecDepth 100000 in
set_option maxHeartbeats 4000000 in
theorem prefx_any (u : U) (A : Option Addr) (n c : Nat) (R : Option Addr) (m d : Nat) (row : List Bool) (z : Int) (w : World) (hs : StepsAt w A n u.steps) (hn : n ≤ maxLen) (hr : BoolsAt w R m row) (hm : m ≤ maxLen) (hmd : m ≤ d) (hz0 : 0 ≤ z) (hz1 : z ≤ 255) :
    Calls Try.prog 6 #[u.val A n c, .slice R m d, .int .u8 z] w fun e w' => e = .returned (.bool true) ∧ Ext w w' := by
  obtain ⟨zn, rfl⟩ : ∃ zn : Nat, z = zn := ⟨z.toNat, by omega⟩
  have hmk0 := make_bools (zn % 40) (by omega)
  have hze : ((zn % 40 : Nat) : Int) = (zn : Int) % 40 := by omega
  rw [hze] at hmk0
  have hp : zn % 40 < 40 := Nat.mod_lt _ (by omega)
  generalize zn % 40 = p at *
  clear hze
  have hmk := hmk0
  clear hmk0
  go_enter Try.func6, Try.ntmps6
  go_wp2_with fail
  refine (long_any u A n c R m d _).mono ?_
  rintro e w01 ⟨rfl, hb1⟩
  have HE1 : Hid (Ext w w01) := Ext.new hb1
  have HU1 := Lib.hid ((ubox w u A n c).ext hb1)
  rcases hlong : longB n m with _ | _
  rotate_left
  · clear hlong hb1
    go_wp2_with fail
    refine (awake_any _).mono ?_
    rintro e w3 ⟨rfl, hb3⟩
    go_wp2_with fail
    go_ret
    exact ⟨rfl, Ext.trans HE1.out hb3⟩
  have hm1 : m ≤ 100 := by simp [longB] at hlong; omega
  clear hlong hb1
  obtain ⟨d0, d1, d2, d3, d4, d5, d6, d7, d8⟩ := HU1.out
  go_wp2_with fail
  refine (may_any u A n c _ (hs.below HE1.out) hn).mono ?_
  rintro e w2 ⟨rfl, hb2⟩
  have HE2 : Hid (Ext w w2) := Ext.trans HE1.out hb2
  have HU2 := Lib.hid (HU1.out.ext hb2)
  clear d0 d1 d2 d3 d4 d5 d6 d7 d8 hb2
  rcases hok : u.ok with _ | _
  · clear hok
    go_wp2_with fail
    refine (awake_any _).mono ?_
    rintro e w3 ⟨rfl, hb3⟩
    go_wp2_with fail
    go_ret
    exact ⟨rfl, Ext.trans HE2.out hb3⟩
  have HOK := Lib.hid hok
  clear hok
  go_wp2_with fail
  refine (awake_any _).mono ?_
  rintro e w3 ⟨rfl, hb3⟩
  have HE3 : Hid (Ext w w3) := Ext.trans HE2.out hb3
  have HU3 := Lib.hid (HU2.out.ext hb3)
  have G := U.good HOK.out
  clear hb3 HU1 HU2 HE1 HE2
  have hlt : w.heap.size < w3.heap.size := World.block_lt_of_cell? _ _ HU3.out.1
  have hkm : zn % (m + 1) ≤ m := by have := Nat.mod_lt zn (show 0 < m + 1 by omega); omega
  go_wp2_with fail
  have HB0 : Hid (Blk (w3.alloc (.cells (falses p) 4)) w3.heap.size 4 ((List.replicate p false).map Value.bool).toArray) := Blk.new w3 _ _
  go_loopw [9] (fun i wr => ∃ (k : Nat) (cur : List Bool), k ≤ p ∧ i = .int .i64 k ∧ Hid (Blk wr w3.heap.size 4 (cur.map Value.bool).toArray) ∧ Hid (cur.length = p) ∧ Hid (cur.take k = List.replicate k (decide (0 < u.on))) ∧ Ext w3 wr) (fun i _ => p - (intOf i).toNat)
  case atStart => exact ⟨0, List.replicate p false, Nat.zero_le _, rfl, HB0, by simp [Hid], by simp [Hid], Ext.new1 _ _⟩
  case round =>
    obtain ⟨k, cur, hk, rfl, HB, HC, HT, hbw⟩ := hrel
    have HUr := Lib.hid (HU3.out.ext hbw)
    by_cases hlt2 : k < p
    · have d8 : wr.cell? ⟨w.heap.size, 8, none⟩ = some (.int .i64 u.on) := HUr.out.2.2.2.2.2.2.2.2
      have c1 : wr.cell? ⟨w3.heap.size, k, none⟩ = some (.bool (cur.getD k false)) := by
        have := HC.out
        rw [HB.out.cell k]; simp [List.getD, this, hlt2]
      have f1 : wr.frozen? ⟨w3.heap.size, k, none⟩ = false := HB.out.frozen k
      have hbv : decide ((k : Int) < (p : Int)) = true := by simp; omega
      have HB2 := Lib.hid (HB.out.put k (.bool (decide (0 < u.on))))
      have HX : Hid ((cur.set k (decide (0 < u.on))).take (k + 1) = List.replicate (k + 1) (decide (0 < u.on))) := by
        have hcl := HC.out
        unfold Hid
        rw [take_snoc _ false (by simp; omega), List.take_set_of_le (by omega), HT.out, List.replicate_succ']
        simp [List.getD, hcl, hlt2]
      go_wp2_with fail
      go_roundw
      case rel =>
        refine ⟨k + 1, cur.set k (decide (0 < u.on)), by omega, by go_num, ?_, by simp [Hid, HC.out], HX, Below.setCell hbw (by simp) _⟩
        simpa [Hid, List.map_set] using HB2.out
      case measure => simp [intOf]; omega
    · have hbv : decide ((k : Int) < (p : Int)) = false := by simp; omega
      have HTT : Hid (cur = List.replicate p (decide (0 < u.on))) := by
        have h1 := HT.out
        have h2 : k = p := by omega
        rw [h2, List.take_of_length_le (by rw [HC.out]; omega)] at h1
        exact h1
      have hst := blk_bools HB.out
      rw [HTT.out] at hst
      simp only [List.length_replicate] at hst
      have hsg := init_signP G
      have hf1 : u.feas (List.replicate p (decide (0 < u.on))) = true := by
        unfold U.feas
        rw [HOK.out, ← hsg, stay_feas G p _ (U.init_state G)]
        rfl
      have hf2 : u.starts (List.replicate p (decide (0 < u.on))) = 0 := by
        unfold U.starts
        rw [HOK.out, stay_starts]
        rfl
      have hE := Ext.trans HE3.out hbw
      generalize List.replicate p (decide (0 < u.on)) = st at *
      have C1 := fun wx (h : Ext wr wx) => feasible_any u A n c (some ⟨w3.heap.size, 0, none⟩) p p st wx ((hs.below hE).below h) hn (hst.below h) (by simp [maxLen]; omega)
      have C2 := fun wx (h : Ext wr wx) => starts_any u A n c (some ⟨w3.heap.size, 0, none⟩) p p st wx ((hs.below hE).below h) hn (hst.below h) (by simp [maxLen]; omega)
      have C3 := fun wx (h : Ext wr wx) => feasible_any u A n c R m d row wx ((hs.below hE).below h) hn ((hr.below hE).below h) hm
      have C4 := fun wx (h : Ext wr wx) => feasible_any u A n c R (zn % (m + 1)) d (row.take (zn % (m + 1))) wx ((hs.below hE).below h) hn (((hr.below hE).take hkm).below h) (by simp [maxLen]; omega)
      simp only [hf1] at C1
      simp only [hf2] at C2
      have hf4 : u.feas row = true → u.feas (row.take (zn % (m + 1))) = true := by
        intro h
        unfold U.feas at h ⊢
        rw [HOK.out] at h ⊢
        exact take_feas u row _ _ h
      have K1 := Lib.hid C1
      have K2 := Lib.hid C2
      clear C1 C2 hf1 hf2
      obtain ⟨d0, d1, d2, d3, d4, d5, d6, d7, d8⟩ := HUr.out
      have x0 := fun x : ExtOf wr => x.cell d0
      have x1 := fun x : ExtOf wr => x.cell d1
      have x2 := fun x : ExtOf wr => x.cell d2
      have x3 := fun x : ExtOf wr => x.cell d3
      have x4 := fun x : ExtOf wr => x.cell d4
      have x5 := fun x : ExtOf wr => x.cell d5
      have x6 := fun x : ExtOf wr => x.cell d6
      have x7 := fun x : ExtOf wr => x.cell d7
      have x8 := fun x : ExtOf wr => x.cell d8
      have hq1 : (0 : Int) ≤ (zn : Int) % ((m : Int) + 1) := Int.emod_nonneg _ (by omega)
      have hq2 : (zn : Int) % ((m : Int) + 1) ≤ (d : Int) := by
        have : ((zn % (m + 1) : Nat) : Int) = (zn : Int) % ((m : Int) + 1) := by simp
        omega
      have hq3 : ((zn : Int) % ((m : Int) + 1)).toNat = zn % (m + 1) := by
        have : ((zn % (m + 1) : Nat) : Int) = (zn : Int) % ((m : Int) + 1) := by simp
        omega
      cases hfr : u.feas row
      · simp only [hfr] at C3
        have K3 := Lib.hid C3
        clear C3 C4 hf4 hfr
        go_wp2_with fail
        refine wp_region_ext (by kernel_rfl) (by kernel_rfl) ?_
        repeat (go_big_quiet_step (first
          | (go_at_call 19; exact ext_call (K2.out _ (ExtOf.h _)))
          | (go_at_call 16; first | with_reducible exact ext_call (K1.out _ (ExtOf.h _)) | with_reducible exact ext_call (K3.out _ (ExtOf.h _)))))
        refine wpQuiet_nil ?_
        rintro _ ⟨x, rfl⟩
        clear x0 x1 x2 x3 x4 x5 x6 x7 x8
        go_wp2_with fail
        go_ret
        exact ⟨rfl, Ext.trans hE x.h⟩
      · have hf5 := hf4 hfr
        simp only [hfr] at C3
        simp only [hf5] at C4
        have K3 := Lib.hid C3
        have K4 := Lib.hid C4
        clear C3 C4 hf4 hf5 hfr
        go_wp2_with fail
        refine wp_region_ext (by kernel_rfl) (by kernel_rfl) ?_
        repeat (go_big_quiet_step (first
          | (go_at_call 19; exact ext_call (K2.out _ (ExtOf.h _)))
          | (go_at_call 16; first | with_reducible exact ext_call (K1.out _ (ExtOf.h _)) | with_reducible exact ext_call (K3.out _ (ExtOf.h _)) | with_reducible exact ext_call (K4.out _ (ExtOf.h _)))))
        refine wpQuiet_nil ?_
        rintro _ ⟨x, rfl⟩
        clear x0 x1 x2 x3 x4 x5 x6 x7 x8
        go_wp2_with fail
        go_ret
        exact ⟨rfl, Ext.trans hE x.h⟩
end Go.Proofs.Ytkkobdfhnkdfgaa
