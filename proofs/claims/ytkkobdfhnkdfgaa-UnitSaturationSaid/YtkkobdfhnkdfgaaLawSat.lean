/- UnitSaturation: for every unit and every schedule the law answers true, and every argument reads as before. -/
import Derived.Test.YtkkobdfhnkdfgaaAwakeB
import Derived.Test.YtkkobdfhnkdfgaaOpen
namespace Go.Proofs.Ytkkobdfhnkdfgaa
open Go.ChangeShapes Go.WideShapes Go.ChangeAt Go.RowKit

theorem UAt.alloc {w : World} {b : Nat} {u : U} {A : Option Addr} {n c : Nat} (h : UAt w b u A n c) (o : Obj) : UAt (w.alloc o) b u A n c := h.ext (Ext.new1 w o)
/-- A value of On stored into a unit's box. -/
theorem UAt.put {w : World} {b : Nat} {u : U} {A : Option Addr} {n c : Nat} (h : UAt w b u A n c) (z : Int) : UAt (w.setCell ⟨b, 8, none⟩ (.int .i64 z)) b { u with on := z } A n c := by
  obtain ⟨h0, h1, h2, h3, h4, h5, h6, h7, h8⟩ := h
  refine ⟨?_, ?_, ?_, ?_, ?_, ?_, ?_, ?_, ?_⟩
  all_goals first
    | (rw [World.cell?_setCell_other _ _ _ _ (by simp)]; assumption)
    | (simp [go_sem, h8])
theorem UAt.far {w : World} {b b' i : Nat} {u : U} {A : Option Addr} {n c : Nat} {x : Value} (h : UAt w b u A n c) (hne : b ≠ b') : UAt (w.setCell ⟨b', i, none⟩ x) b u A n c := by
  obtain ⟨h0, h1, h2, h3, h4, h5, h6, h7, h8⟩ := h
  refine ⟨?_, ?_, ?_, ?_, ?_, ?_, ?_, ?_, ?_⟩
  all_goals (rw [World.cell?_setCell_other _ _ _ _ (fun e => hne (congrArg Addr.block e).symm)]; assumption)
/-- The facts of a unit's box in every later world. -/
theorem UAt.later {w : World} {b : Nat} {u : U} {A : Option Addr} {n c : Nat} (h : UAt w b u A n c) (x : ExtOf w) : UAt x.w b u A n c := h.ext x.h

/-- The saturated unit. -/
def U.sat (u : U) : U := { u with on := u.init }
theorem sat_init {u : U} (g : u.Good) : u.sat.init = u.init := by
  obtain ⟨⟩ := g
  unfold U.sat U.init
  simp only
  omega
theorem sat_ok {u : U} (h : u.ok = true) : u.sat.ok = true := by
  have g := U.good h
  have hc : u.check 6 = 0 := of_decide_eq_true h
  apply decide_eq_true
  unfold U.check at hc ⊢
  by_cases hb : u.okBus 6 = true
  · have hb' : u.sat.okBus 6 = true := hb
    rw [if_pos hb] at hc
    rw [if_pos hb']
    by_cases hk : chk true u.steps = 0
    · have hk' : chk true u.sat.steps = 0 := hk
      rw [if_pos hk] at hc
      rw [if_pos hk']
      by_cases hr : (u.okMin && u.okHold && u.okMoney && u.okSpin && u.okOn) = true
      · simp only [Bool.and_eq_true] at hr
        obtain ⟨⟨⟨⟨r1, r2⟩, r3⟩, r4⟩, _⟩ := hr
        have r5 : u.sat.okOn = true := by
          obtain ⟨⟩ := g
          have : u.sat.on = u.init := rfl
          simp only [U.okOn, Bool.and_eq_true, decide_eq_true_eq, this]
          unfold U.init
          omega
        have r1' : u.sat.okMin = true := r1
        have r2' : u.sat.okHold = true := r2
        have r3' : u.sat.okMoney = true := r3
        have r4' : u.sat.okSpin = true := r4
        rw [if_pos (by simp [r1', r2', r3', r4', r5])]
      · rw [if_neg hr] at hc; omega
    · rw [if_neg hk] at hc; omega
  · rw [if_neg hb] at hc; omega
theorem sat_next (u : U) (s : Int) (b : Bool) : u.sat.next s b = u.next s b := rfl
theorem sat_feasFrom (u : U) : ∀ (row : List Bool) (s : Int), u.sat.feasFrom s row = u.feasFrom s row
  | [], _ => rfl
  | b :: r, s => by simp only [U.feasFrom, sat_next, sat_feasFrom u r]
theorem sat_feas {u : U} (h : u.ok = true) (row : List Bool) : u.sat.feas row = u.feas row := by
  unfold U.feas
  rw [h, sat_ok h, sat_init (U.good h), sat_feasFrom]
theorem sat_sign {u : U} (g : u.Good) : decide (0 < u.sat.on) = decide (0 < u.on) := by
  obtain ⟨⟩ := g
  have : u.sat.on = u.init := rfl
  rw [this]
  by_cases h : 0 < u.on
  · rw [decide_eq_true h, decide_eq_true]; unfold U.init; omega
  · rw [decide_eq_false h, decide_eq_false]; unfold U.init; omega
theorem sat_starts {u : U} (h : u.ok = true) (row : List Bool) : u.sat.starts row = u.starts row := by
  unfold U.starts
  rw [h, sat_ok h, sat_sign (U.good h)]
theorem sat_cost {u : U} (h : u.ok = true) (row : List Bool) : u.sat.cost row = u.cost row := by
  unfold U.cost
  rw [h, sat_ok h, sat_starts h]
  rfl

set_option maxHeartbeats 4000000 in
theorem sat_any (u : U) (A : Option Addr) (n c : Nat) (R : Option Addr) (m d : Nat) (row : List Bool) (w : World) (hs : StepsAt w A n u.steps) (hn : n ≤ maxLen) (hr : BoolsAt w R m row) (hm : m ≤ maxLen) :
    Calls Try.prog 9 #[u.val A n c, .slice R m d] w fun e w' => e = .returned (.bool true) ∧ Ext w w' := by
  go_enter Try.func9, Try.ntmps9
  go_wp2_with fail
  refine (long_any u A n c R m d _).mono ?_
  rintro e w1 ⟨rfl, hb1⟩
  have HE1 : Hid (Ext w w1) := Ext.new hb1
  have HU1 := Lib.hid ((ubox w u A n c).ext hb1)
  cases hlong : longB n m
  · have hm1 : m ≤ 100 := by simp [longB] at hlong; omega
    clear hlong hb1
    obtain ⟨d0, d1, d2, d3, d4, d5, d6, d7, d8⟩ := HU1.out
    go_wp2_with fail
    refine (may_any u A n c _ (hs.below HE1.out) hn).mono ?_
    rintro e w2 ⟨rfl, hb2⟩
    have HE2 : Hid (Ext w w2) := Ext.trans HE1.out hb2
    have HU2 := Lib.hid (HU1.out.ext hb2)
    clear d0 d1 d2 d3 d4 d5 d6 d7 d8 hb2
    cases hok : u.ok
    · clear hok
      go_wp2_with fail
      refine (awake_any _).mono ?_
      rintro e w3 ⟨rfl, hb3⟩
      go_wp2_with fail
      go_ret
      exact ⟨rfl, Ext.trans HE2.out hb3⟩
    · have HOK := Lib.hid hok
      clear hok
      go_wp2_with fail
      refine (awake_any _).mono ?_
      rintro e w3 ⟨rfl, hb3⟩
      have HE3 : Hid (Ext w w3) := Ext.trans HE2.out hb3
      have HU3 := Lib.hid (HU2.out.ext hb3)
      clear hb3
      obtain ⟨d0, d1, d2, d3, d4, d5, d6, d7, d8⟩ := HU3.out
      have hlt : w.heap.size < w3.heap.size := World.block_lt_of_cell? _ _ d0
      go_wp2_with fail
      clear d0 d1 d2 d3 d4 d5 d6 d7 d8
      refine (initial_any u A n c _ ((hs.below HE3.out).below (Ext.new1 _ _)) hn).mono ?_
      rintro e w4 ⟨rfl, hb4⟩
      have HE4 : Hid (Ext w w4) := Ext.trans HE3.out (Ext.new hb4)
      have HU4 := Lib.hid (HU3.out.ext (Ext.new hb4))
      have HV4 := Lib.hid ((ubox w3 u A n c).ext hb4)
      have hinit : u.initial = u.init := by unfold U.initial; rw [HOK.out]; rfl
      have HB4 : Hid (Blk w4 w3.heap.size 24 #[.int .i64 u.bus, .int .i64 u.mn, .slice A n c, .int .i64 u.up, .int .i64 u.down, .int .i64 u.start, .int .i64 u.idle, .int .i64 u.spin, .int .i64 u.on]) := (Blk.new w3 _ _).keep (hb4.block _ (by simp))
      clear hb4
      have hc8 : w4.cell? ⟨w3.heap.size, 8, none⟩ = some (.int .i64 u.on) := HV4.out.2.2.2.2.2.2.2.2
      have hf8 : w4.frozen? ⟨w3.heap.size, 8, none⟩ = false := HB4.out.frozen 8
      have hlt4 : w.heap.size < w4.heap.size := World.block_lt_of_cell? _ _ HU4.out.1
      go_wp2_with fail
      have HE5 : Hid (Ext w (w4.setCell ⟨w3.heap.size, 8, none⟩ (.int .i64 u.init))) := Below.setCell HE4.out (by have := HE3.out.size; simpa using this) _
      have HV5 := Lib.hid (HV4.out.put u.init)
      have HU5 : Hid (UAt (w4.setCell ⟨w3.heap.size, 8, none⟩ (.int .i64 u.init)) w.heap.size u A n c) := HU4.out.far (by omega)
      have hsv : StepsAt (w4.setCell ⟨w3.heap.size, 8, none⟩ (.int .i64 u.init)) A n u.sat.steps := hs.below HE5.out
      have hsu : StepsAt (w4.setCell ⟨w3.heap.size, 8, none⟩ (.int .i64 u.init)) A n u.steps := hs.below HE5.out
      have hru : BoolsAt (w4.setCell ⟨w3.heap.size, 8, none⟩ (.int .i64 u.init)) R m row := hr.below HE5.out
      have hv1 := sat_ok HOK.out
      have hv2 := sat_feas HOK.out row
      have hv3 := sat_starts HOK.out row
      have hv4 := sat_cost HOK.out row
      have hv5 : u.sat.initial = u.sat.on := by unfold U.initial; rw [hv1, sat_init (U.good HOK.out)]; rfl
      change Hid (UAt _ _ u.sat A n c) at HV5
      generalize u.sat = v at *
      generalize w4.setCell ⟨w3.heap.size, 8, none⟩ (.int .i64 u.init) = w5 at *
      clear hinit hc8 hf8 HU1 HU2 HU3 HU4 HV4 HB4 HE1 HE2 HE3 HE4 hlt hlt4
      obtain ⟨d0, d1, d2, d3, d4, d5, d6, d7, d8⟩ := HU5.out
      obtain ⟨g0, g1, g2, g3, g4, g5, g6, g7, g8⟩ := HV5.out
      have x0 := fun x : ExtOf w5 => x.cell d0
      have x1 := fun x : ExtOf w5 => x.cell d1
      have x2 := fun x : ExtOf w5 => x.cell d2
      have x3 := fun x : ExtOf w5 => x.cell d3
      have x4 := fun x : ExtOf w5 => x.cell d4
      have x5 := fun x : ExtOf w5 => x.cell d5
      have x6 := fun x : ExtOf w5 => x.cell d6
      have x7 := fun x : ExtOf w5 => x.cell d7
      have x8 := fun x : ExtOf w5 => x.cell d8
      have y0 := fun x : ExtOf w5 => x.cell g0
      have y1 := fun x : ExtOf w5 => x.cell g1
      have y2 := fun x : ExtOf w5 => x.cell g2
      have y3 := fun x : ExtOf w5 => x.cell g3
      have y4 := fun x : ExtOf w5 => x.cell g4
      have y5 := fun x : ExtOf w5 => x.cell g5
      have y6 := fun x : ExtOf w5 => x.cell g6
      have y7 := fun x : ExtOf w5 => x.cell g7
      have y8 := fun x : ExtOf w5 => x.cell g8
      have C1 := fun wx (h : Ext w5 wx) => may_any v A n c wx (hsv.below h) hn
      have C2 := fun wx (h : Ext w5 wx) => initial_any v A n c wx (hsv.below h) hn
      have C3 := fun wx (h : Ext w5 wx) => feasible_any u A n c R m d row wx (hsu.below h) hn (hru.below h) hm
      have C4 := fun wx (h : Ext w5 wx) => feasible_any v A n c R m d row wx (hsv.below h) hn (hru.below h) hm
      have C5 := fun wx (h : Ext w5 wx) => starts_any u A n c R m d row wx (hsu.below h) hn (hru.below h) hm
      have C6 := fun wx (h : Ext w5 wx) => starts_any v A n c R m d row wx (hsv.below h) hn (hru.below h) hm
      have C7 := fun wx (h : Ext w5 wx) => cost_any u A n c R m d row wx (hsu.below h) hn (hru.below h) (by omega)
      have C8 := fun wx (h : Ext w5 wx) => cost_any v A n c R m d row wx (hsv.below h) hn (hru.below h) (by omega)
      simp only [hv1] at C1
      simp only [hv5] at C2
      simp only [hv2] at C4
      simp only [hv3] at C6
      simp only [hv4] at C8
      have K1 := Lib.hid C1
      have K2 := Lib.hid C2
      have K3 := Lib.hid C3
      have K4 := Lib.hid C4
      have K5 := Lib.hid C5
      have K6 := Lib.hid C6
      have K7 := Lib.hid C7
      have K8 := Lib.hid C8
      clear C1 C2 C3 C4 C5 C6 C7 C8 hv1 hv2 hv3 hv4 hv5 hsv hsu hru
      refine wp_region_ext (by kernel_rfl) (by kernel_rfl) ?_
      repeat (go_big_quiet_step (first
        | (go_at_call 15; exact ext_call (K1.out _ (ExtOf.h _)))
        | (go_at_call 17; exact ext_call (K2.out _ (ExtOf.h _)))
        | (go_at_call 16; first | with_reducible exact ext_call (K3.out _ (ExtOf.h _)) | with_reducible exact ext_call (K4.out _ (ExtOf.h _)))
        | (go_at_call 19; first | with_reducible exact ext_call (K5.out _ (ExtOf.h _)) | with_reducible exact ext_call (K6.out _ (ExtOf.h _)))
        | (go_at_call 22; first | with_reducible exact ext_call (K7.out _ (ExtOf.h _)) | with_reducible exact ext_call (K8.out _ (ExtOf.h _)))))
      refine wpQuiet_nil ?_
      rintro _ ⟨x, rfl⟩
      clear x0 x1 x2 x3 x4 x5 x6 x7 x8 y0 y1 y2 y3 y4 y5 y6 y7 y8
      go_wp2_with fail
      go_ret
      exact ⟨rfl, Ext.trans HE5.out x.h⟩
  · clear hlong
    go_wp2_with fail
    refine (awake_any _).mono ?_
    rintro e w3 ⟨rfl, hb3⟩
    go_wp2_with fail
    go_ret
    exact ⟨rfl, Ext.trans HE1.out hb3⟩
end Go.Proofs.Ytkkobdfhnkdfgaa
