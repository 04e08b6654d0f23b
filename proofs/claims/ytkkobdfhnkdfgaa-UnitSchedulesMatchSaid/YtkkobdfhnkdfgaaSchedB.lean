/- The contract of unit.Schedules. -/
import Derived.Test.YtkkobdfhnkdfgaaSched
namespace Go.Proofs.Ytkkobdfhnkdfgaa
open Go.RowKit

def falses (hrs : Nat) : Array Value := ((List.replicate hrs false).map Value.bool).toArray
theorem made_falses (n : Nat) : madeCells (Value.bool false).cells (n * 1) = falses n := by
  apply Array.ext
  · simp [madeCells, falses]
  · intro i h1 h2
    simp [madeCells, falses, Value.cells, Nat.mod_one]
theorem make_bools (n : Nat) (hn : n ≤ 1000000) (w : World) : (Instr.makeSlice 32 (.int .i64 (n : Int)) (.int .i64 (n : Int))).run Try.prog w = .ok (.slice (some ⟨w.heap.size, 0, none⟩) n n) (w.alloc (.cells (falses n) 4)) := by
  obtain ⟨i0, hi0, hz0, hz1, hz2⟩ := info_parts info_bool
  have h := run_make (P := Try.prog) w 32 4 i0 (.bool false) Try.underlying32 hi0 hz0 .i64 .i64 (n : Int) (n : Int) (by omega) (by omega) (by rw [hz2]; omega) (by omega)
  rw [hz1, Int.toNat_natCast, made_falses] at h
  exact h

/-- The error of Schedules. -/
def U.schedE (u : U) (hz : Int) : Int := if u.check 6 = 0 then (if 0 ≤ hz ∧ hz ≤ 8 then 0 else 1) else u.check 6

theorem ret_se {a b : Int} (h : a = b) : Ending.returned (.tuple #[.slice none 0 0, .int .i64 a]) = .returned (.tuple #[.slice none 0 0, .int .i64 b]) := by rw [h]
set_option maxHeartbeats 1000000 in
theorem sched_err (u : U) (hz : Int) (A : Option Addr) (n c : Nat) (w : World) (hs : StepsAt w A n u.steps) (hn : n ≤ maxLen) (he : u.schedE hz ≠ 0) :
    Calls Try.prog 13 #[u.val A n c, .int .i64 hz] w fun e w' => e = .returned (.tuple #[.slice none 0 0, .int .i64 (u.schedE hz)]) ∧ Ext w w' := by
  have HE := Lib.hid he; clear he
  go_enter Try.func13, Try.ntmps13
  go_wp2_with fail
  refine (ucheck_any u 6 A n c _ (hs.below (((Below.refl _ _).alloc (Nat.le_refl _) _).alloc (by simp) _)) hn).mono ?_
  rintro e w1 ⟨rfl, hb1⟩
  have hE : Ext w w1 := Ext.new (Ext.new hb1)
  by_cases hc : u.check 6 = 0
  · have hb : (u.check 6 != 0) = false := by simp [hc]
    have d1 : w1.cell? ⟨w.heap.size + 1, 0, none⟩ = some (.int .i64 hz) := Ext.cellOf hb1 (by simp [go_sem])
    have HX : Hid (u.schedE hz = 1) := by
      have := HE.out
      unfold U.schedE at this ⊢
      unfold Hid
      rw [if_pos hc] at this ⊢
      by_cases hz8 : 0 ≤ hz ∧ hz ≤ 8
      · rw [if_pos hz8] at this; exact absurd rfl this
      · rw [if_neg hz8]
    have hbad : hz < 0 ∨ 8 < hz := by
      have := HX.out
      unfold U.schedE at this
      rw [if_pos hc] at this
      by_cases hz8 : 0 ≤ hz ∧ hz ≤ 8
      · rw [if_pos hz8] at this; omega
      · omega
    have HC := Lib.hid hc; clear hc
    go_wp2_with fail
    all_goals
      go_ret2
      exact ⟨ret_se HX.out.symm, hE⟩
  · have hb : (u.check 6 != 0) = true := by simp [hc]
    have HX : Hid (u.schedE hz = u.check 6) := by unfold U.schedE Hid; rw [if_neg hc]
    clear hc
    go_wp2_with fail
    go_ret2
    exact ⟨ret_se HX.out.symm, hE⟩

theorem own_base {w : World} {base base' : Nat} {e : TypeId} {size n : Nat} {v : Value} {xs : List Value} (h : w.ownsRow base e size v n xs) (hb : base' ≤ base) : w.ownsRow base' e size v n xs := by
  refine ⟨h.1, ?_⟩
  rcases h.2 with h0 | ⟨g', cap, cur, h1, h2, h3⟩
  · exact .inl h0
  · exact .inr ⟨g', cap, cur, h1, by omega, h3⟩
theorem Lists.base {w : World} {B1 B0 hrs : Nat} {vA : Value} {L : List (List Bool)} (h : Lists w B1 hrs vA L) (hb : B0 ≤ B1) : Lists w B0 hrs vA L := by
  obtain ⟨FC, h1, h2, h3, h4⟩ := h
  refine ⟨FC, own_base h1 hb, h2, h3, fun i p hp => ?_⟩
  obtain ⟨xs, e, h5⟩ := h4 i p hp
  exact ⟨xs, e, own_base h5 hb⟩

theorem ext_of_fr {w w3 w4 : World} {bA rb : Nat} {vA : Value} (h : Ext w w3) (f : Fr w3 w4 bA rb vA) (hA : w.heap.size ≤ bA) (hB : w.heap.size ≤ rb) (hv : vA.ownBlock = none) : Ext w w4 :=
  ⟨f.os.trans h.os, f.tape.trans h.tape, f.output.trans h.output, Nat.le_trans h.size f.size, fun k hk => (f.block k (Nat.lt_of_lt_of_le hk h.size) (by omega) (by omega) (by rw [hv]; simp)).trans (h.block k hk)⟩
def schedW (w w1 : World) (hrs : Nat) : World := (((w1.alloc (.cells #[.slice none 0 0] 27)).alloc (.cells (falses hrs) 4)).alloc
      (.cells #[.slice (some ⟨w1.heap.size + 1, 0, none⟩) hrs hrs] 32)).alloc (.cells #[closV (w.heap.size + 1) w1.heap.size (w1.heap.size + 1 + 1) w.heap.size (w1.heap.size + 1 + 1 + 1)] 48)
theorem sinv_start {u : U} {A : Option Addr} {n c hrs : Nat} {w w1 : World} (hb1 : Ext ((w.alloc (.cells (u.arr A n c) 24)).alloc (.cells #[.int .i64 hrs] 3)) w1) :
    SInv (schedW w w1 hrs) (w1.heap.size + 4) hrs u A n c (w.heap.size + 1) w1.heap.size (w1.heap.size + 1 + 1) w.heap.size (w1.heap.size + 1 + 1 + 1) (w1.heap.size + 1) (.slice none 0 0) (List.replicate hrs false) [] ∧ Ext w1 (schedW w w1 hrs) := by
  have hsz := hb1.size
  simp at hsz
  have hE : Ext w1 (schedW w w1 hrs) := Ext.al (Ext.al (Ext.al (Ext.new1 w1 _) _) _) _
  have kU : Blk w1 w.heap.size 24 (u.arr A n c) := ((Blk.new w _ _).alloc _).keep (hb1.block _ (by simp; omega))
  have kH : Blk w1 (w.heap.size + 1) 3 #[.int .i64 hrs] := by
    have := Blk.new (w.alloc (.cells (u.arr A n c) 24)) 3 #[.int .i64 hrs]
    simp at this
    exact this.keep (hb1.block _ (by simp))
  have kA : Blk (schedW w w1 hrs) w1.heap.size 27 #[.slice none 0 0] := (((Blk.new w1 _ _).alloc _).alloc _).alloc _
  have kB : Blk (schedW w w1 hrs) (w1.heap.size + 1) 4 (falses hrs) := by
    have := Blk.new (w1.alloc (.cells #[.slice none 0 0] 27)) 4 (falses hrs)
    simp only [World.size_alloc] at this
    exact (this.alloc _).alloc _
  have kR : Blk (schedW w w1 hrs) (w1.heap.size + 1 + 1) 32 #[.slice (some ⟨w1.heap.size + 1, 0, none⟩) hrs hrs] := by
    have := Blk.new ((w1.alloc (.cells #[.slice none 0 0] 27)).alloc (.cells (falses hrs) 4)) 32 #[.slice (some ⟨w1.heap.size + 1, 0, none⟩) hrs hrs]
    simp only [World.size_alloc] at this
    exact this.alloc _
  have kX : Blk (schedW w w1 hrs) (w1.heap.size + 1 + 1 + 1) 48 #[closV (w.heap.size + 1) w1.heap.size (w1.heap.size + 1 + 1) w.heap.size (w1.heap.size + 1 + 1 + 1)] := by
    have := Blk.new (((w1.alloc (.cells #[.slice none 0 0] 27)).alloc (.cells (falses hrs) 4)).alloc (.cells #[.slice (some ⟨w1.heap.size + 1, 0, none⟩) hrs hrs] 32)) 48 #[closV (w.heap.size + 1) w1.heap.size (w1.heap.size + 1 + 1) w.heap.size (w1.heap.size + 1 + 1 + 1)]
    simp only [World.size_alloc] at this
    exact this
  refine ⟨⟨kH.keep (hE.block _ kH.lt), kA, kR, kU.keep (hE.block _ kU.lt), kX, kB, by simp, ⟨[], ⟨by simp, .inl ⟨rfl, rfl⟩⟩, by simp, rfl, by simp⟩, by omega, by omega, by simp [schedW]⟩, hE⟩

set_option maxHeartbeats 2000000 in
theorem sched_ok (u : U) (hrs : Nat) (h8 : hrs ≤ 8) (A : Option Addr) (n c : Nat) (w : World) (hs : StepsAt w A n u.steps) (hn : n ≤ maxLen) (hok : u.ok = true) :
    Calls Try.prog 13 #[u.val A n c, .int .i64 hrs] w fun e w' => ∃ vA, e = .returned (.tuple #[vA, .int .i64 0]) ∧ Lists w' w.heap.size hrs vA (u.exts hrs u.init) ∧ Ext w w' := by
  have hc : u.check 6 = 0 := of_decide_eq_true hok
  have hb : (u.check 6 != 0) = false := by simp [hc]
  have HC := Lib.hid hc
  have G := U.good hok
  clear hc hok
  have hmk := make_bools hrs (by omega)
  go_enter Try.func13, Try.ntmps13
  go_wp2_with fail
  refine (ucheck_any u 6 A n c _ (hs.below (((Below.refl _ _).alloc (Nat.le_refl _) _).alloc (by simp) _)) hn).mono ?_
  rintro e w1 ⟨rfl, hb1⟩
  have d1 : w1.cell? ⟨w.heap.size + 1, 0, none⟩ = some (.int .i64 hrs) := Ext.cellOf hb1 (by simp [go_sem])
  have hsz : w.heap.size + 1 < w1.heap.size := by have := hb1.size; simp at this; omega
  have hsz0 : w.heap.size < w1.heap.size := by omega
  go_wp2_with fail
  have hst := sinv_start hb1
  change Code.wp _ _ _ _ (schedW w w1 hrs)
  have hE2 : Ext w (schedW w w1 hrs) := Ext.trans (Ext.new (Ext.new hb1)) hst.2
  obtain ⟨hI, _⟩ := hst
  generalize schedW w w1 hrs = w2 at *
  have d0 : w2.cell? ⟨w.heap.size, 0, none⟩ = some (.int .i64 u.bus) := hI.kU.cell 0
  have d1 : w2.cell? ⟨w.heap.size, 1, none⟩ = some (.int .i64 u.mn) := hI.kU.cell 1
  have d2 : w2.cell? ⟨w.heap.size, 2, none⟩ = some (.slice A n c) := hI.kU.cell 2
  have d3 : w2.cell? ⟨w.heap.size, 3, none⟩ = some (.int .i64 u.up) := hI.kU.cell 3
  have d4 : w2.cell? ⟨w.heap.size, 4, none⟩ = some (.int .i64 u.down) := hI.kU.cell 4
  have d5 : w2.cell? ⟨w.heap.size, 5, none⟩ = some (.int .i64 u.start) := hI.kU.cell 5
  have d6 : w2.cell? ⟨w.heap.size, 6, none⟩ = some (.int .i64 u.idle) := hI.kU.cell 6
  have d7 : w2.cell? ⟨w.heap.size, 7, none⟩ = some (.int .i64 u.spin) := hI.kU.cell 7
  have d8 : w2.cell? ⟨w.heap.size, 8, none⟩ = some (.int .i64 u.on) := hI.kU.cell 8
  have dX : w2.cell? ⟨w1.heap.size + 1 + 1 + 1, 0, none⟩ = some (closV (w.heap.size + 1) w1.heap.size (w1.heap.size + 1 + 1) w.heap.size (w1.heap.size + 1 + 1 + 1)) := hI.kX.cell 0
  have HI := Lib.hid hI
  have HW := Lib.hid (Nat.lt_trans (Nat.lt_succ_self _) hsz)
  clear hI
  go_region_with (first
    | (go_at_call 31
       refine (init_any u G A n c _).mono ?_
       rintro e w3 ⟨rfl, hb3⟩
       have hb4 : Ext w2 w3 := Ext.trans Ext.rfl'.drew hb3
       have dX3 := Ext.cellOf hb4 dX
       have HI3 := Lib.hid (HI.out.ext hb4)
       clear hb3)
    | (go_at_call 29
       refine (clos_any hrs h8 u G A n c _ _ _ _ _ _ _ hrs 0 _ u.init _ _ [] _ (by rfl) (by omega) (by simp; have : 2 ^ hrs ≤ 2 ^ 8 := Nat.pow_le_pow_right (by omega) h8; omega) (U.init_state G) HI3.out).mono ?_
       rintro e w4 ⟨rfl, vA, cur, hI4, _, hf4, _⟩
       have dA4 : w4.cell? ⟨w1.heap.size, 0, none⟩ = some vA := hI4.kA.cell 0))
  all_goals
    go_wp2_with fail
    go_ret2
    refine ⟨vA, rfl, ?_, ?_⟩
    · have := hI4.lists
      simp only [List.nil_append, List.take_zero, List.map_id'] at this
      exact this.base (by have := HW.out; omega)
    · exact ext_of_fr (Ext.trans hE2 hb4) hf4 (by have := HW.out; omega) (by have := HW.out; omega) rfl
end Go.Proofs.Ytkkobdfhnkdfgaa
