/- Contracts of package unit: Feasible, Starts, FixedCost. -/
import Derived.Test.YtkkobdfhnkdfgaaUnitB
namespace Go.Proofs.Ytkkobdfhnkdfgaa
open Go.RowKit

/-- The state after a prefix that is feasible; 0 if it is not. -/
def U.after (u : U) : Int → List Bool → Int
  | s, [] => s
  | s, b :: r => if u.next s b = 0 then 0 else u.after (u.next s b) r

theorem feas_at {u : U} {s : Int} {xs : List Bool} {k : Nat} (hk : k < xs.length) : u.feasFrom s (xs.drop k) = if u.next s (xs.getD k false) = 0 then false else u.feasFrom (u.next s (xs.getD k false)) (xs.drop (k + 1)) := by
  rw [List.drop_eq_getElem_cons hk]
  have hg : xs.getD k false = xs[k] := by simp [List.getD, hk]
  rw [hg]
  rfl

theorem nextB_false {u : U} {s : Int} {on : Bool} (h : u.nextB s on = false) : u.next s on = 0 := by
  have := of_decide_eq_false h; simpa using this
theorem nextB_true {u : U} {s : Int} {on : Bool} (h : u.nextB s on = true) : u.next s on ≠ 0 := of_decide_eq_true h

set_option maxHeartbeats 1000000 in
theorem feasible_any (u : U) (A : Option Addr) (n c : Nat) (R : Option Addr) (m d : Nat) (row : List Bool) (w : World) (hs : StepsAt w A n u.steps) (hn : n ≤ maxLen) (hr : BoolsAt w R m row) (hm : m ≤ maxLen) :
    Calls Try.prog 16 #[u.val A n c, .slice R m d] w fun e w' => e = .returned (.bool (u.feas row)) ∧ Ext w w' := by
  unfold maxLen at hm
  go_enter Try.func16, Try.ntmps16
  go_wp2_with fail
  refine (valid_any u A n c _ (hs.below ((Below.refl _ _).alloc (Nat.le_refl _) _)) hn).mono ?_
  rintro e w1 ⟨rfl, hb1⟩
  have hE : Ext w w1 := Ext.new hb1
  have HU := Lib.hid ((ubox w u A n c).ext hb1)
  cases hok : u.ok
  · have HI : Hid (u.feas row = false) := by unfold Hid U.feas; rw [hok]; rfl
    clear hok
    go_wp2_with fail
    go_ret
    exact ⟨ret_bool HI.out.symm, hE⟩
  · have G := U.good hok
    have HI : Hid (u.feas row = u.feasFrom u.init (row.drop 0)) := by unfold Hid U.feas; rw [hok]; rfl
    clear hok
    obtain ⟨d0, d1, d2, d3, d4, d5, d6, d7, d8⟩ := HU.out
    go_wp2_with fail
    refine (init_any u G A n c _).mono ?_
    rintro e w2 ⟨rfl, hb2⟩
    have hE2 : Ext w w2 := Ext.trans hE hb2
    have HU2 := Lib.hid (HU.out.ext hb2)
    have hl := hr.1
    have HL := Lib.hid hl; clear hl
    have HR := Lib.hid (hr.below hE2).2
    have hsi := U.init_state G
    have HSI := Lib.hid hsi; clear hsi d0 d1 d2 d3 d4 d5 d6 d7 d8
    go_wp2_with fail
    go_loopw [5, 17] (fun s i wr => ∃ (k : Nat) (q : Int), k ≤ m ∧ i = .int .i64 k ∧ s = .int .i64 q ∧ Hid (u.isState q = true) ∧ Hid (u.feas row = u.feasFrom q (row.drop k)) ∧ Ext w2 wr) (fun _ i _ => m - (intOf i).toNat)
    case atStart => exact ⟨0, u.init, Nat.zero_le _, rfl, rfl, HSI, HI, Ext.rfl'⟩
    case round =>
      obtain ⟨k, q, hk, rfl, rfl, HQ, HF, hbw⟩ := hrel
      by_cases hlt : k < m
      · obtain ⟨b, off, rfl, hbl, hcell⟩ := HR.out (by omega)
        have c1 := Ext.cellOf hbw (hcell k hlt)
        clear hcell
        have hbv : decide ((k : Int) < (m : Int)) = true := by simp; omega
        obtain ⟨d0, d1, d2, d3, d4, d5, d6, d7, d8⟩ := HU2.out.ext hbw
        have HN := Lib.hid (feas_at (u := u) (s := q) (xs := row) (k := k) (by rw [HL.out]; exact hlt))
        generalize row.getD k false = on at *
        go_wp2_with fail
        refine (next_any u G q HQ.out on A n c _).mono ?_
        rintro e w3 ⟨rfl, hb3⟩
        cases hnb : u.nextB q on
        · have HZ := Lib.hid (nextB_false hnb)
          clear hnb
          go_wp2_with fail
          go_ret
          refine ⟨ret_bool ?_, Ext.trans hE2 (Ext.trans hbw hb3)⟩
          rw [HF.out, HN.out, if_pos HZ.out]
        · have HZ := Lib.hid (nextB_true hnb)
          clear hnb
          go_wp2_with fail
          go_roundw
          case rel => exact ⟨k + 1, _, by omega, by go_num, rfl, U.next_state G HQ.out HZ.out, HF.out.trans (by rw [HN.out, if_neg HZ.out]), Ext.trans hbw hb3⟩
          case measure => simp [intOf]; omega
      · have hbv : decide ((k : Int) < (m : Int)) = false := by simp; omega
        go_wp2_with fail
        go_ret
        refine ⟨ret_bool ?_, Ext.trans hE2 hbw⟩
        rw [HF.out, List.drop_eq_nil_of_le (by rw [HL.out]; omega)]
        rfl

theorem starts_at {p : Bool} {xs : List Bool} {k : Nat} (hk : k < xs.length) : startsFrom p (xs.drop k) = (if xs.getD k false && !p then 1 else 0) + startsFrom (xs.getD k false) (xs.drop (k + 1)) := by
  rw [List.drop_eq_getElem_cons hk]
  have hg : xs.getD k false = xs[k] := by simp [List.getD, hk]
  rw [hg]
  rfl
theorem ons_at {xs : List Bool} {k : Nat} (hk : k < xs.length) : ons (xs.drop k) = (if xs.getD k false then 1 else 0) + ons (xs.drop (k + 1)) := by
  rw [List.drop_eq_getElem_cons hk]
  have hg : xs.getD k false = xs[k] := by simp [List.getD, hk]
  rw [hg]
  rfl
theorem starts_bd : ∀ (p : Bool) (xs : List Bool), 0 ≤ startsFrom p xs ∧ startsFrom p xs ≤ xs.length
  | _, [] => by simp [startsFrom]
  | p, b :: r => by
    have := starts_bd b r
    simp only [startsFrom, List.length_cons]
    split <;> omega
theorem ustarts_bd (u : U) (xs : List Bool) : 0 ≤ u.starts xs ∧ u.starts xs ≤ xs.length := by
  have := starts_bd (decide (0 < u.on)) xs
  unfold U.starts
  split <;> omega

set_option maxHeartbeats 1000000 in
theorem starts_any (u : U) (A : Option Addr) (n c : Nat) (R : Option Addr) (m d : Nat) (row : List Bool) (w : World) (hs : StepsAt w A n u.steps) (hn : n ≤ maxLen) (hr : BoolsAt w R m row) (hm : m ≤ maxLen) :
    Calls Try.prog 19 #[u.val A n c, .slice R m d] w fun e w' => e = .returned (.int .i64 (u.starts row)) ∧ Ext w w' := by
  unfold maxLen at hm
  go_enter Try.func19, Try.ntmps19
  go_wp2_with fail
  refine (valid_any u A n c _ (hs.below ((Below.refl _ _).alloc (Nat.le_refl _) _)) hn).mono ?_
  rintro e w1 ⟨rfl, hb1⟩
  have hE : Ext w w1 := Ext.new hb1
  cases hok : u.ok
  · have HI : Hid (u.starts row = 0) := by unfold Hid U.starts; rw [hok]; rfl
    clear hok
    go_wp2_with fail
    go_ret
    exact ⟨ret_int HI.out.symm, hE⟩
  · have HI : Hid (u.starts row = 0 + startsFrom (decide (0 < u.on)) (row.drop 0)) := by unfold Hid U.starts; rw [hok]; simp
    clear hok
    obtain ⟨d0, d1, d2, d3, d4, d5, d6, d7, d8⟩ := (ubox w u A n c).ext hb1
    have hl := hr.1
    have HL := Lib.hid hl; clear hl
    have HR := Lib.hid (hr.below hE).2
    go_wp2_with fail
    go_loopw [5, 6, 17] (fun s p i wr => ∃ (k : Nat) (q : Int) (on : Bool), k ≤ m ∧ i = .int .i64 k ∧ s = .int .i64 q ∧ p = .bool on ∧ 0 ≤ q ∧ q ≤ k ∧ Hid (u.starts row = q + startsFrom on (row.drop k)) ∧ wr = w1) (fun _ _ i _ => m - (intOf i).toNat)
    case atStart => exact ⟨0, 0, decide (0 < u.on), Nat.zero_le _, rfl, rfl, rfl, by omega, by omega, HI, rfl⟩
    case round =>
      obtain ⟨k, q, p, hk, rfl, rfl, rfl, hq0, hqk, HF, rfl⟩ := hrel
      by_cases hlt : k < m
      · obtain ⟨b, off, rfl, hbl, hcell⟩ := HR.out (by omega)
        have c1 := hcell k hlt
        clear hcell
        have hbv : decide ((k : Int) < (m : Int)) = true := by simp; omega
        have HN := Lib.hid (starts_at (p := p) (xs := row) (k := k) (by rw [HL.out]; exact hlt))
        generalize row.getD k false = on at *
        cases on <;> cases p
        all_goals
          go_wp2_with fail
          go_roundw
          case rel => exact ⟨k + 1, _, _, by omega, by go_num, rfl, rfl, by omega, by omega, HF.out.trans (by rw [HN.out]; simp; try omega), trivial⟩
          case measure => simp [intOf]; omega
      · have hbv : decide ((k : Int) < (m : Int)) = false := by simp; omega
        go_wp2_with fail
        go_ret
        refine ⟨ret_int ?_, hE⟩
        rw [HF.out, List.drop_eq_nil_of_le (by rw [HL.out]; omega)]
        simp [startsFrom]

set_option maxHeartbeats 1000000 in
theorem cost_any (u : U) (A : Option Addr) (n c : Nat) (R : Option Addr) (m d : Nat) (row : List Bool) (w : World) (hs : StepsAt w A n u.steps) (hn : n ≤ maxLen) (hr : BoolsAt w R m row) (hm : m ≤ 1000) :
    Calls Try.prog 22 #[u.val A n c, .slice R m d] w fun e w' => e = .returned (.int .i64 (u.cost row)) ∧ Ext w w' := by
  go_enter Try.func22, Try.ntmps22
  go_wp2_with fail
  refine (valid_any u A n c _ (hs.below ((Below.refl _ _).alloc (Nat.le_refl _) _)) hn).mono ?_
  rintro e w1 ⟨rfl, hb1⟩
  have hE : Ext w w1 := Ext.new hb1
  cases hok : u.ok
  · have HI : Hid (u.cost row = 0) := by unfold Hid U.cost; rw [hok]; rfl
    clear hok
    go_wp2_with fail
    go_ret
    exact ⟨ret_int HI.out.symm, hE⟩
  · have HI : Hid (u.cost row = u.start * u.starts row + u.idle * ons (row.drop 0)) := by unfold Hid U.cost; rw [hok]; simp
    have G := U.good hok
    clear hok
    obtain ⟨_, _, _, _, gs0, gs9, gi0, gi9, _, _, _⟩ := G
    have HU := Lib.hid ((ubox w u A n c).ext hb1)
    obtain ⟨d0, d1, d2, d3, d4, d5, d6, d7, d8⟩ := HU.out
    have x0 := fun x : ExtOf w1 => x.cell d0
    have x1 := fun x : ExtOf w1 => x.cell d1
    have x2 := fun x : ExtOf w1 => x.cell d2
    have x3 := fun x : ExtOf w1 => x.cell d3
    have x4 := fun x : ExtOf w1 => x.cell d4
    have x5 := fun x : ExtOf w1 => x.cell d5
    have x6 := fun x : ExtOf w1 => x.cell d6
    have x7 := fun x : ExtOf w1 => x.cell d7
    have x8 := fun x : ExtOf w1 => x.cell d8
    have hl := hr.1
    have HL := Lib.hid hl; clear hl
    have hsb := ustarts_bd u row
    rw [HL.out] at hsb
    obtain ⟨hz0, hz1⟩ : 0 ≤ u.start * u.starts row ∧ u.start * u.starts row ≤ 1000000000000 := by
      refine ⟨Int.mul_nonneg gs0 hsb.1, ?_⟩
      have h1 : u.start * u.starts row ≤ 1000000000 * u.starts row := Int.mul_le_mul_of_nonneg_right gs9 hsb.1
      omega
    have hw : IntKind.i64.wrap (u.start * u.starts row) = u.start * u.starts row := IntWalk.i64_in _ (by omega)
    clear hsb
    go_wp2_with fail
    refine wp_region_ext (by kernel_rfl) (by kernel_rfl) ?_
    repeat (go_big_quiet_step (exact ext_call (starts_any u A n c R m d row _ ((hs.below hE).below (ExtOf.h _)) hn ((hr.below hE).below (ExtOf.h _)) (by unfold maxLen; omega))))
    refine wpQuiet_nil ?_
    rintro _ ⟨x, rfl⟩
    clear x0 x1 x2 x3 x4 x5 x6 x7 x8 hw d0 d1 d2 d3 d4 d5 d6 d7 d8
    have hx := x.h
    generalize x.w = w2 at *
    have hE2 := Ext.trans hE hx
    obtain ⟨d0, d1, d2, d3, d4, d5, d6, d7, d8⟩ := HU.out.ext hx
    have HR := Lib.hid (hr.below hE2).2
    generalize u.start * u.starts row = z0 at *
    go_wp2_with fail
    go_loopw [5, 19] (fun s i wr => ∃ (k : Nat) (z : Int), k ≤ m ∧ i = .int .i64 k ∧ s = .int .i64 z ∧ 0 ≤ z ∧ z ≤ 1000000000000 + 1000000000 * k ∧ Hid (u.cost row = z + u.idle * ons (row.drop k)) ∧ wr = w2) (fun _ i _ => m - (intOf i).toNat)
    case atStart => exact ⟨0, z0, Nat.zero_le _, rfl, rfl, by omega, by omega, HI, rfl⟩
    case round =>
      obtain ⟨k, z, hk, rfl, rfl, hq0, hqk, HF, rfl⟩ := hrel
      by_cases hlt : k < m
      · obtain ⟨b, off, rfl, hbl, hcell⟩ := HR.out (by omega)
        have c1 := hcell k hlt
        clear hcell
        have hbv : decide ((k : Int) < (m : Int)) = true := by simp; omega
        have HN := Lib.hid (ons_at (xs := row) (k := k) (by rw [HL.out]; exact hlt))
        generalize row.getD k false = on at *
        cases on
        · go_wp2_with fail
          go_roundw
          case rel => exact ⟨k + 1, _, by omega, by go_num, rfl, by omega, by omega, HF.out.trans (by rw [HN.out]; simp), trivial⟩
          case measure => simp [intOf]; omega
        · go_wp2_with fail
          go_roundw
          case rel => exact ⟨k + 1, _, by omega, by go_num, rfl, by omega, by omega, HF.out.trans (by rw [HN.out, Int.mul_add]; simp; omega), trivial⟩
          case measure => simp [intOf]; omega
      · have hbv : decide ((k : Int) < (m : Int)) = false := by simp; omega
        go_wp2_with fail
        go_ret
        refine ⟨ret_int ?_, hE2⟩
        rw [HF.out, List.drop_eq_nil_of_le (by rw [HL.out]; omega)]
        simp [ons]
end Go.Proofs.Ytkkobdfhnkdfgaa
