/- Contracts of pylonref26.Same and SameAll. -/
import Derived.Test.YtkkobdfhnkdfgaaSchedB
namespace Go.Proofs.Ytkkobdfhnkdfgaa
open Go.RowKit

theorem lists_ne {α : Type} [DecidableEq α] {xs ys : List α} {d : α} {k : Nat} (hne : xs.getD k d ≠ ys.getD k d) : decide (xs = ys) = false := by
  apply decide_eq_false
  rintro rfl
  exact hne rfl
theorem lists_eq {α : Type} [DecidableEq α] {xs ys : List α} {d : α} (hl : xs.length = ys.length) (h : ∀ j, j < xs.length → xs.getD j d = ys.getD j d) : decide (xs = ys) = true := by
  apply decide_eq_true
  apply List.ext_getElem hl
  intro i h1 h2
  have := h i h1
  simpa [List.getD, h1, h2] using this

set_option maxHeartbeats 1000000 in
theorem same_any (A : Option Addr) (n c : Nat) (xs : List Bool) (B : Option Addr) (m d : Nat) (ys : List Bool) (w : World) (hx : BoolsAt w A n xs) (hy : BoolsAt w B m ys) (hn : n ≤ maxLen) :
    Calls Try.prog 21 #[.slice A n c, .slice B m d] w fun e w' => e = .returned (.bool (decide (xs = ys))) ∧ Ext w w' := by
  unfold maxLen at hn
  by_cases hnm : n = m
  · subst hnm
    have HL := Lib.hid hx.1
    have HM := Lib.hid hy.1
    have HX := Lib.hid hx.2
    have HY := Lib.hid hy.2
    clear hx hy
    go_enter Try.func21, Try.ntmps21
    go_wp2_with fail
    go_loopw [5] (fun i wr => ∃ k : Nat, k ≤ n ∧ i = .int .i64 k ∧ Hid (∀ j, j < k → xs.getD j false = ys.getD j false) ∧ Ext w wr) (fun i _ => n - (intOf i).toNat)
    case atStart => exact ⟨0, by omega, rfl, fun j hj => by omega, Ext.rfl'⟩
    case round =>
      obtain ⟨k, hk, rfl, HE, hbw⟩ := hrel
      by_cases hlt : k < n
      · obtain ⟨b, off, rfl, hbl, hc⟩ := HX.out (by omega)
        obtain ⟨b', off', rfl, hbl', hc'⟩ := HY.out (by omega)
        have c1 := Ext.cellOf hbw (hc k hlt)
        have c2 := Ext.cellOf hbw (hc' k hlt)
        clear hc hc'
        have hbv : decide ((k : Int) < (n : Int)) = true := by simp; omega
        have h01 : (0 : Int) ≤ (k : Int) := by omega
        have h02 : (k : Int) < (n : Int) := by omega
        have HX1 : Hid (xs.getD k false = ys.getD k false → ∀ j, j < k + 1 → xs.getD j false = ys.getD j false) := fun e j hj => by
          rcases Nat.lt_or_ge j k with h | h
          · exact HE.out j h
          · obtain rfl : j = k := by omega
            exact e
        have HX2 : Hid (xs.getD k false ≠ ys.getD k false → decide (xs = ys) = false) := lists_ne
        generalize xs.getD k false = x at *
        generalize ys.getD k false = y at *
        cases x <;> cases y
        · go_wp2_with fail
          go_quiet (fail)
          go_wp2_with fail
          go_roundw
          case rel => exact ⟨k + 1, by omega, by go_num, HX1.out (by simp), below_drewN hbw _⟩
          case measure => simp [intOf]; omega
        · go_wp2_with fail
          go_quiet (fail)
          go_wp2_with fail
          go_ret
          exact ⟨ret_bool (HX2.out (by simp)).symm, below_drewN hbw _⟩
        · go_wp2_with fail
          go_quiet (fail)
          go_wp2_with fail
          go_ret
          exact ⟨ret_bool (HX2.out (by simp)).symm, below_drewN hbw _⟩
        · go_wp2_with fail
          go_quiet (fail)
          go_wp2_with fail
          go_roundw
          case rel => exact ⟨k + 1, by omega, by go_num, HX1.out (by simp), below_drewN hbw _⟩
          case measure => simp [intOf]; omega
      · have hbv : decide ((k : Int) < (n : Int)) = false := by simp; omega
        go_wp2_with fail
        go_ret
        exact ⟨ret_bool (lists_eq (by rw [HL.out, HM.out]) fun j hj => HE.out j (by rw [HL.out] at hj; omega)).symm, hbw⟩
  · have hb : ((n : Int) != (m : Int)) = true := by simp; omega
    have HZ : Hid (decide (xs = ys) = false) := by
      apply decide_eq_false
      rintro rfl
      exact hnm (hx.1.symm.trans hy.1)
    clear hnm hx hy
    go_enter Try.func21, Try.ntmps21
    go_wp2_with fail
    go_ret
    exact ⟨ret_bool HZ.out.symm, Ext.rfl'⟩

/-- The slice with address A and length n holds slices that hold these lists. -/
def RowsAt (w : World) (A : Option Addr) (n : Nat) (L : List (List Bool)) : Prop :=
  L.length = n ∧ (0 < n → ∃ g off, A = some ⟨g, off, none⟩ ∧ g < w.heap.size ∧ ∀ i, i < n → ∃ R m d, w.cell? ⟨g, off + i, none⟩ = some (.slice R m d) ∧ BoolsAt w R m (L.getD i []) ∧ m ≤ maxLen)
theorem RowsAt.below {w w' : World} {A : Option Addr} {n : Nat} {L : List (List Bool)} (h : RowsAt w A n L) (hb : Ext w w') : RowsAt w' A n L := by
  refine ⟨h.1, fun hn => ?_⟩
  obtain ⟨g, off, ha, hlt, hc⟩ := h.2 hn
  refine ⟨g, off, ha, Nat.lt_of_lt_of_le hlt hb.size, fun i hi => ?_⟩
  obtain ⟨R, m, d, h1, h2, h3⟩ := hc i hi
  exact ⟨R, m, d, Ext.cellOf hb h1, h2.below hb, h3⟩
theorem own_cell {w : World} {base : Nat} {e : TypeId} {g n c : Nat} {xs : List Value} (h : w.ownsRow base e 1 (.slice (some ⟨g, 0, none⟩) n c) n xs) {i : Nat} (hi : i < n) : w.cell? ⟨g, i, none⟩ = xs[i]? := by
  rcases h.2 with ⟨hv, _⟩ | ⟨g', cap, cur, hv, _, hh, hc1, hc2, hc3, hc4⟩
  · cases hv
  · injection hv with e1 e2 e3
    injection e1 with e1
    injection e1 with e1
    subst e1
    rw [Blk.cell (t := e) hh i, ← hc4]
    simp only [Nat.mul_one] at *
    rw [List.getElem?_take, if_pos hi]
    simp
theorem own_bools {w : World} {base : Nat} {g n c : Nat} {xs : List Bool} (h : w.ownsRow base 4 1 (.slice (some ⟨g, 0, none⟩) n c) n (xs.map Value.bool)) : BoolsAt w (some ⟨g, 0, none⟩) n xs := by
  have hl : xs.length = n := by have := h.1; simpa using this
  refine ⟨hl, fun hn => ⟨g, 0, rfl, (own_lt h rfl).1, fun i hi => ?_⟩⟩
  rw [Nat.zero_add, own_cell h hi]
  simp [List.getD, hl, hi]
theorem Lists.rows {w : World} {B1 hrs : Nat} {vA : Value} {L : List (List Bool)} (h8 : hrs ≤ 8) (h : Lists w B1 hrs vA L) : ∃ A c, vA = .slice A L.length c ∧ RowsAt w A L.length L := by
  obtain ⟨FC, h1, h2, h3, h4⟩ := h
  rcases h1.2 with ⟨rfl, hn⟩ | ⟨g, cap, cur, rfl, hb, hh, hc1, hc2, hc3, hc4⟩
  · exact ⟨none, 0, by rw [hn], rfl, fun h => by omega⟩
  · refine ⟨_, cap, rfl, rfl, fun hn => ⟨g, 0, rfl, (own_lt h1 rfl).1, fun i hi => ?_⟩⟩
    have hif : i < FC.length := by omega
    obtain ⟨xs, e, ho⟩ := h4 i FC[i] (List.getElem?_eq_getElem hif)
    refine ⟨some ⟨FC[i].1, 0, none⟩, hrs, FC[i].2, ?_, ?_, by simp [maxLen]; omega⟩
    · rw [Nat.zero_add, own_cell h1 hi]
      simp [hif]
    · have : L.getD i [] = xs := by simp [List.getD, e]
      rw [this]
      exact own_bools ho
theorem Lists.len {w : World} {B1 hrs : Nat} {vA : Value} {L : List (List Bool)} (h : Lists w B1 hrs vA L) : ∀ xs ∈ L, xs.length = hrs := by
  obtain ⟨FC, h1, h2, h3, h4⟩ := h
  intro xs hx
  obtain ⟨i, hi, rfl⟩ := List.getElem_of_mem hx
  obtain ⟨xs', e, ho⟩ := h4 i FC[i] (List.getElem?_eq_getElem (by omega))
  rw [List.getElem?_eq_getElem hi] at e
  injection e with e
  have := ho.1
  simpa [e] using this

set_option maxHeartbeats 1000000 in
theorem sameAll_any (A : Option Addr) (n c : Nat) (xs : List (List Bool)) (B : Option Addr) (m d : Nat) (ys : List (List Bool)) (w : World) (hx : RowsAt w A n xs) (hy : RowsAt w B m ys) (hn : n ≤ maxLen) :
    Calls Try.prog 14 #[.slice A n c, .slice B m d] w fun e w' => e = .returned (.bool (decide (xs = ys))) ∧ Ext w w' := by
  unfold maxLen at hn
  by_cases hnm : n = m
  · subst hnm
    have HL := Lib.hid hx.1
    have HM := Lib.hid hy.1
    have HX := Lib.hid hx.2
    have HY := Lib.hid hy.2
    clear hx hy
    go_enter Try.func14, Try.ntmps14
    go_wp2_with fail
    go_loopw [5] (fun i wr => ∃ k : Nat, k ≤ n ∧ i = .int .i64 k ∧ Hid (∀ j, j < k → xs.getD j [] = ys.getD j []) ∧ Ext w wr) (fun i _ => n - (intOf i).toNat)
    case atStart => exact ⟨0, by omega, rfl, fun j hj => by omega, Ext.rfl'⟩
    case round =>
      obtain ⟨k, hk, rfl, HE, hbw⟩ := hrel
      by_cases hlt : k < n
      · obtain ⟨b, off, rfl, hbl, hc⟩ := HX.out (by omega)
        obtain ⟨b', off', rfl, hbl', hc'⟩ := HY.out (by omega)
        obtain ⟨R, p, q, c1, HR, hp⟩ := hc k hlt
        obtain ⟨R', p', q', c2, HR', _⟩ := hc' k hlt
        have x1 := fun x : ExtOf wr => x.cell (Ext.cellOf hbw c1)
        have x2 := fun x : ExtOf wr => x.cell (Ext.cellOf hbw c2)
        have g1 := HR.below hbw
        have g2 := HR'.below hbw
        clear hc hc' c1 c2
        have hbv : decide ((k : Int) < (n : Int)) = true := by simp; omega
        have h01 : (0 : Int) ≤ (k : Int) := by omega
        have h02 : (k : Int) < (n : Int) := by omega
        have HX1 : Hid (decide (xs.getD k [] = ys.getD k []) = true → ∀ j, j < k + 1 → xs.getD j [] = ys.getD j []) := fun e j hj => by
          rcases Nat.lt_or_ge j k with h | h
          · exact HE.out j h
          · obtain rfl : j = k := by omega
            exact of_decide_eq_true e
        have HX2 : Hid (decide (xs.getD k [] = ys.getD k []) = false → decide (xs = ys) = false) := fun e => lists_ne (of_decide_eq_false e)
        have HS := fun wx (hE : Ext wr wx) => same_any R p q (xs.getD k []) R' p' q' (ys.getD k []) wx (g1.below hE) (g2.below hE) hp
        have HSH := Lib.hid HS
        clear HS g1 g2 HR HR' hp
        generalize decide (xs.getD k [] = ys.getD k []) = z at *
        cases z
        · go_wp2_with fail
          refine wp_region_ext (by kernel_rfl) (by kernel_rfl) ?_
          repeat (go_big_quiet_step (exact ext_call (HSH.out _ (ExtOf.h _))))
          refine wpQuiet_nil ?_
          rintro _ ⟨x, rfl⟩
          clear x1 x2
          go_wp2_with fail
          go_ret
          exact ⟨ret_bool (HX2.out (by simp)).symm, Ext.trans hbw x.h⟩
        · go_wp2_with fail
          refine wp_region_ext (by kernel_rfl) (by kernel_rfl) ?_
          repeat (go_big_quiet_step (exact ext_call (HSH.out _ (ExtOf.h _))))
          refine wpQuiet_nil ?_
          rintro _ ⟨x, rfl⟩
          clear x1 x2
          go_wp2_with fail
          go_roundw
          case rel => exact ⟨k + 1, by omega, by go_num, HX1.out (by simp), Ext.trans hbw x.h⟩
          case measure => simp [intOf]; omega
      · have hbv : decide ((k : Int) < (n : Int)) = false := by simp; omega
        go_wp2_with fail
        go_ret
        exact ⟨ret_bool (lists_eq (by rw [HL.out, HM.out]) fun j hj => HE.out j (by rw [HL.out] at hj; omega)).symm, hbw⟩
  · have hb : ((n : Int) != (m : Int)) = true := by simp; omega
    have HZ : Hid (decide (xs = ys) = false) := by
      apply decide_eq_false
      rintro rfl
      exact hnm (hx.1.symm.trans hy.1)
    clear hnm hx hy
    go_enter Try.func14, Try.ntmps14
    go_wp2_with fail
    go_ret
    exact ⟨ret_bool HZ.out.symm, Ext.rfl'⟩
end Go.Proofs.Ytkkobdfhnkdfgaa
