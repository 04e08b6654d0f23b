/- Contracts of pylonlaw23's helpers: steps, whole, costs, wanted, curve. Contract of pylonlaw23.Long. -/
import Derived.Test.YtjinpfnefeiooaaHalve
import Derived.Test.YtjinpfnefeiooaaStepC
namespace Go.Proofs.Ytjinpfnefeiooaa
open Go.RowKit

theorem info_step : (Try.prog.info? 92).map (fun i => (i.zero, i.size, i.bytes)) = some (some (.agg #[.int .i64 0, .int .i64 0]), 2, 16) := by kernel_rfl
/-- The cells of steps. -/
def stepCells : List (Int × Int) → List Value
  | [] => []
  | x :: r => .int .i64 x.1 :: .int .i64 x.2 :: stepCells r
theorem stepCells_append (a b : List (Int × Int)) : stepCells (a ++ b) = stepCells a ++ stepCells b := by
  induction a with
  | nil => rfl
  | cons x r ih => simp [stepCells, ih]
theorem stepCells_len : ∀ a : List (Int × Int), (stepCells a).length = a.length * 2
  | [] => rfl
  | x :: r => by simp only [stepCells, List.length_cons, stepCells_len r]; omega
theorem stepCells_at : ∀ (a : List (Int × Int)) (i : Nat), i < a.length → (stepCells a)[i * 2]? = some (.int .i64 (a.getD i (0, 0)).1) ∧ (stepCells a)[i * 2 + 1]? = some (.int .i64 (a.getD i (0, 0)).2)
  | x :: r, 0, _ => by simp [stepCells]
  | x :: r, i + 1, h => by
    have ih := stepCells_at r i (by simpa using h)
    simp only [stepCells]
    rw [show (i + 1) * 2 = i * 2 + 1 + 1 by omega]
    simpa using ih
theorem own_steps {w : World} {base n : Nat} {v : Value} {ps : List (Int × Int)} (h : w.ownsRow base 92 2 v n (stepCells ps)) : ∃ A c, v = .slice A n c ∧ n ≤ c ∧ c ≤ maxLen ∧ StepsAt w A n ps := by
  have hl : ps.length = n := by have := h.1; rw [stepCells_len] at this; omega
  rcases h.2 with ⟨rfl, hn⟩ | ⟨g, cap, cur, rfl, hb, hh, h3, h4, _⟩
  · subst hn
    exact ⟨none, 0, rfl, Nat.le_refl _, by simp [maxLen], hl, fun h => absurd h (by omega)⟩
  · refine ⟨_, _, rfl, h3, h4, hl, fun _ => ⟨g, 0, rfl, (own_lt h rfl).1, fun i hi => ?_⟩⟩
    have := stepCells_at ps i (by omega)
    rw [Nat.zero_add, h.cellAt (i * 2) (by omega), h.cellAt (i * 2 + 1) (by omega)]
    exact this
/-- The slice with address A and length n holds these numbers. -/
def IntsAt (w : World) (A : Option Addr) (n : Nat) (zs : List Int) : Prop := zs.length = n ∧ ∃ b off, A = some ⟨b, off, none⟩ ∧ b < w.heap.size ∧ ∀ i, i < n → w.cell? ⟨b, off + i, none⟩ = some (.int .i64 (zs.getD i 0))
theorem IntsAt.below {w w' : World} {A : Option Addr} {n : Nat} {zs : List Int} (h : IntsAt w A n zs) (hb : Ext w w') : IntsAt w' A n zs := by
  obtain ⟨h1, b, off, ha, hlt, hc⟩ := h
  exact ⟨h1, b, off, ha, Nat.lt_of_lt_of_le hlt hb.size, fun i hi => Ext.cellOf hb (hc i hi)⟩
/-- The first k steps of numbers. -/
def stepsTo (zs : List Int) : Nat → List (Int × Int)
  | 0 => []
  | k + 1 => stepsTo zs k ++ [(zs.getD (2 * k) 0, zs.getD (2 * k + 1) 0)]

theorem nat_le_of_sz {w : World} {B0 : Nat} {s : Bool} {A : Option Addr} {n c : Nat} {t : Bool} {B : Option Addr} {m d : Nat} {q : Rat} (h : QCan w B0 s A n c t B m d q) {k l : Nat} (hk : Sz k q) (hl : k ≤ l) : n ≤ l ∧ m ≤ l := ⟨Nat.le_trans (h.len hk).1 hl, Nat.le_trans (h.len hk).2 hl⟩

theorem crv_or (xs : List (Int × Int)) : (chk true xs = 0 ∨ chk false xs = 0) ↔ crv xs = 0 := by
  unfold crv
  by_cases h : chk false xs = 0
  · simp [h]
  · simp [h]

end Go.Proofs.Ytjinpfnefeiooaa

namespace Go.Proofs.Ytjinpfnefeiooaa
open Go.RowKit

/-- At this place of memory lies a rational with these lengths. -/
def LenAt (w : World) (g off n m : Nat) : Prop := ∃ (A : Option Addr) (c : Nat) (B : Option Addr) (d : Nat), w.cell? ⟨g, off + 1, none⟩ = some (.slice A n c) ∧ w.cell? ⟨g, off + 3, none⟩ = some (.slice B m d)

def RetLong (w : World) (k : Nat) (ln : Nat → Nat × Nat) (e : Ending) (w' : World) : Prop := (∃ b, e = .returned (.bool b) ∧ (b = false ↔ ∀ i, i < k → (ln i).1 ≤ 6 ∧ (ln i).2 ≤ 6)) ∧ Ext w w'

set_option maxRecDepth 100000 in
set_option maxHeartbeats 2000000 in
theorem long_any (g k c : Nat) (ln : Nat → Nat × Nat) (w : World) (h : ∀ i, i < k → LenAt w g (i * 4) (ln i).1 (ln i).2) (hk : k ≤ 10) (hb : ∀ i, (ln i).1 ≤ maxLen ∧ (ln i).2 ≤ maxLen) :
    Calls Try.prog 21 #[.slice (some ⟨g, 0, none⟩) k c] w (RetLong w k ln) := by
  have H := Lib.hid h
  clear h
  go_enter Try.func21, Try.ntmps21
  go_wp2_with fail
  go_loop [3] (fun i => ∃ j : Nat, j ≤ k ∧ i = .int .i64 j ∧ Hid (∀ x, x < j → (ln x).1 ≤ 6 ∧ (ln x).2 ≤ 6)) (fun i => k - (intOf i).toNat)
  case atStart => exact ⟨0, by omega, rfl, fun x hx => by omega⟩
  case round =>
    obtain ⟨j, hj, rfl, HI⟩ := hrel
    by_cases hlt : j < k
    · have hbv : decide ((j : Int) < (k : Int)) = true := by simp; omega
      obtain ⟨A, c', B, d', h1, h2⟩ := H.out j hlt
      have hb1 := hb j
      simp only [maxLen] at hb1
      have HN : Hid (((ln j).1 ≤ 6 ∧ (ln j).2 ≤ 6) → ∀ x, x < j + 1 → (ln x).1 ≤ 6 ∧ (ln x).2 ≤ 6) := fun e x hx => by
        by_cases hx2 : x = j
        · rw [hx2]; exact e
        · exact HI.out x (by omega)
      have HW : Hid ((¬ ((ln j).1 ≤ 6 ∧ (ln j).2 ≤ 6)) → ¬ ∀ i, i < k → (ln i).1 ≤ 6 ∧ (ln i).2 ≤ 6) := fun e hh => e (hh j hlt)
      generalize (ln j).1 = n at *
      generalize (ln j).2 = m at *
      obtain ⟨hn1, hm1⟩ := hb1
      have hz0 : (0 : Int) ≤ (j : Int) := by omega
      have hzn : (j : Int) < (k : Int) := by omega
      by_cases e1 : 6 < n
      · have hx1 : decide ((6 : Int) < (n : Int)) = true := by simp; omega
        have hx2 : decide (6 < n) = true := by simp; omega
        have HF : Hid (¬ ∀ i, i < k → (ln i).1 ≤ 6 ∧ (ln i).2 ≤ 6) := HW.out (by omega)
        clear HN HW HI
        go_wp2_with fail
        go_ret
        exact ⟨⟨true, rfl, by simpa using HF.out⟩, Ext.rfl'⟩
      · have hx1 : decide ((6 : Int) < (n : Int)) = false := by simp; omega
        have hx2 : decide (6 < n) = false := by simp; omega
        by_cases e2 : 6 < m
        · have hy1 : decide ((6 : Int) < (m : Int)) = true := by simp; omega
          have hy2 : decide (6 < m) = true := by simp; omega
          have HF : Hid (¬ ∀ i, i < k → (ln i).1 ≤ 6 ∧ (ln i).2 ≤ 6) := HW.out (by omega)
          clear HN HW HI
          go_wp2_with fail
          go_ret
          exact ⟨⟨true, rfl, by simpa using HF.out⟩, Ext.rfl'⟩
        · have hy1 : decide ((6 : Int) < (m : Int)) = false := by simp; omega
          have hy2 : decide (6 < m) = false := by simp; omega
          have HF := Lib.hid (HN.out ⟨by omega, by omega⟩)
          clear HN HW HI
          go_wp2_with fail
          go_round
          case rel => exact ⟨j + 1, by omega, by go_num, HF.out⟩
          case measure => simp [intOf]; omega
    · have hbv : decide ((j : Int) < (k : Int)) = false := by simp; omega
      have HF := Lib.hid HI.out
      clear HI
      go_wp2_with fail
      go_ret
      exact ⟨⟨false, rfl, by simp; exact fun i hi => HF.out i (by omega)⟩, Ext.rfl'⟩
end Go.Proofs.Ytjinpfnefeiooaa
