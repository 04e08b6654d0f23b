/- Contract of pylonlaw23.Long. -/
import Derived.Test.YtppcpklnnbgcjaaLaw23A
namespace Go.Proofs.Ytppcpklnnbgcjaa
open Go.RowKit

/-- At this place of memory lies a rational with these lengths. -/
def LenAt (w : World) (g off n m : Nat) : Prop := ∃ (A : Option Addr) (c : Nat) (B : Option Addr) (d : Nat), w.cell? ⟨g, off + 1, none⟩ = some (.slice A n c) ∧ w.cell? ⟨g, off + 3, none⟩ = some (.slice B m d)

def RetLong (w : World) (k : Nat) (ln : Nat → Nat × Nat) (e : Ending) (w' : World) : Prop := (∃ b, e = .returned (.bool b) ∧ (b = false ↔ ∀ i, i < k → (ln i).1 ≤ 6 ∧ (ln i).2 ≤ 6)) ∧ Ext w w'

set_option maxRecDepth 100000 in
set_option maxHeartbeats 2000000 in
theorem long_any (g k c : Nat) (ln : Nat → Nat × Nat) (w : World) (h : ∀ i, i < k → LenAt w g (i * 4) (ln i).1 (ln i).2) (hk : k ≤ 10) (hb : ∀ i, (ln i).1 ≤ maxLen ∧ (ln i).2 ≤ maxLen) :
    Calls Try.prog 15 #[.slice (some ⟨g, 0, none⟩) k c] w (RetLong w k ln) := by
  have H := Lib.hid h
  clear h
  go_enter Try.func15, Try.ntmps15
  go_wp2_with fail
  go_loop [3] (fun i => ∃ j : Nat, j ≤ k ∧ i = .int .i64 j ∧ Hid (∀ x, x < j → (ln x).1 ≤ 6 ∧ (ln x).2 ≤ 6)) (fun i => k - (intOf i).toNat)
  case atStart => exact ⟨0, by omega, rfl, fun x hx => by omega⟩
  case round =>
    obtain ⟨j, hj, rfl, HI⟩ := hrel
    by_cases hlt : j < k
    · have hbv : decide ((j : Int) < (k : Int)) = true := by simp; omega
      obtain ⟨A, c', B, d', h1, h2⟩ := H.out j hlt
      have hb1 := hb j
      simp only [maxLen] at hb1
      have HN : Hid (((ln j).1 ≤ 6 ∧ (ln j).2 ≤ 6) → ∀ x, x < j + 1 → (ln x).1 ≤ 6 ∧ (ln x).2 ≤ 6) := fun e x hx => by
        by_cases hx2 : x = j
        · rw [hx2]; exact e
        · exact HI.out x (by omega)
      have HW : Hid ((¬ ((ln j).1 ≤ 6 ∧ (ln j).2 ≤ 6)) → ¬ ∀ i, i < k → (ln i).1 ≤ 6 ∧ (ln i).2 ≤ 6) := fun e hh => e (hh j hlt)
      generalize (ln j).1 = n at *
      generalize (ln j).2 = m at *
      obtain ⟨hn1, hm1⟩ := hb1
      have hz0 : (0 : Int) ≤ (j : Int) := by omega
      have hzn : (j : Int) < (k : Int) := by omega
      by_cases e1 : 6 < n
      · have hx1 : decide ((6 : Int) < (n : Int)) = true := by simp; omega
        have hx2 : decide (6 < n) = true := by simp; omega
        have HF : Hid (¬ ∀ i, i < k → (ln i).1 ≤ 6 ∧ (ln i).2 ≤ 6) := HW.out (by omega)
        clear HN HW HI
        go_wp2_with fail
        go_ret
        exact ⟨⟨true, rfl, by simpa using HF.out⟩, Ext.rfl'⟩
      · have hx1 : decide ((6 : Int) < (n : Int)) = false := by simp; omega
        have hx2 : decide (6 < n) = false := by simp; omega
        by_cases e2 : 6 < m
        · have hy1 : decide ((6 : Int) < (m : Int)) = true := by simp; omega
          have hy2 : decide (6 < m) = true := by simp; omega
          have HF : Hid (¬ ∀ i, i < k → (ln i).1 ≤ 6 ∧ (ln i).2 ≤ 6) := HW.out (by omega)
          clear HN HW HI
          go_wp2_with fail
          go_ret
          exact ⟨⟨true, rfl, by simpa using HF.out⟩, Ext.rfl'⟩
        · have hy1 : decide ((6 : Int) < (m : Int)) = false := by simp; omega
          have hy2 : decide (6 < m) = false := by simp; omega
          have HF := Lib.hid (HN.out ⟨by omega, by omega⟩)
          clear HN HW HI
          go_wp2_with fail
          go_round
          case rel => exact ⟨j + 1, by omega, by go_num, HF.out⟩
          case measure => simp [intOf]; omega
    · have hbv : decide ((j : Int) < (k : Int)) = false := by simp; omega
      have HF := Lib.hid HI.out
      clear HI
      go_wp2_with fail
      go_ret
      exact ⟨⟨false, rfl, by simp; exact fun i hi => HF.out i (by omega)⟩, Ext.rfl'⟩
end Go.Proofs.Ytppcpklnnbgcjaa
