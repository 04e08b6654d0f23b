/- A part of the proof. -/
import Derived.Test.YtjinpfnefeiooaaGreatAwake27
namespace Go.Proofs.YtjinpfnefeiooaaGreat
open Go.RowKit
theorem prof_parts {u : U} {ps : List Rat} {row : List Bool} (h : u.profE ps row = 0) : u.pchk ps.length = 0 ∧ row.length = ps.length ∧ u.feas row = true := by
 unfold U.profE at h
 by_cases h0 : u.pchk ps.length = 0
 ·rw [if_neg (by simp [h0])] at h
  by_cases h1 : row.length ≠ ps.length ∨ u.feas row = false
  ·rw [if_pos h1] at h; omega
  ·simp only [not_or, ne_eq, Decidable.not_not, Bool.not_eq_false] at h1
   exact ⟨h0, h1⟩
 ·rw [if_pos h0] at h; exact absurd h h0
theorem sz_bestV {u : U} {ps : List Rat} (hz : ∀ i, i < ps.length → Sz 1000 (ps.getD i 0)) : Sz 80000 (u.bestV ps) := by
 unfold U.bestV
 split
 ·obtain ⟨hok, h8⟩ := pchk_zero.1 ‹_›
  exact (sz_dp hok ps hz _).mono (by omega)
 ·exact sz_zero.mono (by omega)
theorem sz_profV {u : U} {ps : List Rat} {row : List Bool} (hz : ∀ i, i < ps.length → Sz 1000 (ps.getD i 0)) : Sz 80000 (u.profV ps row) := by
 unfold U.profV
 split
 ·obtain ⟨h0, hl, hf⟩ := prof_parts ‹_›
  obtain ⟨hok, h8⟩ := pchk_zero.1 h0
  exact (sz_prof hok (by omega) hz ps.length (Nat.le_refl _)).mono (by omega)
 ·exact sz_zero.mono (by omega)
end Go.Proofs.YtjinpfnefeiooaaGreat
