/- Plain facts for the laws PathOptimality, PathDynamicProgramming, PathHigherPrices, PathHigherCosts. -/
import Derived.Test.YtjinpfnefeiooaaAwake27
namespace Go.Proofs.Ytjinpfnefeiooaa
open Go.RowKit

theorem best_facts {u : U} {ps : List Rat} (h0 : u.pchk ps.length = 0) :
    u.profE ps (u.path ps u.init) = 0 ∧ u.profV ps (u.path ps u.init) = u.bestV ps ∧ u.feas (u.path ps u.init) = true ∧ (u.path ps u.init).length = ps.length := by
  obtain ⟨hok, _⟩ := pchk_zero.1 h0
  obtain ⟨a1, a2, a3, _⟩ := dp_main hok ps u.init (U.init_state (U.good hok))
  have hf := feas_of hok a1
  have hE : u.profE ps (u.path ps u.init) = 0 := by unfold U.profE; rw [h0, if_neg (by simp), if_neg (by rw [hf]; simp [a2])]
  refine ⟨hE, ?_, hf, a2⟩
  unfold U.profV U.bestV
  rw [if_pos hE, if_pos h0, prof_pv hf a2, a3]
theorem prof_parts {u : U} {ps : List Rat} {row : List Bool} (h : u.profE ps row = 0) : u.pchk ps.length = 0 ∧ row.length = ps.length ∧ u.feas row = true := by
  unfold U.profE at h
  by_cases h0 : u.pchk ps.length = 0
  · rw [if_neg (by simp [h0])] at h
    by_cases h1 : row.length ≠ ps.length ∨ u.feas row = false
    · rw [if_pos h1] at h; omega
    · simp only [not_or, ne_eq, Decidable.not_not, Bool.not_eq_false] at h1
      exact ⟨h0, h1⟩
  · rw [if_pos h0] at h; exact absurd h h0
theorem prof_bad {u : U} {ps : List Rat} {row : List Bool} (h0 : u.pchk ps.length = 0) (h : u.profE ps row ≠ 0) : u.profE ps row = 3 := by
  unfold U.profE at h ⊢
  rw [if_neg (by simp [h0])] at h ⊢
  by_cases h1 : row.length ≠ ps.length ∨ u.feas row = false
  · rw [if_pos h1]
  · rw [if_neg h1] at h; exact absurd rfl h
theorem popt_facts {u : U} {ps : List Rat} {row : List Bool} (h : u.profE ps row = 0) : u.profV ps row ≤ u.bestV ps ∧ (u.profV ps row = u.bestV ps → lexAfter row (u.path ps u.init)) := by
  obtain ⟨h0, hl, hf⟩ := prof_parts h
  obtain ⟨hok, _⟩ := pchk_zero.1 h0
  obtain ⟨_, hff⟩ := feas_parts hf
  obtain ⟨_, _, _, a4⟩ := dp_main hok ps u.init (U.init_state (U.good hok))
  unfold U.profV U.bestV
  rw [if_pos h, if_pos h0, prof_pv hf hl]
  exact a4 row hl hff
theorem lex_at : ∀ {r t : List Bool}, lexAfter r t → r.length = t.length → ∀ {i : Nat}, i < r.length → (∀ j, j < i → r.getD j false = t.getD j false) → r.getD i false ≠ t.getD i false → r.getD i false = true
  | [], _, _, _, i, hi, _, _ => by simp at hi
  | a :: r, [], _, hl, _, _, _, _ => by simp at hl
  | a :: r, b :: t, h, hl, 0, _, _, hne => by
    simp only [List.getD_cons_zero] at hne ⊢
    simp only [lexAfter, if_neg hne] at h
    exact h
  | a :: r, b :: t, h, hl, i + 1, hi, hj, hne => by
    have h0 := hj 0 (by omega)
    simp only [List.getD_cons_zero] at h0
    simp only [lexAfter, if_pos h0] at h
    simp only [List.getD_cons_succ] at hne ⊢
    exact lex_at h (by simpa using hl) (by simpa using hi) (fun j hj' => by simpa using hj (j + 1) (by omega)) hne
theorem sz_bestV {u : U} {ps : List Rat} (hz : ∀ i, i < ps.length → Sz 1000 (ps.getD i 0)) : Sz 80000 (u.bestV ps) := by
  unfold U.bestV
  split
  · obtain ⟨hok, h8⟩ := pchk_zero.1 ‹_›
    exact (sz_dp hok ps hz _).mono (by omega)
  · exact sz_zero.mono (by omega)
theorem sz_profV {u : U} {ps : List Rat} {row : List Bool} (hz : ∀ i, i < ps.length → Sz 1000 (ps.getD i 0)) : Sz 80000 (u.profV ps row) := by
  unfold U.profV
  split
  · obtain ⟨h0, hl, hf⟩ := prof_parts ‹_›
    obtain ⟨hok, h8⟩ := pchk_zero.1 h0
    exact (sz_prof hok (by omega) hz ps.length (Nat.le_refl _)).mono (by omega)
  · exact sz_zero.mono (by omega)
theorem sign_zero {q : Rat} (h : q = 0) : q.num.sign = 0 := by rw [h]; rfl
theorem bestV_bad {u : U} {ps : List Rat} (h : u.pchk ps.length ≠ 0) : u.bestV ps = 0 := by unfold U.bestV; rw [if_neg h]
end Go.Proofs.Ytjinpfnefeiooaa
