/- UpliftRecovers holds, where the arguments are together of bulk at most 1,048,576: the law returns true, and each argument reads afterwards as it read before. -/
import Derived.Test.YtfokholpgakjpaaUpR
import Derived.Test.YtfokholpgakjpaaUpO
import Derived.JoinedCond
import Derived.OpenShut
import Derived.ProofKit
namespace Go.Proofs.Ytfokholpgakjpaa
open Go.ChangeShapes Go.WideShapes Go.ChangeAt Go.RowKit

set_option maxRecDepth 100000 in
theorem recov_lifted (os : Os) (started : os.Started) (H : Type) (enc : TypeId × Value → H) (F : Stop.Interp) :
    ReturnsInHanded {} Try.checked os 3 .any ((Rows.OpenSpec.upto Rows.upliftRecoversSpec).pre6 enc Try.prog Try.f3 Rows.upliftRecoversUptoRow.domain false) (((Rows.OpenSpec.upto Rows.upliftRecoversSpec).at F).post enc Try.prog Try.f3 false true false false) := by
  refine returnsInHanded_of_cond (C := Try.checked) (s := Rows.OpenSpec.upto Rows.upliftRecoversSpec) (k := Rows.uptoSmall) rfl own_knob started (by kernel_rfl) Try.func3
    (OpenSpec.witness (enc := enc) (C := Try.checked) (s := Rows.OpenSpec.upto Rows.upliftRecoversSpec) (k := Rows.uptoSmall) rfl false ⟨#[], #[.slice none 0 0, .slice none 0 0], []⟩ 8 (by kernel_rfl) (by kernel_rfl) (by kernel_rfl)
      (x := ([.nil, .nil], [], [])) (by kernel_rfl) rfl (by kernel_rfl)) ?_
  intro W base args ds gs before hval0 hW _ hk _
  have hval : ∀ (j : Nat) t v, Try.f3.params[j]? = some t → args[j]? = some v → Value.okWide Try.prog W .any base t v := hval0
  have hW' := hW
  obtain ⟨p, q, hA0, hV, rfl, hfz, hnd⟩ := hW
  have hA : DataW.TrodAll enc Try.prog W 0 (fun _ => true) true Try.f3.params.toList args.toList ds p := hA0
  rw [Try.params3] at hA hval
  obtain ⟨v0, vs0, d0, ds0, p0, q0, hargs, rfl, rfl, h0, r0⟩ := trodAll_cons hA
  obtain ⟨v1, vs1, d1, ds1, p1, q1, rfl, rfl, rfl, h1, r1⟩ := trodAll_cons r0
  obtain ⟨rfl, rfl, rfl⟩ := trodAll_nil r1
  obtain rfl : args = #[v0, v1] := by cases args; simp_all
  obtain ⟨rfl, rfl⟩ := trodVars_none hV
  have hbulk : Rows.uptoBulkAll [d0, d1] ≤ 1048576 := by
    have h : Rows.uptoSmall H ([d0, d1] ++ []) = true := hk
    exact of_decide_eq_true h
  simp only [Rows.uptoBulkAll] at hbulk
  have lt0 : ∀ x ∈ p0, x.block < W.heap.size := by obtain ⟨m, hm⟩ := h0; exact DataW.trod_lt m _ _ _ hm
  obtain ⟨S0, e0, f0, rfl⟩ := okWide_slice Try.underlying22 (hval 0 22 v0 rfl rfl)
  obtain ⟨P0, k0, c0, ps0, hv0, hp0, hk0, hkc0⟩ : ∃ (P : Option Addr) (n c : Nat) (ps : List Rat), Value.slice S0 e0 f0 = .slice P n c ∧ QsK (Rows.uptoBulk d0) W P n ps ∧ n ≤ maxLen ∧ n ≤ c := by
    obtain ⟨fuel, hf⟩ := h0
    exact openB_qs hf
  rw [hv0] at h0 hA0 hW' ⊢
  clear hv0
  have lt1 : ∀ x ∈ p1, x.block < W.heap.size := by obtain ⟨m, hm⟩ := h1; exact DataW.trod_lt m _ _ _ hm
  obtain ⟨S0, e0, f0, rfl⟩ := okWide_slice Try.underlying22 (hval 1 22 v1 rfl rfl)
  obtain ⟨P1, k1, c1, ps1, hv1, hp1, hk1, hkc1⟩ : ∃ (P : Option Addr) (n c : Nat) (ps : List Rat), Value.slice S0 e0 f0 = .slice P n c ∧ QsK (Rows.uptoBulk d1) W P n ps ∧ n ≤ maxLen ∧ n ≤ c := by
    obtain ⟨fuel, hf⟩ := h1
    exact openB_qs hf
  rw [hv1] at h1 hA0 hW' ⊢
  clear hv1
  clear hA0 hval0
  refine (recovers_any P0 k0 c0 ps0 P1 k1 c1 ps1 W (hp0.mono (by omega)) (hp1.mono (by omega)) hk0 hk1).mono fun e W' ⟨he, bel⟩ => ?_
  subst he
  exact ⟨_, rfl, _, _, _, [], _, [], hW', trodAll_mk1 (shut_bool Try.underlying4 _), (trodAll_cons_mk (Below.trod laid_out (by kernel_rfl) (of_decide_eq_true (by kernel_rfl)) h0 bel lt0) (trodAll_cons_mk (Below.trod laid_out (by kernel_rfl) (of_decide_eq_true (by kernel_rfl)) h1 bel lt1) trodAll_mk0)), rfl, bel.frame _, fun h => by cases h⟩

theorem recov_holds : Rows.UpliftRecoversUptoSaid :=
  OpenClaim.holds_of_cond 3 Try.f3 rfl rfl rfl rfl rfl rfl rfl ⟨rfl, rfl, rfl, rfl, rfl⟩ rfl rfl rfl rfl rfl (by kernel_rfl) Try.func3 (by kernel_rfl)
    (of_decide_eq_true (by kernel_rfl)) (by unfold Func.isWrapper; first | (rw [if_pos (by decide +kernel)]; kernel_rfl) | (rw [if_neg (by decide +kernel)]; exact ⟨rfl, rfl⟩))
    (fun os started H enc _ F => recov_lifted os started H enc F)
#print axioms recov_holds
end Go.Proofs.Ytfokholpgakjpaa
