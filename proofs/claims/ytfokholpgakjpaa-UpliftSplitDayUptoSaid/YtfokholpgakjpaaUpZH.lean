/- UpliftSplitDay holds, where the arguments are together of bulk at most 1,048,576: the law returns true, and each argument reads afterwards as it read before. -/
import Derived.Test.YtfokholpgakjpaaUpZ
import Derived.Test.YtfokholpgakjpaaUpO
import Derived.Test.YtfokholpgakjpaaUpOU
import Derived.JoinedCond
import Derived.OpenShut
import Derived.ProofKit
import Derived.ChangeMaps5
namespace Go.Proofs.Ytfokholpgakjpaa
open Go.ChangeShapes Go.WideShapes Go.ChangeAt Go.RowKit

set_option maxRecDepth 100000 in
theorem splitd_lifted (os : Os) (started : os.Started) (H : Type) (enc : TypeId × Value → H) (F : Stop.Interp) :
    ReturnsInHanded {} Try.checked os 5 .any ((Rows.OpenSpec.upto Rows.upliftSplitDaySpec).pre6 enc Try.prog Try.f5 Rows.upliftSplitDayUptoRow.domain false) (((Rows.OpenSpec.upto Rows.upliftSplitDaySpec).at F).post enc Try.prog Try.f5 false true false false) := by
  refine returnsInHanded_of_cond (C := Try.checked) (s := Rows.OpenSpec.upto Rows.upliftSplitDaySpec) (k := Rows.uptoSmall) rfl own_knob started (by kernel_rfl) Try.func5
    (OpenSpec.witness (enc := enc) (C := Try.checked) (s := Rows.OpenSpec.upto Rows.upliftSplitDaySpec) (k := Rows.uptoSmall) rfl false ⟨#[], #[.agg #[.int .i64 0, .int .i64 0, .slice none 0 0, .int .i64 0, .int .i64 0, .int .i64 0, .int .i64 0, .int .i64 0, .int .i64 0], .slice none 0 0, .slice none 0 0, .slice none 0 0, .int .u8 0], []⟩ 8 (by kernel_rfl) (by kernel_rfl) (by kernel_rfl)
      (x := ([.agg [.lit (.int .i64 0), .lit (.int .i64 0), .nil, .lit (.int .i64 0), .lit (.int .i64 0), .lit (.int .i64 0), .lit (.int .i64 0), .lit (.int .i64 0), .lit (.int .i64 0)], .nil, .nil, .nil, .lit (.int .u8 0)], [], [])) (by kernel_rfl) rfl (by kernel_rfl)) ?_
  intro W base args ds gs before hval0 hW _ hk _
  have hval : ∀ (j : Nat) t v, Try.f5.params[j]? = some t → args[j]? = some v → Value.okWide Try.prog W .any base t v := hval0
  have hW' := hW
  obtain ⟨p, q, hA0, hV, rfl, hfz, hnd⟩ := hW
  have hA : DataW.TrodAll enc Try.prog W 0 (fun _ => true) true Try.f5.params.toList args.toList ds p := hA0
  rw [Try.params5] at hA hval
  obtain ⟨v0, vs0, d0, ds0, p0, q0, hargs, rfl, rfl, h0, r0⟩ := trodAll_cons hA
  obtain ⟨v1, vs1, d1, ds1, p1, q1, rfl, rfl, rfl, h1, r1⟩ := trodAll_cons r0
  obtain ⟨v2, vs2, d2, ds2, p2, q2, rfl, rfl, rfl, h2, r2⟩ := trodAll_cons r1
  obtain ⟨v3, vs3, d3, ds3, p3, q3, rfl, rfl, rfl, h3, r3⟩ := trodAll_cons r2
  obtain ⟨v4, vs4, d4, ds4, p4, q4, rfl, rfl, rfl, h4, r4⟩ := trodAll_cons r3
  obtain ⟨rfl, rfl, rfl⟩ := trodAll_nil r4
  obtain rfl : args = #[v0, v1, v2, v3, v4] := by cases args; simp_all
  obtain ⟨rfl, rfl⟩ := trodVars_none hV
  have hbulk : Rows.uptoBulkAll [d0, d1, d2, d3, d4] ≤ 1048576 := by
    have h : Rows.uptoSmall H ([d0, d1, d2, d3, d4] ++ []) = true := hk
    exact of_decide_eq_true h
  simp only [Rows.uptoBulkAll] at hbulk
  have lt0 : ∀ x ∈ p0, x.block < W.heap.size := by obtain ⟨m, hm⟩ := h0; exact DataW.trod_lt m _ _ _ hm
  have lt1 : ∀ x ∈ p1, x.block < W.heap.size := by obtain ⟨m, hm⟩ := h1; exact DataW.trod_lt m _ _ _ hm
  have lt2 : ∀ x ∈ p2, x.block < W.heap.size := by obtain ⟨m, hm⟩ := h2; exact DataW.trod_lt m _ _ _ hm
  have lt3 : ∀ x ∈ p3, x.block < W.heap.size := by obtain ⟨m, hm⟩ := h3; exact DataW.trod_lt m _ _ _ hm
  obtain ⟨u, A, n, c, rfl, hs, hn, hfit⟩ := open_unit (hval 0 40 v0 rfl rfl) h0
  obtain ⟨S0, e0, f0, rfl⟩ := okWide_slice Try.underlying41 (hval 1 41 v1 rfl rfl)
  obtain ⟨R1, m1, e1, row1, hv1, hr1, hm1, hc1⟩ : ∃ (R : Option Addr) (m d : Nat) (row : List Bool), Value.slice S0 e0 f0 = .slice R m d ∧ BoolsAt W R m row ∧ m ≤ maxLen ∧ m ≤ d := by
    obtain ⟨fuel, hf⟩ := h1
    exact open_boolsC hf
  rw [hv1] at h1 hA0 hW' ⊢
  clear hv1
  obtain ⟨S0, e0, f0, rfl⟩ := okWide_slice Try.underlying41 (hval 2 41 v2 rfl rfl)
  obtain ⟨R2, m2, e2, row2, hv2, hr2, hm2, hc2⟩ : ∃ (R : Option Addr) (m d : Nat) (row : List Bool), Value.slice S0 e0 f0 = .slice R m d ∧ BoolsAt W R m row ∧ m ≤ maxLen ∧ m ≤ d := by
    obtain ⟨fuel, hf⟩ := h2
    exact open_boolsC hf
  rw [hv2] at h2 hA0 hW' ⊢
  clear hv2
  obtain ⟨S0, e0, f0, rfl⟩ := okWide_slice Try.underlying22 (hval 3 22 v3 rfl rfl)
  obtain ⟨P3, k3, c3, ps3, hv3, hp3, hk3, hkc3⟩ : ∃ (P : Option Addr) (n c : Nat) (ps : List Rat), Value.slice S0 e0 f0 = .slice P n c ∧ QsK (Rows.uptoBulk d3) W P n ps ∧ n ≤ maxLen ∧ n ≤ c := by
    obtain ⟨fuel, hf⟩ := h3
    exact openB_qs hf
  rw [hv3] at h3 hA0 hW' ⊢
  clear hv3
  obtain ⟨z4, rfl, rfl, rfl, w4⟩ := open_int Try.underlying5 (hval 4 5 v4 rfl rfl) h4
  clear hA0 hval0
  refine (split_any u A n c R1 m1 e1 row1 R2 m2 e2 row2 P3 k3 c3 ps3 z4 W hs hn hr1 hm1 hr2 hm2 (hp3.mono (by omega)) hk3 hc1 hc2 hkc3 (U8.ofU w4)).mono fun e W' ⟨he, bel⟩ => ?_
  subst he
  exact ⟨_, rfl, _, _, _, [], _, [], hW', trodAll_mk1 (shut_bool Try.underlying4 _), (trodAll_cons_mk (Below.trod laid_out (by kernel_rfl) (of_decide_eq_true (by kernel_rfl)) h0 bel lt0) (trodAll_cons_mk (Below.trod laid_out (by kernel_rfl) (of_decide_eq_true (by kernel_rfl)) h1 bel lt1) (trodAll_cons_mk (Below.trod laid_out (by kernel_rfl) (of_decide_eq_true (by kernel_rfl)) h2 bel lt2) (trodAll_cons_mk (Below.trod laid_out (by kernel_rfl) (of_decide_eq_true (by kernel_rfl)) h3 bel lt3) (trodAll_cons_mk (shut_int Try.underlying5 w4) trodAll_mk0))))), rfl, bel.frame _, fun h => by cases h⟩

theorem splitd_holds : Rows.UpliftSplitDayUptoSaid :=
  OpenClaim.holds_of_cond 5 Try.f5 rfl rfl rfl rfl rfl rfl rfl ⟨rfl, rfl, rfl, rfl, rfl⟩ rfl rfl rfl rfl rfl (by kernel_rfl) Try.func5 (by kernel_rfl)
    (of_decide_eq_true (by kernel_rfl)) (by unfold Func.isWrapper; first | (rw [if_pos (by decide +kernel)]; kernel_rfl) | (rw [if_neg (by decide +kernel)]; exact ⟨rfl, rfl⟩))
    (fun os started H enc _ F => splitd_lifted os started H enc F)
#print axioms splitd_holds
end Go.Proofs.Ytfokholpgakjpaa
