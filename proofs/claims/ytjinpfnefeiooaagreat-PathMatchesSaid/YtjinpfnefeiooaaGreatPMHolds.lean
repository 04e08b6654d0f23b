/- PathMatches holds: for every input the law returns true, and each argument reads afterwards as it read before. No condition. -/
import Derived.SizedLaws
import Derived.Test.YtjinpfnefeiooaaGreatLawPM
import Derived.Test.YtjinpfnefeiooaaGreatOpenU
namespace Go.Proofs.YtjinpfnefeiooaaGreat
open Go.ChangeShapes Go.WideShapes Go.ChangeAt Go.RowKit

theorem qs_elems {H : Type} {enc : TypeId × Value → H} {W : World} {held : Bool} {fuel : Nat} {P : Option Addr} {n c : Nat} {x : DataW H × List MemPlace} (h : DataW.trod enc Tryz.prog W 0 (fun _ => true) held fuel 30 [.slice P n c] = some x) :
    n = 0 ∨ ∃ elems spare, x.1 = .slice elems spare ∧ elems.length = n := by
  rcases Go.Deep.open_slice Tryz.underlying30 h with ⟨h1, _⟩ | ⟨a, len, cap, m, f, D, Pl, h1, _, hl, hm, hmm, hx, hi⟩
  · injection h1 with h1
    injection h1 with _ h1 _
    exact .inl h1
  · injection h1 with h1
    injection h1 with _ h1 _
    subst h1
    right
    rw [hx]
    exact ⟨_, _, rfl, by simp⟩
theorem reachBytes_room : reachBytes + 64 ≤ 140737488355328 := by decide
set_option maxRecDepth 100000 in
theorem pm_lifted (os : Os) (started : os.Started) (H : Type) (enc : TypeId × Value → H) :
    ReturnsInHanded {} Tryz.checked os 3 .any (Rows.pathMatchesSpec.pre6 enc Tryz.prog Tryz.f3 Rows.pathMatchesRow.domain false) (Rows.pathMatchesSpec.post enc Tryz.prog Tryz.f3 false true false false) := by
  refine returnsInHanded_of_change_sized (C := Tryz.checked) own_knob started (by kernel_rfl) Tryz.func3
    (ChangeSpec.witness6 (enc := enc) (C := Tryz.checked) false ⟨#[], #[.agg #[.int .i64 0, .int .i64 0, .slice none 0 0, .int .i64 0, .int .i64 0, .int .i64 0, .int .i64 0, .int .i64 0, .int .i64 0], .agg #[.bool false, .slice none 0 0, .bool false, .slice none 0 0], .slice none 0 0, .slice none 0 0], []⟩ 8 (by kernel_rfl) (by kernel_rfl) (by kernel_rfl) (by kernel_rfl)) ?_
  intro W base args ds gs before hval0 hW hcnd hsz _
  have hval : ∀ (j : Nat) t v, Tryz.f3.params[j]? = some t → args[j]? = some v → Value.okWide Tryz.prog W .any base t v := hval0
  have hW' := hW
  obtain ⟨p, q, hA0, hV, rfl, hfz, hnd⟩ := hW
  have hA : DataW.TrodAll enc Tryz.prog W 0 (fun _ => true) true Tryz.f3.params.toList args.toList ds p := hA0
  rw [Tryz.params3] at hA hval
  obtain ⟨v0, vs0, d0, ds0, p0, q0, hargs, rfl, rfl, h0, r0⟩ := trodAll_cons hA
  obtain ⟨v1, vs1, d1, ds1, p1, q1, rfl, rfl, rfl, h1, r1⟩ := trodAll_cons r0
  obtain ⟨v2, vs2, d2, ds2, p2, q2, rfl, rfl, rfl, h2, r2⟩ := trodAll_cons r1
  obtain ⟨v3, vs3, d3, ds3, p3, q3, rfl, rfl, rfl, h3, r3⟩ := trodAll_cons r2
  obtain ⟨rfl, rfl, rfl⟩ := trodAll_nil r3
  obtain rfl : args = #[v0, v1, v2, v3] := by cases args; simp_all
  obtain ⟨rfl, rfl⟩ := trodVars_none hV
  have lt0 : ∀ x ∈ p0, x.block < W.heap.size := by obtain ⟨m, hm⟩ := h0; exact DataW.trod_lt m _ _ _ hm
  obtain ⟨u, A, n, c, rfl, hs, hn, hfit⟩ := open_unit (hval 0 24 v0 rfl rfl) h0
  have lt1 : ∀ x ∈ p1, x.block < W.heap.size := by obtain ⟨m, hm⟩ := h1; exact DataW.trod_lt m _ _ _ hm
  obtain ⟨s1, A1, n1, c1, t1, B1, m1, e1, z1, rfl, hq1⟩ := open_q (hval 1 29 v1 rfl rfl) h1
  have lt2 : ∀ x ∈ p2, x.block < W.heap.size := by obtain ⟨m, hm⟩ := h2; exact DataW.trod_lt m _ _ _ hm
  obtain ⟨S0, e0, f0, rfl⟩ := okWide_slice Tryz.underlying30 (hval 2 30 v2 rfl rfl)
  obtain ⟨P2, k2, c2, ps2, ln2, hv2, hp2, hk2, hkc2⟩ : ∃ (P : Option Addr) (n c : Nat) (ps : List Rat) (ln : Nat → Nat × Nat), Value.slice S0 e0 f0 = .slice P n c ∧ QsRaw W P n ps ln ∧ n ≤ maxLen ∧ n ≤ c := by
    obtain ⟨fuel, hf⟩ := h2
    exact open_qs hf
  rw [hv2] at h2 hA0 hW' ⊢
  clear hv2
  have lt3 : ∀ x ∈ p3, x.block < W.heap.size := by obtain ⟨m, hm⟩ := h3; exact DataW.trod_lt m _ _ _ hm
  obtain ⟨S0, e0, f0, rfl⟩ := okWide_slice Tryz.underlying31 (hval 3 31 v3 rfl rfl)
  obtain ⟨R3, m3, e3, row3, hv3, hr3, hm3⟩ : ∃ (R : Option Addr) (m d : Nat) (row : List Bool), Value.slice S0 e0 f0 = .slice R m d ∧ BoolsAt W R m row ∧ m ≤ maxLen := by
    obtain ⟨fuel, hf⟩ := h3
    exact open_bools hf
  rw [hv3] at h3 hA0 hW' ⊢
  clear hv3
  have hby : (1 + k2) * 64 ≤ 140737488355328 := by
    obtain ⟨fuel, hf⟩ := h2
    rcases qs_elems hf with h0 | ⟨el, sp, he, hl⟩
    · rw [h0]; decide
    · simp only at he
      subst he
      have hb := sized_slice hsz (j := 2) (t := 30) (elems := el) (spare := sp) rfl rfl Tryz.underlying30
      rw [show Tryz.checked.prog.bytesOf 29 = 64 by kernel_rfl, hl] at hb
      have := reachBytes_room
      omega
  clear hA0 hval0
  refine (pm_any u A n c s1 A1 n1 c1 t1 B1 m1 e1 z1 P2 k2 c2 ps2 ln2 R3 m3 e3 row3 W hs hn hq1 hp2 hby hr3 hm3).mono fun e W' ⟨he, bel⟩ => ?_
  subst he
  exact ⟨_, rfl, _, _, _, [], _, [], hW', trodAll_mk1 (shut_bool Tryz.underlying4 _), (trodAll_cons_mk (Below.trod laid_out (by kernel_rfl) (of_decide_eq_true (by kernel_rfl)) h0 bel lt0) (trodAll_cons_mk (Below.trod laid_out (by kernel_rfl) (of_decide_eq_true (by kernel_rfl)) h1 bel lt1) (trodAll_cons_mk (Below.trod laid_out (by kernel_rfl) (of_decide_eq_true (by kernel_rfl)) h2 bel lt2) (trodAll_cons_mk (Below.trod laid_out (by kernel_rfl) (of_decide_eq_true (by kernel_rfl)) h3 bel lt3) trodAll_mk0)))), rfl, bel.frame _, fun h => by cases h⟩
theorem pm_holds : Rows.PathMatchesSaid :=
  OpenClaim.holds_of_wide 3 Tryz.f3 rfl rfl rfl rfl rfl rfl rfl ⟨rfl, rfl, rfl, rfl, rfl⟩ rfl rfl rfl rfl rfl (by kernel_rfl) Tryz.func3 (by kernel_rfl)
    (of_decide_eq_true (by kernel_rfl)) (by unfold Func.isWrapper; first | (rw [if_pos (by decide +kernel)]; kernel_rfl) | (rw [if_neg (by decide +kernel)]; exact ⟨rfl, rfl⟩))
    (fun os started H enc _ => pm_lifted os started H enc)
#print axioms pm_holds
end Go.Proofs.YtjinpfnefeiooaaGreat
