/- What a unit and a slice of bools that read as data look like in memory (out of XOpenU). Printed by gen_upzh.py. -/
import Derived.Test.YtfokholpgakjpaaOpenSQ
import Derived.Test.YtfokholpgakjpaaUnits
import Derived.ShutString
namespace Go.Proofs.Ytfokholpgakjpaa
open Go.ChangeShapes Go.WideShapes Go.ChangeAt Go.RowKit Go.Deep
section
variable {H : Type} {enc : TypeId × Value → H} {W : World} {held : Bool}
theorem open_boolsC {fuel : Nat} {v : Value} {x : DataW H × List MemPlace} (h : DataW.trod enc Try.prog W 0 (fun _ => true) held fuel 41 [v] = some x) :
    ∃ (A : Option Addr) (n c : Nat) (xs : List Bool), v = .slice A n c ∧ BoolsAt W A n xs ∧ n ≤ maxLen ∧ n ≤ c := by
  rcases open_slice Try.underlying41 h with ⟨h1, _⟩ | ⟨a, len, cap, m, n, D, Pl, h1, _, hl, hm, hmm, _, hi⟩
  · injection h1 with h1
    exact ⟨none, 0, 0, [], h1, ⟨rfl, fun h => by omega⟩, by omega, by omega⟩
  · injection h1 with h1
    subst h1
    have hc1 : Try.prog.cellsOf 4 = 1 := by kernel_rfl
    rw [hc1] at hi
    simp only [if_true] at hmm
    subst hmm
    have hcell : ∀ i, i < m → ∃ b, W.cell? (a.add i) = some (.bool b) := by
      intro i him
      obtain ⟨cs', hc, ht⟩ := hi i him
      obtain ⟨b, rfl, _⟩ := DataW.trod_bool Try.underlying4 ht
      obtain ⟨_, _, hat⟩ := World.cells?_some hc
      refine ⟨b, ?_⟩
      have := hat 0 (by omega)
      simpa [Go.Deep.add_add] using this
    obtain ⟨f, hf⟩ := choose_lt hcell
    refine ⟨some a, len, m, (List.range len).map f, rfl, ⟨by simp, fun hn => ⟨a.block, a.off, ?_, ?_, fun i hi => ?_⟩⟩, by omega, by omega⟩
    · rw [← addr_is (hf 0 (by omega))]
    · exact World.block_lt_of_cell? W ⟨a.block, a.off + 0, none⟩ (addr_of (hf 0 (by omega)))
    · rw [addr_of (hf i (by omega))]
      simp [List.getD, hi]

theorem open_bools {fuel : Nat} {v : Value} {x : DataW H × List MemPlace} (h : DataW.trod enc Try.prog W 0 (fun _ => true) held fuel 41 [v] = some x) :
    ∃ (A : Option Addr) (n c : Nat) (xs : List Bool), v = .slice A n c ∧ BoolsAt W A n xs ∧ n ≤ maxLen := by
  obtain ⟨A, n, c, xs, h1, h2, h3, _⟩ := open_boolsC h
  exact ⟨A, n, c, xs, h1, h2, h3⟩

/-- The numbers fit int64. -/
def I64 (n : Int) : Prop := -9223372036854775808 ≤ n ∧ n ≤ 9223372036854775807
theorem I64.of {n : Int} (h : (Lit.int .i64 n).wf = true) : I64 n := by
  have h' := h
  simp [Lit.wf, IntKind.min, IntKind.max, IntKind.signed, IntKind.bits] at h'
  exact ⟨by omega, by omega⟩
theorem U8.of {n : Int} (h : (Lit.int .u8 n).wf = true) : 0 ≤ n ∧ n ≤ 255 := by
  have h' := h
  simp [Lit.wf, IntKind.min, IntKind.max, IntKind.signed, IntKind.bits] at h'
  exact ⟨by omega, by omega⟩
/-- The fields of a unit that came in fit int64. -/
structure U.Fit (u : U) : Prop where
  on : I64 u.on
  start : I64 u.start
  idle : I64 u.idle
  up : I64 u.up
  down : I64 u.down
theorem array9 {l : List Value} (h : l.length = 9) : ∃ a b c d e f g i j, l = [a, b, c, d, e, f, g, i, j] := by
  match l, h with
  | [a, b, c, d, e, f, g, i, j], _ => exact ⟨a, b, c, d, e, f, g, i, j, rfl⟩
set_option maxRecDepth 100000 in
theorem open_unit {r : Reach} {b0 : Nat} {v : Value} {d : DataW H} {p : List MemPlace} (hv : Value.okWide Try.prog W r b0 40 v) (h : DataW.Trod enc Try.prog W 0 (fun _ => true) held 40 v d p) :
    ∃ (u : U) (A : Option Addr) (n c : Nat), v = u.val A n c ∧ StepsAt W A n u.steps ∧ n ≤ maxLen ∧ u.Fit := by
  obtain ⟨cs, rfl, hsz⟩ := okWide_struct Try.underlying40 hv
  have h9 : Try.prog.cellsOf 40 = 9 := by kernel_rfl
  obtain ⟨l⟩ := cs
  obtain ⟨c0, c1, c2, c3, c4, c5, c6, c7, c8, rfl⟩ := array9 (by simpa using hsz.trans h9)
  obtain ⟨fuel, hf⟩ := h
  obtain ⟨n, hg⟩ := struct_fields Try.underlying40 (by kernel_rfl) (by kernel_rfl) hf
  obtain ⟨_, _, e0, t0⟩ := hg 0 _ rfl
  obtain ⟨_, _, e1, t1⟩ := hg 1 _ rfl
  obtain ⟨_, _, e2, t2⟩ := hg 2 _ rfl
  obtain ⟨_, _, e3, t3⟩ := hg 3 _ rfl
  obtain ⟨_, _, e4, t4⟩ := hg 4 _ rfl
  obtain ⟨_, _, e5, t5⟩ := hg 5 _ rfl
  obtain ⟨_, _, e6, t6⟩ := hg 6 _ rfl
  obtain ⟨_, _, e7, t7⟩ := hg 7 _ rfl
  obtain ⟨_, _, e8, t8⟩ := hg 8 _ rfl
  simp [Value.cells] at e0 e1 e2 e3 e4 e5 e6 e7 e8
  subst e0 e1 e2 e3 e4 e5 e6 e7 e8
  obtain ⟨z0, k0, _, w0⟩ := DataW.trod_int Try.underlying3 t0
  obtain ⟨z1, k1, _, w1⟩ := DataW.trod_int Try.underlying2 t1
  obtain ⟨A, m, c, xs, rfl, hs, hm⟩ := open_steps t2
  obtain ⟨z3, k3, _, w3⟩ := DataW.trod_int Try.underlying3 t3
  obtain ⟨z4, k4, _, w4⟩ := DataW.trod_int Try.underlying3 t4
  obtain ⟨z5, k5, _, w5⟩ := DataW.trod_int Try.underlying2 t5
  obtain ⟨z6, k6, _, w6⟩ := DataW.trod_int Try.underlying2 t6
  obtain ⟨z7, k7, _, w7⟩ := DataW.trod_int Try.underlying2 t7
  obtain ⟨z8, k8, _, w8⟩ := DataW.trod_int Try.underlying3 t8
  injection k0 with k0; injection k1 with k1; injection k3 with k3; injection k4 with k4; injection k5 with k5; injection k6 with k6; injection k7 with k7; injection k8 with k8
  subst k0 k1 k3 k4 k5 k6 k7 k8
  exact ⟨{ bus := z0, mn := z1, up := z3, down := z4, start := z5, idle := z6, spin := z7, on := z8, steps := xs }, A, m, c, rfl, hs, hm, ⟨I64.of w8, I64.of w5, I64.of w6, I64.of w3, I64.of w4⟩⟩
end
end Go.Proofs.Ytfokholpgakjpaa
