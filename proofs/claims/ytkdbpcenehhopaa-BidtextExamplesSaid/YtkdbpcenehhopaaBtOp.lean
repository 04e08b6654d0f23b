/- What units and bids that read as data look like in memory. Printed by gen_btx.py, after OpenSQ. -/
import Derived.Test.YtkdbpcenehhopaaBtPa
import Derived.ProofKit
import Derived.OpenShut
import Derived.ShutString
import Derived.ChangeOld
import Derived.Deep.Slices
import Derived.Deep.Fields
namespace Go.Proofs.Ytkdbpcenehhopaa
open Go.ChangeShapes Go.WideShapes Go.ChangeAt Go.RowKit Go.Deep

theorem own_knob : ownKnob Try.prog.godebug = none := by kernel_rfl
theorem laid_out : laidOutB Try.prog = true := by kernel_rfl

section
variable {H : Type} {enc : TypeId × Value → H} {W : World} {held : Bool}

theorem addr_of {w : World} {a : Addr} {i : Nat} {v : Value} (h : w.cell? (a.add i) = some v) : w.cell? ⟨a.block, a.off + i, none⟩ = some v := by
  obtain ⟨b, off, spot⟩ := a
  unfold Addr.add at h
  split at h
  · rename_i h0
    subst h0
    have := World.cell?_spot h
    simp at this
    subst this
    exact h
  · exact h
theorem addr_is {w : World} {a : Addr} {v : Value} (h : w.cell? (a.add 0) = some v) : a = ⟨a.block, a.off, none⟩ := by
  obtain ⟨b, off, spot⟩ := a
  have := World.cell?_spot h
  simp [Addr.add] at this
  subst this
  rfl

/-- Each field of a struct whose fields are one cell each. -/
theorem struct_fields {t : TypeId} {fs : Array Field} {fuel : Nat} {cs : List Value} {x : DataW H × List MemPlace} (hs : Try.prog.underlying t = some (.struct fs)) (hone : oneCellFields Try.prog fs = true) (hC : Try.prog.cellsOf t = fs.size)
    (h : DataW.trod enc Try.prog W 0 (fun _ => true) held fuel t cs = some x) :
    ∃ n, ∀ (i : Nat) (f : Field), fs[i]? = some f → ∃ v y, cs[i]? = some v ∧ DataW.trod enc Try.prog W 0 (fun _ => true) held n f.type [v] = some y := by
  obtain ⟨ys, n, _, _, hcl, hyl, hg⟩ := DataW.trod_struct hs h
  refine ⟨n, fun i f hf => ?_⟩
  obtain ⟨ho, hk⟩ := hone_of hone i f hf
  have g := hg i f hf
  rw [ho, hk] at g
  have hif : i < fs.size := (Array.getElem?_eq_some_iff.1 hf).1
  have hy : ys[i]? = some (ys[i]'(by omega)) := List.getElem?_eq_getElem (by omega)
  rw [hy] at g
  have hlt : i < cs.length := by omega
  rw [List.drop_eq_getElem_cons hlt] at g
  exact ⟨cs[i], _, List.getElem?_eq_getElem hlt, g⟩

theorem i64_wf {n : Int} (h : (Lit.int .i64 n).wf = true) : I64r n := by
  simp [Lit.wf, IntKind.min, IntKind.max, IntKind.signed, IntKind.bits] at h
  unfold I64r
  omega
theorem open_steps64 {fuel : Nat} {v : Value} {x : DataW H × List MemPlace} (h : DataW.trod enc Try.prog W 0 (fun _ => true) held fuel 28 [v] = some x) :
    ∃ (A : Option Addr) (n c : Nat) (xs : List (Int × Int)), v = .slice A n c ∧ StepsAt W A n xs ∧ n ≤ maxLen ∧ ∀ x ∈ xs, I64r x.1 ∧ I64r x.2 := by
  rcases open_slice Try.underlying28 h with ⟨h1, _⟩ | ⟨a, len, cap, m, n, D, Pl, h1, _, hl, hm, hmm, _, hi⟩
  · injection h1 with h1
    exact ⟨none, 0, 0, [], h1, ⟨rfl, fun h => by omega⟩, by omega, by simp⟩
  · injection h1 with h1
    subst h1
    have hc1 : Try.prog.cellsOf 40 = 2 := by kernel_rfl
    rw [hc1] at hi
    simp only [if_true] at hmm
    subst hmm
    have hcell : ∀ i, i < m → ∃ b : Int × Int, W.cell? (a.add (i * 2)) = some (.int .i64 b.1) ∧ W.cell? (a.add (i * 2 + 1)) = some (.int .i64 b.2) ∧ I64r b.1 ∧ I64r b.2 := by
      intro i him
      obtain ⟨cs', hc, ht⟩ := hi i him
      obtain ⟨_, hlen, hat⟩ := World.cells?_some hc
      obtain ⟨n', hg⟩ := struct_fields Try.underlying40 (by kernel_rfl) (by kernel_rfl) ht
      obtain ⟨v0, y0, h0, t0⟩ := hg 0 _ rfl
      obtain ⟨v1, y1, h1, t1⟩ := hg 1 _ rfl
      obtain ⟨b0, e0, _, w0⟩ := DataW.trod_int Try.underlying2 t0
      obtain ⟨b1, e1, _, w1⟩ := DataW.trod_int Try.underlying2 t1
      injection e0 with e0
      injection e1 with e1
      subst e0 e1
      refine ⟨(b0, b1), ?_, ?_, i64_wf w0, i64_wf w1⟩
      · have := hat 0 (by omega)
        rw [h0] at this
        simpa [Go.Deep.add_add] using this
      · have := hat 1 (by omega)
        rw [h1] at this
        simpa [Go.Deep.add_add] using this
    obtain ⟨f, hf⟩ := choose_lt hcell
    refine ⟨some a, len, m, (List.range len).map f, rfl, ⟨by simp, fun hn => ⟨a.block, a.off, ?_, ?_, fun i hi => ?_⟩⟩, by omega, fun x hx => ?_⟩
    · rw [← addr_is (v := .int .i64 (f 0).1) (by simpa using (hf 0 (by omega)).1)]
    · exact World.block_lt_of_cell? W ⟨a.block, a.off + 0, none⟩ (addr_of (by simpa using (hf 0 (by omega)).1))
    · refine ⟨?_, ?_⟩
      · rw [addr_of (hf i (by omega)).1]
        simp [List.getD, hi]
      · have := addr_of (hf i (by omega)).2.1
        rw [← Nat.add_assoc] at this
        rw [this]
        simp [List.getD, hi]
    · obtain ⟨i, hi, rfl⟩ := List.mem_map.1 hx
      exact (hf i (by have := List.mem_range.1 hi; omega)).2.2
theorem array9 {l : List Value} (h : l.length = 9) : ∃ a b c d e f g i j, l = [a, b, c, d, e, f, g, i, j] := by
  match l, h with
  | [a, b, c, d, e, f, g, i, j], _ => exact ⟨a, b, c, d, e, f, g, i, j, rfl⟩
set_option maxRecDepth 100000 in
theorem open_unit {r : Reach} {b0 : Nat} {v : Value} {d : DataW H} {p : List MemPlace} (hv : Value.okWide Try.prog W r b0 30 v) (h : DataW.Trod enc Try.prog W 0 (fun _ => true) held 30 v d p) :
    ∃ (u : U) (A : Option Addr) (n c : Nat), v = u.val A n c ∧ StepsAt W A n u.steps ∧ n ≤ maxLen ∧ ((∀ z ∈ unitZs u, I64r z) ∧ ∀ x ∈ u.steps, I64r x.1 ∧ I64r x.2) := by
  obtain ⟨cs, rfl, hsz⟩ := okWide_struct Try.underlying30 hv
  have h9 : Try.prog.cellsOf 30 = 9 := by kernel_rfl
  obtain ⟨l⟩ := cs
  obtain ⟨c0, c1, c2, c3, c4, c5, c6, c7, c8, rfl⟩ := array9 (by simpa using hsz.trans h9)
  obtain ⟨fuel, hf⟩ := h
  obtain ⟨n, hg⟩ := struct_fields Try.underlying30 (by kernel_rfl) (by kernel_rfl) hf
  obtain ⟨_, _, e0, t0⟩ := hg 0 _ rfl
  obtain ⟨_, _, e1, t1⟩ := hg 1 _ rfl
  obtain ⟨_, _, e2, t2⟩ := hg 2 _ rfl
  obtain ⟨_, _, e3, t3⟩ := hg 3 _ rfl
  obtain ⟨_, _, e4, t4⟩ := hg 4 _ rfl
  obtain ⟨_, _, e5, t5⟩ := hg 5 _ rfl
  obtain ⟨_, _, e6, t6⟩ := hg 6 _ rfl
  obtain ⟨_, _, e7, t7⟩ := hg 7 _ rfl
  obtain ⟨_, _, e8, t8⟩ := hg 8 _ rfl
  simp [Value.cells] at e0 e1 e2 e3 e4 e5 e6 e7 e8
  subst e0 e1 e2 e3 e4 e5 e6 e7 e8
  obtain ⟨z0, k0, _, w0⟩ := DataW.trod_int Try.underlying3 t0
  obtain ⟨z1, k1, _, w1⟩ := DataW.trod_int Try.underlying2 t1
  obtain ⟨A, m, c, xs, rfl, hs, hm, hi⟩ := open_steps64 t2
  obtain ⟨z3, k3, _, w3⟩ := DataW.trod_int Try.underlying3 t3
  obtain ⟨z4, k4, _, w4⟩ := DataW.trod_int Try.underlying3 t4
  obtain ⟨z5, k5, _, w5⟩ := DataW.trod_int Try.underlying2 t5
  obtain ⟨z6, k6, _, w6⟩ := DataW.trod_int Try.underlying2 t6
  obtain ⟨z7, k7, _, w7⟩ := DataW.trod_int Try.underlying2 t7
  obtain ⟨z8, k8, _, w8⟩ := DataW.trod_int Try.underlying3 t8
  injection k0 with k0; injection k1 with k1; injection k3 with k3; injection k4 with k4; injection k5 with k5; injection k6 with k6; injection k7 with k7; injection k8 with k8
  subst k0 k1 k3 k4 k5 k6 k7 k8
  refine ⟨{ bus := z0, mn := z1, up := z3, down := z4, start := z5, idle := z6, spin := z7, on := z8, steps := xs }, A, m, c, rfl, hs, hm, ⟨fun z hz => ?_, hi⟩⟩
  simp only [unitZs, List.mem_cons, List.not_mem_nil, or_false] at hz
  rcases hz with rfl | rfl | rfl | rfl | rfl | rfl | rfl | rfl
  · exact i64_wf w0
  · exact i64_wf w1
  · exact i64_wf w3
  · exact i64_wf w4
  · exact i64_wf w5
  · exact i64_wf w6
  · exact i64_wf w7
  · exact i64_wf w8
theorem array2 {l : List Value} (h : l.length = 2) : ∃ a b, l = [a, b] := by
  match l, h with
  | [a, b], _ => exact ⟨a, b, rfl⟩
set_option maxRecDepth 100000 in
theorem open_bid {r : Reach} {b0 : Nat} {v : Value} {d : DataW H} {p : List MemPlace} (hv : Value.okWide Try.prog W r b0 33 v) (h : DataW.Trod enc Try.prog W 0 (fun _ => true) held 33 v d p) :
    ∃ (b : Int) (P : Option Addr) (n c : Nat) (xs : List (Int × Int)), v = .agg #[.int .i64 b, .slice P n c] ∧ StepsAt W P n xs ∧ n ≤ maxLen ∧ I64r b ∧ ∀ x ∈ xs, I64r x.1 ∧ I64r x.2 := by
  obtain ⟨cs, rfl, hsz⟩ := okWide_struct Try.underlying33 hv
  have h2 : Try.prog.cellsOf 33 = 2 := by kernel_rfl
  obtain ⟨l⟩ := cs
  obtain ⟨c0, c1, rfl⟩ := array2 (by simpa using hsz.trans h2)
  obtain ⟨fuel, hf⟩ := h
  obtain ⟨n, hg⟩ := struct_fields Try.underlying33 (by kernel_rfl) (by kernel_rfl) hf
  obtain ⟨_, _, e0, t0⟩ := hg 0 _ rfl
  obtain ⟨_, _, e1, t1⟩ := hg 1 _ rfl
  simp [Value.cells] at e0 e1
  subst e0 e1
  obtain ⟨z0, k0, _, w0⟩ := DataW.trod_int Try.underlying3 t0
  obtain ⟨A, m, c, xs, rfl, hs, hm, hi⟩ := open_steps64 t1
  injection k0 with k0
  subst k0
  exact ⟨z0, A, m, c, xs, rfl, hs, hm, i64_wf w0, hi⟩
end
end Go.Proofs.Ytkdbpcenehhopaa
