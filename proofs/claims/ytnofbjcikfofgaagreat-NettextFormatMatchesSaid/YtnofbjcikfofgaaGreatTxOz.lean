/- (With the ranges of the numbers.) What networks, outages and texts that read as data look like in memory. By hand, after OpenSQ. -/
import Derived.Test.YtnofbjcikfofgaaGreatTxPC
import Derived.ProofKit
import Derived.OpenShut
import Derived.ShutString
import Derived.ChangeOld
import Derived.Deep.Slices
import Derived.Deep.Fields
namespace Go.Proofs.YtnofbjcikfofgaaGreat
open Go.ChangeShapes Go.WideShapes Go.ChangeAt Go.RowKit Go.Deep
theorem own_knob : ownKnob Tryz.prog.godebug = none := by kernel_rfl
theorem laid_out : laidOutB Tryz.prog = true := by kernel_rfl
section
variable {H : Type} {enc : TypeId × Value → H} {W : World} {held : Bool}
theorem addr_of {w : World} {a : Addr} {i : Nat} {v : Value} (h : w.cell? (a.add i) = some v) : w.cell? ⟨a.block, a.off + i, none⟩ = some v := by
  obtain ⟨b, off, spot⟩ := a
  unfold Addr.add at h
  split at h
  · rename_i h0
    subst h0
    have := World.cell?_spot h
    simp at this
    subst this
    exact h
  · exact h
theorem addr_is {w : World} {a : Addr} {v : Value} (h : w.cell? (a.add 0) = some v) : a = ⟨a.block, a.off, none⟩ := by
  obtain ⟨b, off, spot⟩ := a
  have := World.cell?_spot h
  simp [Addr.add] at this
  subst this
  rfl
theorem struct_fields {t : TypeId} {fs : Array Field} {fuel : Nat} {cs : List Value} {x : DataW H × List MemPlace} (hs : Tryz.prog.underlying t = some (.struct fs)) (hone : oneCellFields Tryz.prog fs = true) (hC : Tryz.prog.cellsOf t = fs.size)
    (h : DataW.trod enc Tryz.prog W 0 (fun _ => true) held fuel t cs = some x) :
    ∃ n, ∀ (i : Nat) (f : Field), fs[i]? = some f → ∃ v y, cs[i]? = some v ∧ DataW.trod enc Tryz.prog W 0 (fun _ => true) held n f.type [v] = some y := by
  obtain ⟨ys, n, _, _, hcl, hyl, hg⟩ := DataW.trod_struct hs h
  refine ⟨n, fun i f hf => ?_⟩
  obtain ⟨ho, hk⟩ := hone_of hone i f hf
  have g := hg i f hf
  rw [ho, hk] at g
  have hif : i < fs.size := (Array.getElem?_eq_some_iff.1 hf).1
  have hy : ys[i]? = some (ys[i]'(by omega)) := List.getElem?_eq_getElem (by omega)
  rw [hy] at g
  have hlt : i < cs.length := by omega
  rw [List.drop_eq_getElem_cons hlt] at g
  exact ⟨cs[i], _, List.getElem?_eq_getElem hlt, g⟩
theorem i64_wf {n : Int} (h : (Lit.int .i64 n).wf = true) : I64r n := by
  simp [Lit.wf, IntKind.min, IntKind.max, IntKind.signed, IntKind.bits] at h
  unfold I64r
  omega
theorem u8_wf {n : Int} (h : (Lit.int .u8 n).wf = true) : 0 ≤ n ∧ n ≤ 255 := by
  simp [Lit.wf, IntKind.min, IntKind.max, IntKind.signed, IntKind.bits] at h
  omega
theorem open_lines {fuel : Nat} {v : Value} {x : DataW H × List MemPlace} (h : DataW.trod enc Tryz.prog W 0 (fun _ => true) held fuel 22 [v] = some x) :
    ∃ (A : Option Addr) (n c : Nat) (ls : List (List Int)), v = .slice A n c ∧ LinesAt W A n ls ∧ n ≤ maxLen ∧ ∀ z ∈ ls, z.length = 4 ∧ ∀ x ∈ z, I64r x := by
  rcases open_slice Tryz.underlying22 h with ⟨h1, _⟩ | ⟨a, len, cap, m, n, D, Pl, h1, _, hl, hm, hmm, _, hi⟩
  · injection h1 with h1
    exact ⟨none, 0, 0, [], h1, ⟨rfl, fun h => by omega⟩, by omega, by simp⟩
  · injection h1 with h1
    subst h1
    have hc1 : Tryz.prog.cellsOf 46 = 4 := by kernel_rfl
    rw [hc1] at hi
    simp only [if_true] at hmm
    subst hmm
    have hcell : ∀ i, i < m → ∃ b : Int × Int × Int × Int, W.cell? (a.add (i * 4)) = some (.int .i64 b.1) ∧ W.cell? (a.add (i * 4 + 1)) = some (.int .i64 b.2.1) ∧ W.cell? (a.add (i * 4 + 2)) = some (.int .i64 b.2.2.1) ∧ W.cell? (a.add (i * 4 + 3)) = some (.int .i64 b.2.2.2) ∧ ∀ x ∈ ([b.1, b.2.1, b.2.2.1, b.2.2.2] : List Int), I64r x := by
      intro i him
      obtain ⟨cs', hc, ht⟩ := hi i him
      obtain ⟨_, hlen, hat⟩ := World.cells?_some hc
      obtain ⟨n', hg⟩ := struct_fields Tryz.underlying46 (by kernel_rfl) (by kernel_rfl) ht
      obtain ⟨v0, y0, h0, t0⟩ := hg 0 _ rfl
      obtain ⟨v1, y1, h1, t1⟩ := hg 1 _ rfl
      obtain ⟨v2, y2, h2, t2⟩ := hg 2 _ rfl
      obtain ⟨v3, y3, h3, t3⟩ := hg 3 _ rfl
      obtain ⟨b0, e0, _, w0⟩ := DataW.trod_int Tryz.underlying3 t0
      obtain ⟨b1, e1, _, w1⟩ := DataW.trod_int Tryz.underlying3 t1
      obtain ⟨b2, e2, _, w2⟩ := DataW.trod_int Tryz.underlying2 t2
      obtain ⟨b3, e3, _, w3⟩ := DataW.trod_int Tryz.underlying2 t3
      injection e0 with e0
      injection e1 with e1
      injection e2 with e2
      injection e3 with e3
      subst e0 e1 e2 e3
      refine ⟨(b0, b1, b2, b3), ?_, ?_, ?_, ?_, ?_⟩
      · have := hat 0 (by omega)
        rw [h0] at this
        simpa [Go.Deep.add_add] using this
      · have := hat 1 (by omega)
        rw [h1] at this
        simpa [Go.Deep.add_add] using this
      · have := hat 2 (by omega)
        rw [h2] at this
        simpa [Go.Deep.add_add] using this
      · have := hat 3 (by omega)
        rw [h3] at this
        simpa [Go.Deep.add_add] using this
      · intro x hx
        simp only [List.mem_cons, List.not_mem_nil, or_false] at hx
        rcases hx with rfl | rfl | rfl | rfl
        · exact i64_wf w0
        · exact i64_wf w1
        · exact i64_wf w2
        · exact i64_wf w3
    obtain ⟨f, hf⟩ := choose_lt hcell
    refine ⟨some a, len, m, (List.range len).map (fun i => [(f i).1, (f i).2.1, (f i).2.2.1, (f i).2.2.2]), rfl, ⟨by simp, fun hn => ⟨a.block, a.off, ?_, ?_, fun i hi => ?_⟩⟩, by omega, fun x hx => ?_⟩
    · rw [← addr_is (v := .int .i64 (f 0).1) (by simpa using (hf 0 (by omega)).1)]
    · exact World.block_lt_of_cell? W ⟨a.block, a.off + 0, none⟩ (addr_of (by simpa using (hf 0 (by omega)).1))
    · have hg : ((List.range len).map (fun i => [(f i).1, (f i).2.1, (f i).2.2.1, (f i).2.2.2])).getD i [] = [(f i).1, (f i).2.1, (f i).2.2.1, (f i).2.2.2] := by simp [List.getD, hi]
      rw [hg]
      refine ⟨?_, ?_, ?_, ?_⟩
      · rw [addr_of (hf i (by omega)).1]; rfl
      · have := addr_of (hf i (by omega)).2.1
        rw [← Nat.add_assoc] at this
        rw [this]; rfl
      · have := addr_of (hf i (by omega)).2.2.1
        rw [← Nat.add_assoc] at this
        rw [this]; rfl
      · have := addr_of (hf i (by omega)).2.2.2.1
        rw [← Nat.add_assoc] at this
        rw [this]; rfl
    · obtain ⟨i, hi, rfl⟩ := List.mem_map.1 hx
      exact ⟨rfl, (hf i (by have := List.mem_range.1 hi; omega)).2.2.2.2⟩
theorem array4 {l : List Value} (h : l.length = 4) : ∃ a b c d, l = [a, b, c, d] := by
  match l, h with
  | [a, b, c, d], _ => exact ⟨a, b, c, d, rfl⟩
theorem array2 {l : List Value} (h : l.length = 2) : ∃ a b, l = [a, b] := by
  match l, h with
  | [a, b], _ => exact ⟨a, b, rfl⟩
set_option maxRecDepth 100000 in
theorem open_net {r : Reach} {b0 : Nat} {v : Value} {d : DataW H} {p : List MemPlace} (hv : Value.okWide Tryz.prog W r b0 24 v) (h : DataW.Trod enc Tryz.prog W 0 (fun _ => true) held 24 v d p) :
    ∃ (b : Int) (P : Option Addr) (n c : Nat) (ls : List (List Int)), v = .agg #[.int .i64 b, .slice P n c] ∧ LinesAt W P n ls ∧ n ≤ maxLen ∧ I64r b ∧ ∀ z ∈ ls, z.length = 4 ∧ ∀ x ∈ z, I64r x := by
  obtain ⟨cs, rfl, hsz⟩ := okWide_struct Tryz.underlying24 hv
  have h2 : Tryz.prog.cellsOf 24 = 2 := by kernel_rfl
  obtain ⟨l⟩ := cs
  obtain ⟨c0, c1, rfl⟩ := array2 (by simpa using hsz.trans h2)
  obtain ⟨fuel, hf⟩ := h
  obtain ⟨n, hg⟩ := struct_fields Tryz.underlying24 (by kernel_rfl) (by kernel_rfl) hf
  obtain ⟨_, _, e0, t0⟩ := hg 0 _ rfl
  obtain ⟨_, _, e1, t1⟩ := hg 1 _ rfl
  simp [Value.cells] at e0 e1
  subst e0 e1
  obtain ⟨z0, k0, _, w0⟩ := DataW.trod_int Tryz.underlying3 t0
  obtain ⟨A, m, c, ls, rfl, hs, hm, h4⟩ := open_lines t1
  injection k0 with k0
  subst k0
  exact ⟨z0, A, m, c, ls, rfl, hs, hm, i64_wf w0, h4⟩
set_option maxRecDepth 100000 in
theorem open_out {r : Reach} {b0 : Nat} {v : Value} {d : DataW H} {p : List MemPlace} (hv : Value.okWide Tryz.prog W r b0 26 v) (h : DataW.Trod enc Tryz.prog W 0 (fun _ => true) held 26 v d p) :
    ∃ kd wh fr to_ : Int, v = .agg #[.int .u8 kd, .int .i64 wh, .int .i64 fr, .int .i64 to_] ∧ (0 ≤ kd ∧ kd ≤ 255) ∧ I64r wh ∧ I64r fr ∧ I64r to_ := by
  obtain ⟨cs, rfl, hsz⟩ := okWide_struct Tryz.underlying26 hv
  have h4 : Tryz.prog.cellsOf 26 = 4 := by kernel_rfl
  obtain ⟨l⟩ := cs
  obtain ⟨c0, c1, c2, c3, rfl⟩ := array4 (by simpa using hsz.trans h4)
  obtain ⟨fuel, hf⟩ := h
  obtain ⟨n, hg⟩ := struct_fields Tryz.underlying26 (by kernel_rfl) (by kernel_rfl) hf
  obtain ⟨_, _, e0, t0⟩ := hg 0 _ rfl
  obtain ⟨_, _, e1, t1⟩ := hg 1 _ rfl
  obtain ⟨_, _, e2, t2⟩ := hg 2 _ rfl
  obtain ⟨_, _, e3, t3⟩ := hg 3 _ rfl
  simp [Value.cells] at e0 e1 e2 e3
  subst e0 e1 e2 e3
  obtain ⟨z0, k0, _, w0⟩ := DataW.trod_int Tryz.underlying5 t0
  obtain ⟨z1, k1, _, w1⟩ := DataW.trod_int Tryz.underlying3 t1
  obtain ⟨z2, k2, _, w2⟩ := DataW.trod_int Tryz.underlying3 t2
  obtain ⟨z3, k3, _, w3⟩ := DataW.trod_int Tryz.underlying3 t3
  injection k0 with k0; injection k1 with k1; injection k2 with k2; injection k3 with k3
  subst k0 k1 k2 k3
  exact ⟨z0, z1, z2, z3, rfl, u8_wf w0, i64_wf w1, i64_wf w2, i64_wf w3⟩
end
end Go.Proofs.YtnofbjcikfofgaaGreat
