/- What an argument that reads as data looks like in memory: steps, rationals. What a rational that reads as data looks like in memory. -/
import Derived.Test.YtfokholpgakjpaaStepX
import Derived.Test.YtfokholpgakjpaaFracQ
import Derived.ProofKit
import Derived.OpenShut
import Derived.ShutString
import Derived.ChangeOld
import Derived.Deep.Slices
import Derived.Deep.Fields
namespace Go.Proofs.Ytfokholpgakjpaa
open Go.ChangeShapes Go.WideShapes Go.ChangeAt Go.RowKit Go.Deep

theorem own_knob : ownKnob Try.prog.godebug = none := by kernel_rfl
theorem laid_out : laidOutB Try.prog = true := by kernel_rfl

section
variable {H : Type} {enc : TypeId × Value → H} {W : World} {held : Bool}

theorem addr_of {w : World} {a : Addr} {i : Nat} {v : Value} (h : w.cell? (a.add i) = some v) : w.cell? ⟨a.block, a.off + i, none⟩ = some v := by
  obtain ⟨b, off, spot⟩ := a
  unfold Addr.add at h
  split at h
  · rename_i h0
    subst h0
    have := World.cell?_spot h
    simp at this
    subst this
    exact h
  · exact h
theorem addr_is {w : World} {a : Addr} {v : Value} (h : w.cell? (a.add 0) = some v) : a = ⟨a.block, a.off, none⟩ := by
  obtain ⟨b, off, spot⟩ := a
  have := World.cell?_spot h
  simp [Addr.add] at this
  subst this
  rfl

/-- Each field of a struct whose fields are one cell each. -/
theorem struct_fields {t : TypeId} {fs : Array Field} {fuel : Nat} {cs : List Value} {x : DataW H × List MemPlace} (hs : Try.prog.underlying t = some (.struct fs)) (hone : oneCellFields Try.prog fs = true) (hC : Try.prog.cellsOf t = fs.size)
    (h : DataW.trod enc Try.prog W 0 (fun _ => true) held fuel t cs = some x) :
    ∃ n, ∀ (i : Nat) (f : Field), fs[i]? = some f → ∃ v y, cs[i]? = some v ∧ DataW.trod enc Try.prog W 0 (fun _ => true) held n f.type [v] = some y := by
  obtain ⟨ys, n, _, _, hcl, hyl, hg⟩ := DataW.trod_struct hs h
  refine ⟨n, fun i f hf => ?_⟩
  obtain ⟨ho, hk⟩ := hone_of hone i f hf
  have g := hg i f hf
  rw [ho, hk] at g
  have hif : i < fs.size := (Array.getElem?_eq_some_iff.1 hf).1
  have hy : ys[i]? = some (ys[i]'(by omega)) := List.getElem?_eq_getElem (by omega)
  rw [hy] at g
  have hlt : i < cs.length := by omega
  rw [List.drop_eq_getElem_cons hlt] at g
  exact ⟨cs[i], _, List.getElem?_eq_getElem hlt, g⟩

theorem i64_wf {n : Int} (h : (Lit.int .i64 n).wf = true) : I64r n := by
  simp [Lit.wf, IntKind.min, IntKind.max, IntKind.signed, IntKind.bits] at h
  unfold I64r
  omega
theorem open_steps64 {fuel : Nat} {v : Value} {x : DataW H × List MemPlace} (h : DataW.trod enc Try.prog W 0 (fun _ => true) held fuel 38 [v] = some x) :
    ∃ (A : Option Addr) (n c : Nat) (xs : List (Int × Int)), v = .slice A n c ∧ StepsAt W A n xs ∧ n ≤ maxLen ∧ ∀ x ∈ xs, I64r x.1 ∧ I64r x.2 := by
  rcases open_slice Try.underlying38 h with ⟨h1, _⟩ | ⟨a, len, cap, m, n, D, Pl, h1, _, hl, hm, hmm, _, hi⟩
  · injection h1 with h1
    exact ⟨none, 0, 0, [], h1, ⟨rfl, fun h => by omega⟩, by omega, by simp⟩
  · injection h1 with h1
    subst h1
    have hc1 : Try.prog.cellsOf 71 = 2 := by kernel_rfl
    rw [hc1] at hi
    simp only [if_true] at hmm
    subst hmm
    have hcell : ∀ i, i < m → ∃ b : Int × Int, W.cell? (a.add (i * 2)) = some (.int .i64 b.1) ∧ W.cell? (a.add (i * 2 + 1)) = some (.int .i64 b.2) ∧ I64r b.1 ∧ I64r b.2 := by
      intro i him
      obtain ⟨cs', hc, ht⟩ := hi i him
      obtain ⟨_, hlen, hat⟩ := World.cells?_some hc
      obtain ⟨n', hg⟩ := struct_fields Try.underlying71 (by kernel_rfl) (by kernel_rfl) ht
      obtain ⟨v0, y0, h0, t0⟩ := hg 0 _ rfl
      obtain ⟨v1, y1, h1, t1⟩ := hg 1 _ rfl
      obtain ⟨b0, e0, _, w0⟩ := DataW.trod_int Try.underlying2 t0
      obtain ⟨b1, e1, _, w1⟩ := DataW.trod_int Try.underlying2 t1
      injection e0 with e0
      injection e1 with e1
      subst e0 e1
      refine ⟨(b0, b1), ?_, ?_, i64_wf w0, i64_wf w1⟩
      · have := hat 0 (by omega)
        rw [h0] at this
        simpa [Go.Deep.add_add] using this
      · have := hat 1 (by omega)
        rw [h1] at this
        simpa [Go.Deep.add_add] using this
    obtain ⟨f, hf⟩ := choose_lt hcell
    refine ⟨some a, len, m, (List.range len).map f, rfl, ⟨by simp, fun hn => ⟨a.block, a.off, ?_, ?_, fun i hi => ?_⟩⟩, by omega, fun x hx => ?_⟩
    · rw [← addr_is (v := .int .i64 (f 0).1) (by simpa using (hf 0 (by omega)).1)]
    · exact World.block_lt_of_cell? W ⟨a.block, a.off + 0, none⟩ (addr_of (by simpa using (hf 0 (by omega)).1))
    · refine ⟨?_, ?_⟩
      · rw [addr_of (hf i (by omega)).1]
        simp [List.getD, hi]
      · have := addr_of (hf i (by omega)).2.1
        rw [← Nat.add_assoc] at this
        rw [this]
        simp [List.getD, hi]
    · obtain ⟨i, hi, rfl⟩ := List.mem_map.1 hx
      exact (hf i (by have := List.mem_range.1 hi; omega)).2.2
theorem open_steps {fuel : Nat} {v : Value} {x : DataW H × List MemPlace} (h : DataW.trod enc Try.prog W 0 (fun _ => true) held fuel 38 [v] = some x) :
    ∃ (A : Option Addr) (n c : Nat) (xs : List (Int × Int)), v = .slice A n c ∧ StepsAt W A n xs ∧ n ≤ maxLen := by
  obtain ⟨A, n, c, xs, h1, h2, h3, _⟩ := open_steps64 h
  exact ⟨A, n, c, xs, h1, h2, h3⟩

end
end Go.Proofs.Ytfokholpgakjpaa

namespace Go.Proofs.Ytfokholpgakjpaa
open Go.ChangeShapes Go.WideShapes Go.ChangeAt Go.RowKit Go.Deep

section
variable {H : Type} {enc : TypeId × Value → H} {W : World} {held : Bool}
theorem u32_wf {n : Int} (h : (Lit.int .u32 n).wf = true) : 0 ≤ n ∧ n ≤ 4294967295 := by
  have h' := h
  simp [Lit.wf, IntKind.min, IntKind.max, IntKind.signed, IntKind.bits] at h'
  exact ⟨by omega, by omega⟩
theorem open_words {fuel : Nat} {v : Value} {x : DataW H × List MemPlace} (h : DataW.trod enc Try.prog W 0 (fun _ => true) held fuel 26 [v] = some x) :
    ∃ (A : Option Addr) (n c : Nat) (xs : List Nat), v = .slice A n c ∧ WordsAt W A n xs ∧ n ≤ c ∧ c ≤ maxLen := by
  rcases open_slice Try.underlying26 h with ⟨h1, _⟩ | ⟨a, len, cap, m, n, D, Pl, h1, _, hl, hm, hmm, _, hi⟩
  · injection h1 with h1
    exact ⟨none, 0, 0, [], h1, WordsAt.nil _ _, by omega, by omega⟩
  · injection h1 with h1
    subst h1
    have hc1 : Try.prog.cellsOf 99 = 1 := by kernel_rfl
    rw [hc1] at hi
    simp only [if_true] at hmm
    subst hmm
    have hcell : ∀ i, i < m → ∃ b : Nat, b < 4294967296 ∧ W.cell? (a.add i) = some (.int .u32 (b : Int)) := by
      intro i him
      obtain ⟨cs', hc, ht⟩ := hi i him
      obtain ⟨b, rfl, hw⟩ := DataW.trod_int Try.underlying99 ht
      obtain ⟨_, _, hat⟩ := World.cells?_some hc
      have hb := u32_wf hw.2
      refine ⟨b.toNat, by omega, ?_⟩
      have := hat 0 (by omega)
      rw [show ((b.toNat : Nat) : Int) = b by omega]
      simpa [Go.Deep.add_add] using this
    obtain ⟨f, hf⟩ := choose_lt hcell
    refine ⟨some a, len, m, (List.range len).map f, rfl, ⟨by simp, fun y hy => ?_, fun hn => ⟨a.block, a.off, ?_, ?_, fun i hi => ?_⟩⟩, by omega, by omega⟩
    · obtain ⟨i, hi, rfl⟩ := List.mem_map.1 hy
      exact (hf i (by have := List.mem_range.1 hi; omega)).1
    · rw [← addr_is (hf 0 (by omega)).2]
    · exact World.block_lt_of_cell? W ⟨a.block, a.off + 0, none⟩ (addr_of (hf 0 (by omega)).2)
    · rw [addr_of (hf i (by omega)).2]
      simp [List.getD, hi]
theorem open_z {fuel : Nat} {v0 v1 : Value} {x : DataW H × List MemPlace} (h : DataW.trod enc Try.prog W 0 (fun _ => true) held fuel 28 [v0, v1] = some x) :
    ∃ (s : Bool) (A : Option Addr) (n c : Nat) (z : Int), v0 = .bool s ∧ v1 = .slice A n c ∧ ZIs W s A n c z := by
  obtain ⟨n', hg⟩ := struct_fields Try.underlying28 (by kernel_rfl) (by kernel_rfl) h
  obtain ⟨u0, y0, h0, t0⟩ := hg 0 _ rfl
  obtain ⟨u1, y1, h1, t1⟩ := hg 1 _ rfl
  simp at h0 h1
  subst h0 h1
  obtain ⟨s, e0, _⟩ := DataW.trod_bool Try.underlying4 t0
  injection e0 with e0
  obtain ⟨A, n, c, xs, e1, hw, hl1, hl2⟩ := open_words t1
  exact ⟨s, A, n, c, _, e0, e1, xs, hw, hl1, hl2, rfl⟩
theorem array4 {l : List Value} (h : l.length = 4) : ∃ a b c d, l = [a, b, c, d] := by
  match l, h with
  | [a, b, c, d], _ => exact ⟨a, b, c, d, rfl⟩
set_option maxRecDepth 100000 in
theorem open_q {r : Reach} {b0 : Nat} {v : Value} {d : DataW H} {p : List MemPlace} (hv : Value.okWide Try.prog W r b0 30 v) (h : DataW.Trod enc Try.prog W 0 (fun _ => true) held 30 v d p) :
    ∃ (s : Bool) (A : Option Addr) (n c : Nat) (t : Bool) (B : Option Addr) (m e : Nat) (q : Rat), v = .agg #[.bool s, .slice A n c, .bool t, .slice B m e] ∧ QIs W s A n c t B m e q := by
  obtain ⟨cs, rfl, hsz⟩ := okWide_struct Try.underlying30 hv
  have h4 : Try.prog.cellsOf 30 = 4 := by kernel_rfl
  have h2 : Try.prog.cellsOf 28 = 2 := by kernel_rfl
  obtain ⟨l⟩ := cs
  obtain ⟨c0, c1, c2, c3, rfl⟩ := array4 (by simpa using hsz.trans h4)
  obtain ⟨fuel, hf⟩ := h
  obtain ⟨ys, n, _, _, hcl, hyl, hg⟩ := DataW.trod_struct Try.underlying30 hf
  have g0 := hg 0 _ rfl
  have g1 := hg 1 _ rfl
  change DataW.trod enc Try.prog W 0 (fun _ => true) held n 28 (List.take (Try.prog.cellsOf 28) (List.drop 0 [c0, c1, c2, c3])) = _ at g0
  change DataW.trod enc Try.prog W 0 (fun _ => true) held n 28 (List.take (Try.prog.cellsOf 28) (List.drop 2 [c0, c1, c2, c3])) = _ at g1
  rw [h2] at g0 g1
  have e0 : ys[0]? = some (ys[0]'(by rw [hyl]; decide)) := List.getElem?_eq_getElem _
  have e1 : ys[1]? = some (ys[1]'(by rw [hyl]; decide)) := List.getElem?_eq_getElem _
  rw [e0] at g0
  rw [e1] at g1
  obtain ⟨s, A, m, c, z, rfl, rfl, hz⟩ := open_z g0
  obtain ⟨t, B, k, e, y, rfl, rfl, hy⟩ := open_z g1
  exact ⟨s, A, m, c, t, B, k, e, _, rfl, z, y, hz, hy, rfl⟩
end
end Go.Proofs.Ytfokholpgakjpaa
