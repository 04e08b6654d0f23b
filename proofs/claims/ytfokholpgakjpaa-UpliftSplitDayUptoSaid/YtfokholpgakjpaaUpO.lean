/- What an argument that reads as data looks like in memory, and how long it may be: its bulk. Printed by gen_upo.py. -/
import Derived.Test.YtfokholpgakjpaaUpB
import Derived.Test.YtfokholpgakjpaaOpenSQ
import Derived.ChangeArms
namespace Go.Proofs.Ytfokholpgakjpaa
open Go.ChangeShapes Go.WideShapes Go.ChangeAt Go.RowKit Go.Deep

/-- A rational's representation. -/
structure QRep where
  s : Bool
  A : Option Addr
  n : Nat
  c : Nat
  t : Bool
  B : Option Addr
  m : Nat
  d : Nat
  q : Rat
instance : Inhabited QRep := ⟨⟨false, none, 0, 0, false, none, 0, 0, 0⟩⟩
section
variable {H : Type} {enc : TypeId × Value → H} {W : World} {held : Bool}
theorem bulk_one (d : DataW H) : 1 ≤ Rows.uptoBulk d := by
  cases d with
  | lit l => cases l <;> simp [Rows.uptoBulk]
  | nil => simp [Rows.uptoBulk]
  | ptr d => simp [Rows.uptoBulk]
  | slice elems spare => simp [Rows.uptoBulk]
  | agg parts => simp [Rows.uptoBulk]
  | iface t d => simp [Rows.uptoBulk]
  | map entries => simp [Rows.uptoBulk]
  | held h => simp [Rows.uptoBulk]
theorem bulk_len (l : List (DataW H)) : l.length ≤ Rows.uptoBulkAll l := by
  induction l with
  | nil => simp [Rows.uptoBulkAll]
  | cons x r ih => have := bulk_one x; simp only [Rows.uptoBulkAll, List.length_cons]; omega
theorem bulk_part {d : DataW H} {l : List (DataW H)} (h : d ∈ l) : Rows.uptoBulk d ≤ Rows.uptoBulkAll l := by
  induction l with
  | nil => cases h
  | cons x r ih =>
    simp only [Rows.uptoBulkAll]
    cases List.mem_cons.1 h with
    | inl e => subst e; omega
    | inr e => have := ih e; omega
theorem openB_words {fuel : Nat} {v : Value} {x : DataW H × List MemPlace} (h : DataW.trod enc Try.prog W 0 (fun _ => true) held fuel 26 [v] = some x) :
    ∃ (A : Option Addr) (n c : Nat) (xs : List Nat), v = .slice A n c ∧ WordsAt W A n xs ∧ n ≤ c ∧ c ≤ maxLen ∧ n + 1 ≤ Rows.uptoBulk x.1 := by
  obtain ⟨A, n, c, xs, e, h1, h2, h3⟩ := open_words h
  refine ⟨A, n, c, xs, e, h1, h2, h3, ?_⟩
  rcases open_slice Try.underlying26 h with ⟨h1, hx⟩ | ⟨a, len, cap, m, f, D, Pl, h1, _, hl, hm, hmm, hx, hi⟩
  · injection h1 with h1
    rw [e] at h1
    injection h1 with _ hn _
    subst hn
    rw [hx]
    simp [Rows.uptoBulk]
  · injection h1 with h1
    rw [e] at h1
    injection h1 with _ hn _
    subst hn
    rw [hx]
    have := bulk_len ((List.range n).map D)
    simp only [Rows.uptoBulk, List.length_map, List.length_range] at this ⊢
    omega
theorem openB_z {fuel : Nat} {v0 v1 : Value} {x : DataW H × List MemPlace} (h : DataW.trod enc Try.prog W 0 (fun _ => true) held fuel 28 [v0, v1] = some x) :
    ∃ (s : Bool) (A : Option Addr) (n c : Nat) (z : Int), v0 = .bool s ∧ v1 = .slice A n c ∧ ZIs W s A n c z ∧ n + 3 ≤ Rows.uptoBulk x.1 := by
  have hb : Try.prog.cellsOf 4 = 1 := by kernel_rfl
  have hw1 : Try.prog.cellsOf 26 = 1 := by kernel_rfl
  obtain ⟨y0, y1, f, rfl, _, t0, t1⟩ := trod_struct2 Try.underlying28 h
  change DataW.trod enc Try.prog W 0 (fun _ => true) held f 4 (List.take (Try.prog.cellsOf 4) (List.drop 0 [v0, v1])) = _ at t0
  change DataW.trod enc Try.prog W 0 (fun _ => true) held f 26 (List.take (Try.prog.cellsOf 26) (List.drop 1 [v0, v1])) = _ at t1
  rw [hb] at t0
  rw [hw1] at t1
  obtain ⟨s, e0, _⟩ := DataW.trod_bool Try.underlying4 t0
  obtain ⟨A, n, c, xs, e1, hw, hl1, hl2, hB⟩ := openB_words t1
  have e0' : v0 = .bool s := by simpa using e0
  refine ⟨s, A, n, c, _, e0', e1, ⟨xs, hw, hl1, hl2, rfl⟩, ?_⟩
  have := bulk_one y0.1
  simp only [Rows.uptoBulk, Rows.uptoBulkAll]
  omega
theorem openB_q4 {fuel : Nat} {cs : List Value} {x : DataW H × List MemPlace} (h : DataW.trod enc Try.prog W 0 (fun _ => true) held fuel 30 cs = some x) (hl : cs.length = 4) :
    ∃ r : QRep, cs = [.bool r.s, .slice r.A r.n r.c, .bool r.t, .slice r.B r.m r.d] ∧ QIs W r.s r.A r.n r.c r.t r.B r.m r.d r.q ∧ r.n + r.m + 7 ≤ Rows.uptoBulk x.1 := by
  have h2 : Try.prog.cellsOf 28 = 2 := by kernel_rfl
  obtain ⟨c0, c1, c2, c3, rfl⟩ := array4 hl
  obtain ⟨y0, y1, f, rfl, _, g0, g1⟩ := trod_struct2 Try.underlying30 h
  change DataW.trod enc Try.prog W 0 (fun _ => true) held f 28 (List.take (Try.prog.cellsOf 28) (List.drop 0 [c0, c1, c2, c3])) = _ at g0
  change DataW.trod enc Try.prog W 0 (fun _ => true) held f 28 (List.take (Try.prog.cellsOf 28) (List.drop 2 [c0, c1, c2, c3])) = _ at g1
  rw [h2] at g0 g1
  obtain ⟨s, A, m, c, z, rfl, rfl, hz, b0⟩ := openB_z g0
  obtain ⟨t, B, k, e, y, rfl, rfl, hy, b1⟩ := openB_z g1
  refine ⟨⟨s, A, m, c, t, B, k, e, _⟩, rfl, ⟨z, y, hz, hy, rfl⟩, ?_⟩
  simp only [Rows.uptoBulk, Rows.uptoBulkAll]
  omega
set_option maxRecDepth 100000 in
theorem openB_q {r : Reach} {b0 : Nat} {v : Value} {d : DataW H} {p : List MemPlace} (hv : Value.okWide Try.prog W r b0 30 v) (h : DataW.Trod enc Try.prog W 0 (fun _ => true) held 30 v d p) :
    ∃ (s : Bool) (A : Option Addr) (n c : Nat) (t : Bool) (B : Option Addr) (m e : Nat) (q : Rat), v = .agg #[.bool s, .slice A n c, .bool t, .slice B m e] ∧ QIs W s A n c t B m e q ∧ n + m + 7 ≤ Rows.uptoBulk d := by
  obtain ⟨cs, rfl, hsz⟩ := okWide_struct Try.underlying30 hv
  have h4 : Try.prog.cellsOf 30 = 4 := by kernel_rfl
  obtain ⟨l⟩ := cs
  have hl : l.length = 4 := by simpa using hsz.trans h4
  obtain ⟨fuel, hf⟩ := h
  obtain ⟨r, rfl, hq, hb⟩ := openB_q4 hf (by simpa [Value.cells] using hl)
  exact ⟨r.s, r.A, r.n, r.c, r.t, r.B, r.m, r.d, r.q, rfl, hq, hb⟩
theorem openB_qs {fuel : Nat} {v : Value} {x : DataW H × List MemPlace} (h : DataW.trod enc Try.prog W 0 (fun _ => true) held fuel 22 [v] = some x) :
    ∃ (P : Option Addr) (n c : Nat) (ps : List Rat), v = .slice P n c ∧ QsK (Rows.uptoBulk x.1) W P n ps ∧ n ≤ maxLen ∧ n ≤ c := by
  rcases open_slice Try.underlying22 h with ⟨h1, _⟩ | ⟨a, len, cap, m, n, D, Pl, h1, _, hl, hm, hmm, hx, hi⟩
  · injection h1 with h1
    exact ⟨none, 0, 0, [], h1, QsK.nil _ _, by omega, by omega⟩
  · injection h1 with h1
    subst h1
    have hc1 : Try.prog.cellsOf 30 = 4 := by kernel_rfl
    rw [hc1] at hi
    simp only [if_true] at hmm
    subst hmm
    have hbk : ∀ i, i < len → Rows.uptoBulk (D i) ≤ Rows.uptoBulk x.1 := fun i hi2 => by
      rw [hx]
      have := bulk_part (d := D i) (l := (List.range len).map D) (List.mem_map.2 ⟨i, List.mem_range.2 hi2, rfl⟩)
      simp only [Rows.uptoBulk]
      omega
    have hcell : ∀ i, i < m → ∃ r : QRep, (W.cell? (a.add (i * 4)) = some (.bool r.s) ∧ W.cell? (a.add (i * 4 + 1)) = some (.slice r.A r.n r.c) ∧ W.cell? (a.add (i * 4 + 2)) = some (.bool r.t) ∧ W.cell? (a.add (i * 4 + 3)) = some (.slice r.B r.m r.d)) ∧ QIs W r.s r.A r.n r.c r.t r.B r.m r.d r.q ∧ r.n + r.m + 7 ≤ Rows.uptoBulk (D i) := by
      intro i him
      obtain ⟨cs', hc, ht⟩ := hi i him
      obtain ⟨_, hlen, hat⟩ := World.cells?_some hc
      obtain ⟨r, rfl, hq⟩ := openB_q4 ht (by simpa using hlen)
      refine ⟨r, ⟨?_, ?_, ?_, ?_⟩, hq⟩
      · simpa [Go.Deep.add_add] using hat 0 (by omega)
      · simpa [Go.Deep.add_add] using hat 1 (by omega)
      · simpa [Go.Deep.add_add] using hat 2 (by omega)
      · simpa [Go.Deep.add_add] using hat 3 (by omega)
    obtain ⟨f, hf⟩ := choose_lt hcell
    refine ⟨some a, len, m, (List.range len).map fun i => (f i).q, rfl, ⟨by simp, fun hn => ⟨a.block, a.off, ?_, ?_, fun i hi => ?_⟩⟩, by omega, by omega⟩
    · rw [← addr_is (v := .bool (f 0).s) (by simpa using (hf 0 (by omega)).1.1)]
    · exact World.block_lt_of_cell? W ⟨a.block, a.off + 0, none⟩ (addr_of (by simpa using (hf 0 (by omega)).1.1))
    · obtain ⟨⟨a0, a1, a2, a3⟩, hq, hb⟩ := hf i (by omega)
      have hbi := hbk i hi
      refine ⟨(f i).s, (f i).A, (f i).n, (f i).c, (f i).t, (f i).B, (f i).m, (f i).d, addr_of a0, ?_, ?_, ?_, ?_, by omega, by omega⟩
      · rw [Nat.add_assoc]; exact addr_of a1
      · rw [Nat.add_assoc]; exact addr_of a2
      · rw [Nat.add_assoc]; exact addr_of a3
      · rw [show ((List.range len).map fun i => (f i).q).getD i 0 = (f i).q by simp [List.getD, hi]]
        exact hq
end
end Go.Proofs.Ytfokholpgakjpaa
