/- A unit in a variable that is written. -/
import Derived.Test.YtjinpfnefeiooaaPathR
namespace Go.Proofs.Ytjinpfnefeiooaa
open Go.RowKit

theorem inX_touch {w0 w1 w2 : World} {X : List Nat} {g : Nat} (h : InX w0 X w1) (ht : Touch g w1 w2) (hg : g ∈ X ∨ w0.heap.size ≤ g) : InX w0 X w2 := by
  obtain ⟨x, rfl⟩ := h
  refine ⟨⟨w2, by rw [ht.size]; exact x.size, fun k hk hX => (ht.block k ?_).trans (x.same k hk hX)⟩, rfl⟩
  rintro rfl
  rcases hg with hg | hg
  · exact hX hg
  · omega
section
variable {w w' : World} {g : Nat} {u : U} {A : Option Addr} {n c : Nat}
theorem UBox.set5 {z : Int} (h : UBox w g u A n c) (hp : PutVs g 5 [.int .i64 z] w w') : UBox w' g { u with start := z } A n c := by
  obtain ⟨h0, h1, h2, h3, h4, h5, h6, h7, h8⟩ := h
  have e : ∀ i, (i < 5 ∨ 6 ≤ i) → w'.cell? ⟨g, i, none⟩ = w.cell? ⟨g, i, none⟩ := fun i hi => hp.far i (by simp; omega)
  exact ⟨(e 0 (by omega)).trans h0, (e 1 (by omega)).trans h1, (e 2 (by omega)).trans h2, (e 3 (by omega)).trans h3, (e 4 (by omega)).trans h4, by simpa using hp.here 0 _ rfl, (e 6 (by omega)).trans h6, (e 7 (by omega)).trans h7, (e 8 (by omega)).trans h8⟩
theorem UBox.set6 {z : Int} (h : UBox w g u A n c) (hp : PutVs g 6 [.int .i64 z] w w') : UBox w' g { u with idle := z } A n c := by
  obtain ⟨h0, h1, h2, h3, h4, h5, h6, h7, h8⟩ := h
  have e : ∀ i, (i < 6 ∨ 7 ≤ i) → w'.cell? ⟨g, i, none⟩ = w.cell? ⟨g, i, none⟩ := fun i hi => hp.far i (by simp; omega)
  exact ⟨(e 0 (by omega)).trans h0, (e 1 (by omega)).trans h1, (e 2 (by omega)).trans h2, (e 3 (by omega)).trans h3, (e 4 (by omega)).trans h4, (e 5 (by omega)).trans h5, by simpa using hp.here 0 _ rfl, (e 7 (by omega)).trans h7, (e 8 (by omega)).trans h8⟩
theorem UBox.set8 {z : Int} (h : UBox w g u A n c) (hp : PutVs g 8 [.int .i64 z] w w') : UBox w' g { u with on := z } A n c := by
  obtain ⟨h0, h1, h2, h3, h4, h5, h6, h7, h8⟩ := h
  have e : ∀ i, i < 8 → w'.cell? ⟨g, i, none⟩ = w.cell? ⟨g, i, none⟩ := fun i hi => hp.far i (by simp; omega)
  exact ⟨(e 0 (by omega)).trans h0, (e 1 (by omega)).trans h1, (e 2 (by omega)).trans h2, (e 3 (by omega)).trans h3, (e 4 (by omega)).trans h4, (e 5 (by omega)).trans h5, (e 6 (by omega)).trans h6, (e 7 (by omega)).trans h7, by simpa using hp.here 0 _ rfl⟩
end
theorem rowN_new (w : World) (cs : Array Value) (t : TypeId) : RowN (w.alloc (.cells cs t)) w.heap.size cs.size := RowN.of_blk (Blk.new w t cs)
theorem bools_made (w : World) (k : Nat) (t : TypeId) : BoolsAt (w.alloc (.cells (madeCells #[.bool false] (k * 1)) t)) (some ⟨w.heap.size, 0, none⟩) k (List.replicate k false) := by
  have hb := Blk.new w t (madeCells #[.bool false] (k * 1))
  refine ⟨by simp, fun _ => ⟨w.heap.size, 0, rfl, by simp, fun i hi => ?_⟩⟩
  rw [hb.cell, Nat.zero_add]
  have h1 : i < k * 1 := by omega
  simp only [madeCells, Array.getElem?_map, Array.getElem?_range, h1, if_true, Option.map_some]
  have e1 : (#[.bool false] : Array Value).size = 1 := rfl
  rw [e1, Nat.mod_one]
  simp [List.getD, hi]
theorem cost_facts {u : U} {st id : Int} (hs : u.start ≤ st) (hi : u.idle ≤ id) {ps : List Rat} (h0 : u.pchk ps.length = 0) (h1 : (u.setCosts st id).pchk ps.length = 0) : (u.setCosts st id).bestV ps ≤ u.bestV ps := by
  unfold U.bestV
  rw [if_pos h0, if_pos h1]
  obtain ⟨hok, _⟩ := pchk_zero.1 h0
  obtain ⟨hok', _⟩ := pchk_zero.1 h1
  exact dp_costs hok hok' hs hi ps (U.init_state (U.good hok))
theorem off_facts {u : U} {ps : List Rat} (h0 : u.pchk ps.length = 0) (hf : u.feas (List.replicate ps.length false) = true) : 0 ≤ u.bestV ps := by
  unfold U.bestV
  rw [if_pos h0]
  exact dp_off hf
theorem sign_nonneg {q : Rat} (h : 0 ≤ q) : 0 ≤ q.num.sign := Int.sign_nonneg_iff.2 (Rat.num_nonneg.2 h)
theorem pchk_bad {u : U} {n : Nat} (h : u.pchk n ≠ 0) (h8 : n ≤ 8) : u.ok = false := by
  cases ho : u.ok
  · rfl
  · exact absurd (pchk_zero.2 ⟨ho, h8⟩) h
end Go.Proofs.Ytjinpfnefeiooaa
