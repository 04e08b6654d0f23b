/- Plain words for allocations and costs. -/
import Derived.Test.YtkdbpcenehhopaaStepP
import Derived.Test.YtkdbpcenehhopaaFracN
namespace Go.Proofs.Ytkdbpcenehhopaa
open Go.RowKit

/-- What is left of q behind some steps. -/
def restR (q : Rat) : List (Int × Int) → Rat
  | [] => q
  | x :: r => restR (q - minQ q x.1) r
theorem restR_append (l r : List (Int × Int)) : ∀ q, restR q (l ++ r) = restR (restR q l) r := by
  induction l with
  | nil => intro q; rfl
  | cons x l ih => intro q; exact ih _
/-- What is taken from step i. -/
def partAt (q : Rat) (xs : List (Int × Int)) (i : Nat) : Rat := minQ (restR q (xs.take i)) ((xs.getD i (0, 0)).1 : Int)
theorem rest_succ {q : Rat} {xs : List (Int × Int)} {k : Nat} (hk : k < xs.length) : restR q (xs.take (k + 1)) = restR q (xs.take k) - partAt q xs k := by
  rw [take_snoc xs (0, 0) hk, restR_append]
  rfl
/-- The cost of the first k parts. -/
def costTo (q : Rat) (xs : List (Int × Int)) : Nat → Rat
  | 0 => 0
  | k + 1 => costTo q xs k + partAt q xs k * ((xs.getD k (0, 0)).2 : Int)
/-- The error of an allocation. -/
def allocE (xs : List (Int × Int)) (q : Rat) : Int := if crv xs ≠ 0 then crv xs else if q < 0 ∨ ((total xs : Int) : Rat) < q then 1 else 0
theorem Sz.min {k l : Nat} {p q : Rat} (hp : Sz k p) (hq : Sz l q) (hl : l ≤ k) : Sz k (minQ p q) := by
  unfold minQ
  split
  · exact hq.mono hl
  · exact hp
theorem sz_small {z : Int} (h1 : -4294967296 < z) (h2 : z < 4294967296) : Sz 1 (z : Rat) := sz_int (by omega) (by omega)
theorem pow2_pos (k : Nat) : 0 < 2 ^ k := Nat.pow_pos (by omega)
theorem sz_rest {q : Rat} {xs : List (Int × Int)} (hq : Sz 1000 q) (hr : ∀ x ∈ xs, 1 ≤ x.1 ∧ x.1 ≤ 1000000 ∧ -1000000 ≤ x.2 ∧ x.2 ≤ 1000000) : ∀ k, k ≤ xs.length → Sz (1001 * 2 ^ k - 1) (restR q (xs.take k))
  | 0, _ => by simpa [restR] using hq
  | k + 1, hk => by
    have ih := sz_rest hq hr k (by omega)
    have hp := pow2_pos k
    have hm : xs.getD k (0, 0) ∈ xs := by simp [List.getD, show k < xs.length by omega]
    have h1 := hr _ hm
    rw [rest_succ (by omega)]
    have hs : Sz 1 (((xs.getD k (0, 0)).1 : Int) : Rat) := sz_small (by omega) (by omega)
    refine (ih.sub (ih.min hs (by omega))).mono ?_
    rw [Nat.pow_succ]
    omega
theorem sz_part {q : Rat} {xs : List (Int × Int)} (hq : Sz 1000 q) (hr : ∀ x ∈ xs, 1 ≤ x.1 ∧ x.1 ≤ 1000000 ∧ -1000000 ≤ x.2 ∧ x.2 ≤ 1000000) (k : Nat) (hk : k < xs.length) : Sz (1001 * 2 ^ k - 1) (partAt q xs k) := by
  have ih := sz_rest hq hr k (by omega)
  have hp := pow2_pos k
  have hm : xs.getD k (0, 0) ∈ xs := by simp [List.getD, show k < xs.length by omega]
  have h1 := hr _ hm
  have hs : Sz 1 (((xs.getD k (0, 0)).1 : Int) : Rat) := sz_small (by omega) (by omega)
  exact ih.min hs (by omega)
theorem sz_zero : Sz 1 (0 : Rat) := by
  have := sz_small (z := 0) (by omega) (by omega)
  simpa using this
theorem sz_cost {q : Rat} {xs : List (Int × Int)} (hq : Sz 1000 q) (hr : ∀ x ∈ xs, 1 ≤ x.1 ∧ x.1 ≤ 1000000 ∧ -1000000 ≤ x.2 ∧ x.2 ≤ 1000000) : ∀ k, k ≤ xs.length → Sz (1003 * 2 ^ k) (costTo q xs k)
  | 0, _ => sz_zero.mono (by decide)
  | k + 1, hk => by
    have ih := sz_cost hq hr k (by omega)
    have hp := pow2_pos k
    have hm : xs.getD k (0, 0) ∈ xs := by simp [List.getD, show k < xs.length by omega]
    have h1 := hr _ hm
    have hs : Sz 1 (((xs.getD k (0, 0)).2 : Int) : Rat) := sz_small (by omega) (by omega)
    refine (ih.add ((sz_part hq hr k (by omega)).mul hs)).mono ?_
    rw [Nat.pow_succ]
    omega
theorem pow2_le {k : Nat} (h : k ≤ 3) : 2 ^ k ≤ 8 := Nat.le_trans (Nat.pow_le_pow_right (by omega) h) (by decide)

/-- At this place of memory lies the rational q, in canonical form. -/
def QAt (w : World) (B0 g off : Nat) (q : Rat) : Prop := ∃ (s : Bool) (A : Option Addr) (n c : Nat) (t : Bool) (B : Option Addr) (m d : Nat), w.cell? ⟨g, off, none⟩ = some (.bool s) ∧ w.cell? ⟨g, off + 1, none⟩ = some (.slice A n c) ∧ w.cell? ⟨g, off + 2, none⟩ = some (.bool t) ∧ w.cell? ⟨g, off + 3, none⟩ = some (.slice B m d) ∧ QCan w B0 s A n c t B m d q
theorem QAt.ext {w w' : World} {B0 g off : Nat} {q : Rat} (h : QAt w B0 g off q) (hb : Ext w w') : QAt w' B0 g off q := by
  obtain ⟨s, A, n, c, t, B, m, d, h0, h1, h2, h3, h4⟩ := h
  exact ⟨s, A, n, c, t, B, m, d, Ext.cellOf hb h0, Ext.cellOf hb h1, Ext.cellOf hb h2, Ext.cellOf hb h3, h4.ext hb⟩
/-- Block g is a row of n rationals that may be written. -/
def Row4 (w : World) (g n : Nat) : Prop := g < w.heap.size ∧ (∀ j, j < n * 4 → ∃ v, w.cell? ⟨g, j, none⟩ = some v) ∧ ∀ j, w.frozen? ⟨g, j, none⟩ = false
theorem Row4.ext {w w' : World} {g n : Nat} (h : Row4 w g n) (hb : Ext w w') : Row4 w' g n :=
  ⟨Nat.lt_of_lt_of_le h.1 hb.size, fun j hj => (h.2.1 j hj).imp fun _ hv => Ext.cellOf hb hv, fun j => (hb.frozen (p := ⟨g, j, none⟩) h.1).trans (h.2.2 j)⟩
/-- The first k of the row are these. -/
def PartsAt (w : World) (B0 g n k : Nat) (f : Nat → Rat) : Prop := Row4 w g n ∧ ∀ i, i < k → QAt w B0 g (i * 4) (f i)
theorem PartsAt.ext {w w' : World} {B0 g n k : Nat} {f : Nat → Rat} (h : PartsAt w B0 g n k f) (hb : Ext w w') : PartsAt w' B0 g n k f := ⟨h.1.ext hb, fun i hi => (h.2 i hi).ext hb⟩
/-- Four cells are set. -/
abbrev put4 (w : World) (g off : Nat) (v0 v1 v2 v3 : Value) : World := (((w.setCell ⟨g, off, none⟩ v0).setCell ⟨g, off + 1, none⟩ v1).setCell ⟨g, off + 2, none⟩ v2).setCell ⟨g, off + 3, none⟩ v3
theorem put4_far {w : World} {g off g' o' : Nat} (v0 v1 v2 v3 : Value) (h : g ≠ g' ∨ o' < off ∨ off + 3 < o') : (put4 w g off v0 v1 v2 v3).cell? ⟨g', o', none⟩ = w.cell? ⟨g', o', none⟩ := by
  unfold put4
  rw [World.cell?_setCell_other, World.cell?_setCell_other, World.cell?_setCell_other, World.cell?_setCell_other] <;> (intro hh; injection hh; omega)
theorem put4_frozen (w : World) (g off : Nat) (v0 v1 v2 v3 : Value) (p : Addr) : (put4 w g off v0 v1 v2 v3).frozen? p = w.frozen? p := by
  unfold put4
  rw [World.frozen?_setCell, World.frozen?_setCell, World.frozen?_setCell, World.frozen?_setCell]
theorem put4_size (w : World) (g off : Nat) (v0 v1 v2 v3 : Value) : (put4 w g off v0 v1 v2 v3).heap.size = w.heap.size := by simp [put4, World.setCell]
theorem put4_here {w : World} {g off : Nat} (v0 v1 v2 v3 : Value) (h0 : ∃ v, w.cell? ⟨g, off, none⟩ = some v) (h1 : ∃ v, w.cell? ⟨g, off + 1, none⟩ = some v) (h2 : ∃ v, w.cell? ⟨g, off + 2, none⟩ = some v) (h3 : ∃ v, w.cell? ⟨g, off + 3, none⟩ = some v) :
    (put4 w g off v0 v1 v2 v3).cell? ⟨g, off, none⟩ = some v0 ∧ (put4 w g off v0 v1 v2 v3).cell? ⟨g, off + 1, none⟩ = some v1 ∧ (put4 w g off v0 v1 v2 v3).cell? ⟨g, off + 2, none⟩ = some v2 ∧ (put4 w g off v0 v1 v2 v3).cell? ⟨g, off + 3, none⟩ = some v3 := by
  obtain ⟨u0, h0⟩ := h0
  obtain ⟨u1, h1⟩ := h1
  obtain ⟨u2, h2⟩ := h2
  obtain ⟨u3, h3⟩ := h3
  have ne : ∀ {i j : Nat}, i ≠ j → (⟨g, i, none⟩ : Addr) ≠ ⟨g, j, none⟩ := fun hij hh => hij (by injection hh)
  unfold put4
  refine ⟨?_, ?_, ?_, ?_⟩
  · rw [World.cell?_setCell_other _ _ _ _ (ne (by omega)), World.cell?_setCell_other _ _ _ _ (ne (by omega)), World.cell?_setCell_other _ _ _ _ (ne (by omega))]
    exact World.cell?_setCell_same' _ _ _ (by rw [h0]; rfl)
  · rw [World.cell?_setCell_other _ _ _ _ (ne (by omega)), World.cell?_setCell_other _ _ _ _ (ne (by omega))]
    exact World.cell?_setCell_same' _ _ _ (by rw [World.cell?_setCell_other _ _ _ _ (ne (by omega)), h1]; rfl)
  · rw [World.cell?_setCell_other _ _ _ _ (ne (by omega))]
    exact World.cell?_setCell_same' _ _ _ (by rw [World.cell?_setCell_other _ _ _ _ (ne (by omega)), World.cell?_setCell_other _ _ _ _ (ne (by omega)), h2]; rfl)
  · exact World.cell?_setCell_same' _ _ _ (by rw [World.cell?_setCell_other _ _ _ _ (ne (by omega)), World.cell?_setCell_other _ _ _ _ (ne (by omega)), World.cell?_setCell_other _ _ _ _ (ne (by omega)), h3]; rfl)
theorem QCan.put4 {w : World} {B0 : Nat} {s : Bool} {A : Option Addr} {n c : Nat} {t : Bool} {B : Option Addr} {m d : Nat} {q : Rat} (h : QCan w B0 s A n c t B m d q) {g : Nat} (hg : g < B0) (off : Nat) (v0 v1 v2 v3 : Value) : QCan (put4 w g off v0 v1 v2 v3) B0 s A n c t B m d q :=
  (((h.put (p := ⟨g, off, none⟩) hg v0).put (p := ⟨g, off + 1, none⟩) hg v1).put (p := ⟨g, off + 2, none⟩) hg v2).put (p := ⟨g, off + 3, none⟩) hg v3
theorem ext_put4 {w w1 : World} (h : Ext w w1) {g : Nat} (hg : w.heap.size ≤ g) (off : Nat) (v0 v1 v2 v3 : Value) : Ext w (put4 w1 g off v0 v1 v2 v3) :=
  Below.setCell (Below.setCell (Below.setCell (Below.setCell h (p := ⟨g, off, none⟩) hg v0) (p := ⟨g, off + 1, none⟩) hg v1) (p := ⟨g, off + 2, none⟩) hg v2) (p := ⟨g, off + 3, none⟩) hg v3
theorem Row4.put4 {w : World} {g n : Nat} (h : Row4 w g n) (g' off : Nat) (v0 v1 v2 v3 : Value) (hh : g' ≠ g ∨ off + 3 < n * 4) : Row4 (put4 w g' off v0 v1 v2 v3) g n := by
  refine ⟨by rw [put4_size]; exact h.1, fun j hj => ?_, fun j => by rw [put4_frozen]; exact h.2.2 j⟩
  by_cases he : g' ≠ g ∨ j < off ∨ off + 3 < j
  · rw [put4_far v0 v1 v2 v3 (by rcases he with he | he | he; exact .inl he; exact .inr (.inl he); exact .inr (.inr he))]
    exact h.2.1 j hj
  · have he1 : g' = g := by omega
    subst he1
    have hr : off + 3 < n * 4 := by
      rcases hh with hh | hh
      · exact absurd rfl hh
      · exact hh
    obtain ⟨p0, p1, p2, p3⟩ := put4_here (w := w) (g := g') (off := off) v0 v1 v2 v3 (h.2.1 _ (by omega)) (h.2.1 _ (by omega)) (h.2.1 _ (by omega)) (h.2.1 _ (by omega))
    have hj4 : j = off ∨ j = off + 1 ∨ j = off + 2 ∨ j = off + 3 := by omega
    rcases hj4 with rfl | rfl | rfl | rfl
    · exact ⟨_, p0⟩
    · exact ⟨_, p1⟩
    · exact ⟨_, p2⟩
    · exact ⟨_, p3⟩
/-- A rational is laid at place k. -/
theorem PartsAt.put {w : World} {B0 g n k : Nat} {f : Nat → Rat} (h : PartsAt w B0 g n k f) (hk : k < n) (hg : g < B0) {s : Bool} {A : Option Addr} {i c : Nat} {t : Bool} {B : Option Addr} {m d : Nat} (hq : QCan w B0 s A i c t B m d (f k)) :
    PartsAt (put4 w g (k * 4) (.bool s) (.slice A i c) (.bool t) (.slice B m d)) B0 g n (k + 1) f := by
  refine ⟨h.1.put4 _ _ _ _ _ _ (.inr (by omega)), fun j hj => ?_⟩
  by_cases he : j = k
  · subst he
    obtain ⟨p0, p1, p2, p3⟩ := put4_here (w := w) (g := g) (off := j * 4) (.bool s) (.slice A i c) (.bool t) (.slice B m d) (h.1.2.1 _ (by omega)) (h.1.2.1 _ (by omega)) (h.1.2.1 _ (by omega)) (h.1.2.1 _ (by omega))
    exact ⟨s, A, i, c, t, B, m, d, p0, p1, p2, p3, hq.put4 hg _ _ _ _ _⟩
  · obtain ⟨s', A', n', c', t', B', m', d', h0, h1, h2, h3, h4⟩ := h.2 j (by omega)
    refine ⟨s', A', n', c', t', B', m', d', ?_, ?_, ?_, ?_, h4.put4 hg _ _ _ _ _⟩
    · rw [put4_far _ _ _ _ (.inr (.inl (by omega)))]; exact h0
    · rw [put4_far _ _ _ _ (.inr (.inl (by omega)))]; exact h1
    · rw [put4_far _ _ _ _ (.inr (.inl (by omega)))]; exact h2
    · rw [put4_far _ _ _ _ (.inr (.inl (by omega)))]; exact h3
/-- A write elsewhere. -/
theorem PartsAt.far {w : World} {B0 g n k : Nat} {f : Nat → Rat} (h : PartsAt w B0 g n k f) {g' : Nat} (hne : g' ≠ g) (hg : g' < B0) (off : Nat) (v0 v1 v2 v3 : Value) : PartsAt (put4 w g' off v0 v1 v2 v3) B0 g n k f := by
  refine ⟨h.1.put4 _ _ _ _ _ _ (.inl hne), fun j hj => ?_⟩
  obtain ⟨s', A', n', c', t', B', m', d', h0, h1, h2, h3, h4⟩ := h.2 j hj
  refine ⟨s', A', n', c', t', B', m', d', ?_, ?_, ?_, ?_, h4.put4 hg _ _ _ _ _⟩
  · rw [put4_far _ _ _ _ (.inl hne)]; exact h0
  · rw [put4_far _ _ _ _ (.inl hne)]; exact h1
  · rw [put4_far _ _ _ _ (.inl hne)]; exact h2
  · rw [put4_far _ _ _ _ (.inl hne)]; exact h3
/-- The words do not lie in the blocks from lo to hi. -/
def Away (lo hi : Nat) (A : Option Addr) (n : Nat) : Prop := 0 < n → ∀ ad, A = some ad → ad.block < lo ∨ hi ≤ ad.block
theorem WordsAt.away {w : World} {A : Option Addr} {n : Nat} {xs : List Nat} (h : WordsAt w A n xs) (hi : Nat) : Away w.heap.size hi A n := fun hn ad ha => by
  obtain ⟨b, off, e, hl, _⟩ := h.2.2 hn
  rw [e] at ha
  injection ha with ha
  subst ha
  exact .inl hl
theorem Fresh.away {w : World} {B : Nat} {A : Option Addr} (h : Fresh w B A) (lo n : Nat) : Away lo B A n := fun _ ad ha => by
  obtain ⟨b, off, e, hB, _⟩ := h ad ha
  subst e
  exact .inr hB
theorem WordsAt.putAway {w : World} {A : Option Addr} {n : Nat} {xs : List Nat} (h : WordsAt w A n xs) {lo hi : Nat} (ha : Away lo hi A n) {p : Addr} (h1 : lo ≤ p.block) (h2 : p.block < hi) (v : Value) : WordsAt (w.setCell p v) A n xs := by
  refine ⟨h.1, h.2.1, fun hn => ?_⟩
  obtain ⟨b, off, e, hl, hc⟩ := h.2.2 hn
  have hb : b ≠ p.block := by
    have := ha hn _ e
    simp only at this
    omega
  refine ⟨b, off, e, by simpa [World.setCell] using hl, fun i hi => ?_⟩
  rw [← hc i hi]
  exact World.cell?_of_block (Below.heap_setCell w p v b hb)
theorem ZIs.putAway {w : World} {s : Bool} {A : Option Addr} {n c : Nat} {z : Int} (h : ZIs w s A n c z) {lo hi : Nat} (ha : Away lo hi A n) {p : Addr} (h1 : lo ≤ p.block) (h2 : p.block < hi) (v : Value) : ZIs (w.setCell p v) s A n c z := by
  obtain ⟨xs, h3, h4⟩ := h
  exact ⟨xs, h3.putAway ha h1 h2 v, h4⟩
theorem QArg.put4Away {w : World} {s : Bool} {A : Option Addr} {n c : Nat} {t : Bool} {B : Option Addr} {m d : Nat} {q : Rat} (h : QArg w s A n c t B m d q) {lo hi : Nat} (ha : Away lo hi A n) (hb : Away lo hi B m) {g : Nat} (h1 : lo ≤ g) (h2 : g < hi) (off : Nat) (v0 v1 v2 v3 : Value) : QArg (Go.Proofs.Ytkdbpcenehhopaa.put4 w g off v0 v1 v2 v3) s A n c t B m d q := by
  obtain ⟨⟨z, y, hz, hy, hq⟩, hl⟩ := h
  refine ⟨⟨z, y, ?_, ?_, hq⟩, hl⟩
  · exact (((hz.putAway ha (p := ⟨g, off, none⟩) h1 h2 v0).putAway ha (p := ⟨g, off + 1, none⟩) h1 h2 v1).putAway ha (p := ⟨g, off + 2, none⟩) h1 h2 v2).putAway ha (p := ⟨g, off + 3, none⟩) h1 h2 v3
  · exact (((hy.putAway hb (p := ⟨g, off, none⟩) h1 h2 v0).putAway hb (p := ⟨g, off + 1, none⟩) h1 h2 v1).putAway hb (p := ⟨g, off + 2, none⟩) h1 h2 v2).putAway hb (p := ⟨g, off + 3, none⟩) h1 h2 v3
theorem QIs.away {w : World} {s : Bool} {A : Option Addr} {n c : Nat} {t : Bool} {B : Option Addr} {m d : Nat} {q : Rat} (h : QIs w s A n c t B m d q) (hi : Nat) : Away w.heap.size hi A n ∧ Away w.heap.size hi B m := by
  obtain ⟨z, y, ⟨xs, h1, _⟩, ⟨ys, h2, _⟩, _⟩ := h
  exact ⟨h1.away hi, h2.away hi⟩
theorem QCan.away {w : World} {B0 : Nat} {s : Bool} {A : Option Addr} {n c : Nat} {t : Bool} {B : Option Addr} {m d : Nat} {q : Rat} (h : QCan w B0 s A n c t B m d q) (lo : Nat) : Away lo B0 A n ∧ Away lo B0 B m := ⟨h.1.2.2.2.2.away lo n, h.2.2.2.2.2.away lo m⟩
end Go.Proofs.Ytkdbpcenehhopaa
