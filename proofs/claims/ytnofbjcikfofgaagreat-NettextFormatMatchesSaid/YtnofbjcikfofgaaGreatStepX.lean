/- Plain words for offer and bid curves: what the checks answer on a list of steps. Plain words for allocations and costs. Contracts of package step's checks: what CheckOffer, CheckBid return on every slice of steps, and that they change no memory that was there. Contract of step.Allocate. Contract of step.Cost. Contracts of step.willing, SupplyAt, DemandAt. -/
import Derived.Below
import Derived.Test.YtnofbjcikfofgaaGreatFracN
import Derived.Test.YtnofbjcikfofgaaGreatRows
import Derived.Test.YtnofbjcikfofgaaGreatBase
import Derived.Test.YtnofbjcikfofgaaGreatMulW
namespace Go.Proofs.YtnofbjcikfofgaaGreat
open Go.RowKit

/-- Does price b follow price a, in a rising or a falling curve? -/
def folB (rise : Bool) (a b : Int) : Bool := if rise then decide (a < b) else decide (b < a)
/-- A step's numbers are in range. -/
def stepB (q p : Int) : Bool := decide (1 ≤ q) && decide (q ≤ 1000000) && decide (-1000000 ≤ p) && decide (p ≤ 1000000)
/-- The check from a step on, behind a step of price prev. -/
def chkFrom (rise : Bool) : List (Int × Int) → Option Int → Int
  | [], _ => 0
  | (q, p) :: r, prev => if stepB q p then (if (match prev with | none => true | some a => folB rise a p) then chkFrom rise r (some p) else 3) else 1
def chk (rise : Bool) (l : List (Int × Int)) : Int := if l.length = 0 then 4 else if 3 < l.length then 5 else chkFrom rise l none
def prevOk (rise : Bool) (prev : Option Int) (p : Int) : Bool := match prev with | none => true | some a => folB rise a p
theorem chkFrom_cons (rise : Bool) (q p : Int) (r : List (Int × Int)) (prev : Option Int) : chkFrom rise ((q, p) :: r) prev = if stepB q p then (if prevOk rise prev p then chkFrom rise r (some p) else 3) else 1 := rfl
/-- The check of a curve of either direction. -/
def crv (l : List (Int × Int)) : Int := if chk false l = 0 then 0 else chk true l
def sumQ : List (Int × Int) → Int
  | [] => 0
  | x :: r => x.1 + sumQ r
/-- The total quantity, 0 for no curve. -/
def total (l : List (Int × Int)) : Int := if crv l = 0 then sumQ l else 0
theorem sumQ_append (l r : List (Int × Int)) : sumQ (l ++ r) = sumQ l + sumQ r := by
  induction l with
  | nil => simp [sumQ]
  | cons x l ih => simp [sumQ, ih]; omega
theorem chkFrom_range {rise : Bool} : ∀ {l : List (Int × Int)} {prev : Option Int}, chkFrom rise l prev = 0 → ∀ x ∈ l, 1 ≤ x.1 ∧ x.1 ≤ 1000000 ∧ -1000000 ≤ x.2 ∧ x.2 ≤ 1000000
  | (q, p) :: r, prev, h, x, hx => by
    rw [chkFrom_cons] at h
    by_cases hs : stepB q p = true
    · rw [if_pos hs] at h
      by_cases hm : prevOk rise prev p = true
      · rw [if_pos hm] at h
        rcases List.mem_cons.1 hx with rfl | hx
        · simp only [stepB, Bool.and_eq_true, decide_eq_true_eq] at hs
          omega
        · exact chkFrom_range h x hx
      · rw [if_neg hm] at h; omega
    · rw [if_neg hs] at h; omega
theorem chk_range {rise : Bool} {l : List (Int × Int)} (h : chk rise l = 0) : 1 ≤ l.length ∧ l.length ≤ 3 ∧ ∀ x ∈ l, 1 ≤ x.1 ∧ x.1 ≤ 1000000 ∧ -1000000 ≤ x.2 ∧ x.2 ≤ 1000000 := by
  unfold chk at h
  by_cases h0 : l.length = 0
  · rw [if_pos h0] at h; omega
  · rw [if_neg h0] at h
    by_cases h3 : 3 < l.length
    · rw [if_pos h3] at h; omega
    · rw [if_neg h3] at h
      exact ⟨by omega, by omega, chkFrom_range h⟩
theorem crv_range {l : List (Int × Int)} (h : crv l = 0) : 1 ≤ l.length ∧ l.length ≤ 3 ∧ ∀ x ∈ l, 1 ≤ x.1 ∧ x.1 ≤ 1000000 ∧ -1000000 ≤ x.2 ∧ x.2 ≤ 1000000 := by
  unfold crv at h
  by_cases h0 : chk false l = 0
  · exact chk_range h0
  · rw [if_neg h0] at h; exact chk_range h
theorem crv_of_chk {l : List (Int × Int)} (h : chk true l = 0) : crv l = 0 := by
  unfold crv; split <;> simp_all
theorem sumQ_bd : ∀ {l : List (Int × Int)}, (∀ x ∈ l, 1 ≤ x.1 ∧ x.1 ≤ 1000000 ∧ -1000000 ≤ x.2 ∧ x.2 ≤ 1000000) → 0 ≤ sumQ l ∧ sumQ l ≤ 1000000 * l.length
  | [], _ => by simp [sumQ]
  | x :: r, h => by
    have h1 := h x (by simp)
    have h2 := sumQ_bd (l := r) fun y hy => h y (by simp [hy])
    simp only [sumQ, List.length_cons]
    omega
theorem total_bd (l : List (Int × Int)) : 0 ≤ total l ∧ total l ≤ 3000000 := by
  unfold total
  by_cases h : crv l = 0
  · rw [if_pos h]
    obtain ⟨_, h2, h3⟩ := crv_range h
    have := sumQ_bd h3
    omega
  · rw [if_neg h]; omega
theorem take_snoc {α : Type} (l : List α) (d : α) {k : Nat} (h : k < l.length) : l.take (k + 1) = l.take k ++ [l.getD k d] := by
  rw [List.take_succ_eq_append_getElem h]
  simp [List.getD, h]
def prevOf (l : List (Int × Int)) : Nat → Option Int
  | 0 => none
  | k + 1 => some (l.getD k (0, 0)).2
theorem chkFrom_next {rise : Bool} {l : List (Int × Int)} {k : Nat} (hk : k < l.length) :
    chkFrom rise (l.drop k) (prevOf l k) = if stepB (l.getD k (0, 0)).1 (l.getD k (0, 0)).2 then (if (match prevOf l k with | none => true | some a => folB rise a (l.getD k (0, 0)).2) then chkFrom rise (l.drop (k + 1)) (prevOf l (k + 1)) else 3) else 1 := by
  rw [List.drop_eq_getElem_cons hk]
  have hg : l.getD k (0, 0) = l[k] := by simp [List.getD, hk]
  simp only [hg, prevOf]
  rfl

/-- The slice with address A and length n holds the steps xs. -/
def StepsAt (w : World) (A : Option Addr) (n : Nat) (xs : List (Int × Int)) : Prop :=
  xs.length = n ∧ (0 < n → ∃ b off, A = some ⟨b, off, none⟩ ∧ b < w.heap.size ∧ ∀ i, i < n → w.cell? ⟨b, off + i * 2, none⟩ = some (.int .i64 (xs.getD i (0, 0)).1) ∧ w.cell? ⟨b, off + i * 2 + 1, none⟩ = some (.int .i64 (xs.getD i (0, 0)).2))
theorem StepsAt.below {w w' : World} {A : Option Addr} {n : Nat} {xs : List (Int × Int)} (h : StepsAt w A n xs) (hb : Below w.heap.size w w') : StepsAt w' A n xs := by
  refine ⟨h.1, fun hn => ?_⟩
  obtain ⟨b, off, ha, hlt, hc⟩ := h.2 hn
  exact ⟨b, off, ha, Nat.lt_of_lt_of_le hlt hb.size, fun i hi => ⟨(hb.cell (p := ⟨b, off + i * 2, none⟩) hlt).trans (hc i hi).1, (hb.cell (p := ⟨b, off + i * 2 + 1, none⟩) hlt).trans (hc i hi).2⟩⟩
end Go.Proofs.YtnofbjcikfofgaaGreat

namespace Go.Proofs.YtnofbjcikfofgaaGreat
open Go.RowKit

/-- What is left of q behind some steps. -/
def restR (q : Rat) : List (Int × Int) → Rat
  | [] => q
  | x :: r => restR (q - minQ q x.1) r
theorem restR_append (l r : List (Int × Int)) : ∀ q, restR q (l ++ r) = restR (restR q l) r := by
  induction l with
  | nil => intro q; rfl
  | cons x l ih => intro q; exact ih _
/-- What is taken from step i. -/
def partAt (q : Rat) (xs : List (Int × Int)) (i : Nat) : Rat := minQ (restR q (xs.take i)) ((xs.getD i (0, 0)).1 : Int)
theorem rest_succ {q : Rat} {xs : List (Int × Int)} {k : Nat} (hk : k < xs.length) : restR q (xs.take (k + 1)) = restR q (xs.take k) - partAt q xs k := by
  rw [take_snoc xs (0, 0) hk, restR_append]
  rfl
/-- The cost of the first k parts. -/
def costTo (q : Rat) (xs : List (Int × Int)) : Nat → Rat
  | 0 => 0
  | k + 1 => costTo q xs k + partAt q xs k * ((xs.getD k (0, 0)).2 : Int)
/-- The error of an allocation. -/
def allocE (xs : List (Int × Int)) (q : Rat) : Int := if crv xs ≠ 0 then crv xs else if q < 0 ∨ ((total xs : Int) : Rat) < q then 1 else 0
theorem Sz.min {k l : Nat} {p q : Rat} (hp : Sz k p) (hq : Sz l q) (hl : l ≤ k) : Sz k (minQ p q) := by
  unfold minQ
  split
  · exact hq.mono hl
  · exact hp
theorem sz_small {z : Int} (h1 : -4294967296 < z) (h2 : z < 4294967296) : Sz 1 (z : Rat) := sz_int (by omega) (by omega)
theorem pow2_pos (k : Nat) : 0 < 2 ^ k := Nat.pow_pos (by omega)
theorem sz_rest {q : Rat} {xs : List (Int × Int)} (hq : Sz 1000 q) (hr : ∀ x ∈ xs, 1 ≤ x.1 ∧ x.1 ≤ 1000000 ∧ -1000000 ≤ x.2 ∧ x.2 ≤ 1000000) : ∀ k, k ≤ xs.length → Sz (1001 * 2 ^ k - 1) (restR q (xs.take k))
  | 0, _ => by simpa [restR] using hq
  | k + 1, hk => by
    have ih := sz_rest hq hr k (by omega)
    have hp := pow2_pos k
    have hm : xs.getD k (0, 0) ∈ xs := by simp [List.getD, show k < xs.length by omega]
    have h1 := hr _ hm
    rw [rest_succ (by omega)]
    have hs : Sz 1 (((xs.getD k (0, 0)).1 : Int) : Rat) := sz_small (by omega) (by omega)
    refine (ih.sub (ih.min hs (by omega))).mono ?_
    rw [Nat.pow_succ]
    omega
theorem sz_part {q : Rat} {xs : List (Int × Int)} (hq : Sz 1000 q) (hr : ∀ x ∈ xs, 1 ≤ x.1 ∧ x.1 ≤ 1000000 ∧ -1000000 ≤ x.2 ∧ x.2 ≤ 1000000) (k : Nat) (hk : k < xs.length) : Sz (1001 * 2 ^ k - 1) (partAt q xs k) := by
  have ih := sz_rest hq hr k (by omega)
  have hp := pow2_pos k
  have hm : xs.getD k (0, 0) ∈ xs := by simp [List.getD, show k < xs.length by omega]
  have h1 := hr _ hm
  have hs : Sz 1 (((xs.getD k (0, 0)).1 : Int) : Rat) := sz_small (by omega) (by omega)
  exact ih.min hs (by omega)
theorem sz_zero : Sz 1 (0 : Rat) := by
  have := sz_small (z := 0) (by omega) (by omega)
  simpa using this
theorem sz_cost {q : Rat} {xs : List (Int × Int)} (hq : Sz 1000 q) (hr : ∀ x ∈ xs, 1 ≤ x.1 ∧ x.1 ≤ 1000000 ∧ -1000000 ≤ x.2 ∧ x.2 ≤ 1000000) : ∀ k, k ≤ xs.length → Sz (1003 * 2 ^ k) (costTo q xs k)
  | 0, _ => sz_zero.mono (by decide)
  | k + 1, hk => by
    have ih := sz_cost hq hr k (by omega)
    have hp := pow2_pos k
    have hm : xs.getD k (0, 0) ∈ xs := by simp [List.getD, show k < xs.length by omega]
    have h1 := hr _ hm
    have hs : Sz 1 (((xs.getD k (0, 0)).2 : Int) : Rat) := sz_small (by omega) (by omega)
    refine (ih.add ((sz_part hq hr k (by omega)).mul hs)).mono ?_
    rw [Nat.pow_succ]
    omega
theorem pow2_le {k : Nat} (h : k ≤ 3) : 2 ^ k ≤ 8 := Nat.le_trans (Nat.pow_le_pow_right (by omega) h) (by decide)

/-- At this place of memory lies the rational q, in canonical form. -/
def QAt (w : World) (B0 g off : Nat) (q : Rat) : Prop := ∃ (s : Bool) (A : Option Addr) (n c : Nat) (t : Bool) (B : Option Addr) (m d : Nat), w.cell? ⟨g, off, none⟩ = some (.bool s) ∧ w.cell? ⟨g, off + 1, none⟩ = some (.slice A n c) ∧ w.cell? ⟨g, off + 2, none⟩ = some (.bool t) ∧ w.cell? ⟨g, off + 3, none⟩ = some (.slice B m d) ∧ QCan w B0 s A n c t B m d q
theorem QAt.ext {w w' : World} {B0 g off : Nat} {q : Rat} (h : QAt w B0 g off q) (hb : Ext w w') : QAt w' B0 g off q := by
  obtain ⟨s, A, n, c, t, B, m, d, h0, h1, h2, h3, h4⟩ := h
  exact ⟨s, A, n, c, t, B, m, d, Ext.cellOf hb h0, Ext.cellOf hb h1, Ext.cellOf hb h2, Ext.cellOf hb h3, h4.ext hb⟩
/-- Block g is a row of n rationals that may be written. -/
def Row4 (w : World) (g n : Nat) : Prop := g < w.heap.size ∧ (∀ j, j < n * 4 → ∃ v, w.cell? ⟨g, j, none⟩ = some v) ∧ ∀ j, w.frozen? ⟨g, j, none⟩ = false
theorem Row4.ext {w w' : World} {g n : Nat} (h : Row4 w g n) (hb : Ext w w') : Row4 w' g n :=
  ⟨Nat.lt_of_lt_of_le h.1 hb.size, fun j hj => (h.2.1 j hj).imp fun _ hv => Ext.cellOf hb hv, fun j => (hb.frozen (p := ⟨g, j, none⟩) h.1).trans (h.2.2 j)⟩
/-- The first k of the row are these. -/
def PartsAt (w : World) (B0 g n k : Nat) (f : Nat → Rat) : Prop := Row4 w g n ∧ ∀ i, i < k → QAt w B0 g (i * 4) (f i)
theorem PartsAt.ext {w w' : World} {B0 g n k : Nat} {f : Nat → Rat} (h : PartsAt w B0 g n k f) (hb : Ext w w') : PartsAt w' B0 g n k f := ⟨h.1.ext hb, fun i hi => (h.2 i hi).ext hb⟩
/-- Four cells are set. -/
abbrev put4 (w : World) (g off : Nat) (v0 v1 v2 v3 : Value) : World := (((w.setCell ⟨g, off, none⟩ v0).setCell ⟨g, off + 1, none⟩ v1).setCell ⟨g, off + 2, none⟩ v2).setCell ⟨g, off + 3, none⟩ v3
theorem put4_far {w : World} {g off g' o' : Nat} (v0 v1 v2 v3 : Value) (h : g ≠ g' ∨ o' < off ∨ off + 3 < o') : (put4 w g off v0 v1 v2 v3).cell? ⟨g', o', none⟩ = w.cell? ⟨g', o', none⟩ := by
  unfold put4
  rw [World.cell?_setCell_other, World.cell?_setCell_other, World.cell?_setCell_other, World.cell?_setCell_other] <;> (intro hh; injection hh; omega)
theorem put4_frozen (w : World) (g off : Nat) (v0 v1 v2 v3 : Value) (p : Addr) : (put4 w g off v0 v1 v2 v3).frozen? p = w.frozen? p := by
  unfold put4
  rw [World.frozen?_setCell, World.frozen?_setCell, World.frozen?_setCell, World.frozen?_setCell]
theorem put4_size (w : World) (g off : Nat) (v0 v1 v2 v3 : Value) : (put4 w g off v0 v1 v2 v3).heap.size = w.heap.size := by simp [put4, World.setCell]
theorem put4_here {w : World} {g off : Nat} (v0 v1 v2 v3 : Value) (h0 : ∃ v, w.cell? ⟨g, off, none⟩ = some v) (h1 : ∃ v, w.cell? ⟨g, off + 1, none⟩ = some v) (h2 : ∃ v, w.cell? ⟨g, off + 2, none⟩ = some v) (h3 : ∃ v, w.cell? ⟨g, off + 3, none⟩ = some v) :
    (put4 w g off v0 v1 v2 v3).cell? ⟨g, off, none⟩ = some v0 ∧ (put4 w g off v0 v1 v2 v3).cell? ⟨g, off + 1, none⟩ = some v1 ∧ (put4 w g off v0 v1 v2 v3).cell? ⟨g, off + 2, none⟩ = some v2 ∧ (put4 w g off v0 v1 v2 v3).cell? ⟨g, off + 3, none⟩ = some v3 := by
  obtain ⟨u0, h0⟩ := h0
  obtain ⟨u1, h1⟩ := h1
  obtain ⟨u2, h2⟩ := h2
  obtain ⟨u3, h3⟩ := h3
  have ne : ∀ {i j : Nat}, i ≠ j → (⟨g, i, none⟩ : Addr) ≠ ⟨g, j, none⟩ := fun hij hh => hij (by injection hh)
  unfold put4
  refine ⟨?_, ?_, ?_, ?_⟩
  · rw [World.cell?_setCell_other _ _ _ _ (ne (by omega)), World.cell?_setCell_other _ _ _ _ (ne (by omega)), World.cell?_setCell_other _ _ _ _ (ne (by omega))]
    exact World.cell?_setCell_same' _ _ _ (by rw [h0]; rfl)
  · rw [World.cell?_setCell_other _ _ _ _ (ne (by omega)), World.cell?_setCell_other _ _ _ _ (ne (by omega))]
    exact World.cell?_setCell_same' _ _ _ (by rw [World.cell?_setCell_other _ _ _ _ (ne (by omega)), h1]; rfl)
  · rw [World.cell?_setCell_other _ _ _ _ (ne (by omega))]
    exact World.cell?_setCell_same' _ _ _ (by rw [World.cell?_setCell_other _ _ _ _ (ne (by omega)), World.cell?_setCell_other _ _ _ _ (ne (by omega)), h2]; rfl)
  · exact World.cell?_setCell_same' _ _ _ (by rw [World.cell?_setCell_other _ _ _ _ (ne (by omega)), World.cell?_setCell_other _ _ _ _ (ne (by omega)), World.cell?_setCell_other _ _ _ _ (ne (by omega)), h3]; rfl)
theorem QCan.put4 {w : World} {B0 : Nat} {s : Bool} {A : Option Addr} {n c : Nat} {t : Bool} {B : Option Addr} {m d : Nat} {q : Rat} (h : QCan w B0 s A n c t B m d q) {g : Nat} (hg : g < B0) (off : Nat) (v0 v1 v2 v3 : Value) : QCan (put4 w g off v0 v1 v2 v3) B0 s A n c t B m d q :=
  (((h.put (p := ⟨g, off, none⟩) hg v0).put (p := ⟨g, off + 1, none⟩) hg v1).put (p := ⟨g, off + 2, none⟩) hg v2).put (p := ⟨g, off + 3, none⟩) hg v3
theorem ext_put4 {w w1 : World} (h : Ext w w1) {g : Nat} (hg : w.heap.size ≤ g) (off : Nat) (v0 v1 v2 v3 : Value) : Ext w (put4 w1 g off v0 v1 v2 v3) :=
  Below.setCell (Below.setCell (Below.setCell (Below.setCell h (p := ⟨g, off, none⟩) hg v0) (p := ⟨g, off + 1, none⟩) hg v1) (p := ⟨g, off + 2, none⟩) hg v2) (p := ⟨g, off + 3, none⟩) hg v3
theorem Row4.put4 {w : World} {g n : Nat} (h : Row4 w g n) (g' off : Nat) (v0 v1 v2 v3 : Value) (hh : g' ≠ g ∨ off + 3 < n * 4) : Row4 (put4 w g' off v0 v1 v2 v3) g n := by
  refine ⟨by rw [put4_size]; exact h.1, fun j hj => ?_, fun j => by rw [put4_frozen]; exact h.2.2 j⟩
  by_cases he : g' ≠ g ∨ j < off ∨ off + 3 < j
  · rw [put4_far v0 v1 v2 v3 (by rcases he with he | he | he; exact .inl he; exact .inr (.inl he); exact .inr (.inr he))]
    exact h.2.1 j hj
  · have he1 : g' = g := by omega
    subst he1
    have hr : off + 3 < n * 4 := by
      rcases hh with hh | hh
      · exact absurd rfl hh
      · exact hh
    obtain ⟨p0, p1, p2, p3⟩ := put4_here (w := w) (g := g') (off := off) v0 v1 v2 v3 (h.2.1 _ (by omega)) (h.2.1 _ (by omega)) (h.2.1 _ (by omega)) (h.2.1 _ (by omega))
    have hj4 : j = off ∨ j = off + 1 ∨ j = off + 2 ∨ j = off + 3 := by omega
    rcases hj4 with rfl | rfl | rfl | rfl
    · exact ⟨_, p0⟩
    · exact ⟨_, p1⟩
    · exact ⟨_, p2⟩
    · exact ⟨_, p3⟩
/-- A rational is laid at place k. -/
theorem PartsAt.put {w : World} {B0 g n k : Nat} {f : Nat → Rat} (h : PartsAt w B0 g n k f) (hk : k < n) (hg : g < B0) {s : Bool} {A : Option Addr} {i c : Nat} {t : Bool} {B : Option Addr} {m d : Nat} (hq : QCan w B0 s A i c t B m d (f k)) :
    PartsAt (put4 w g (k * 4) (.bool s) (.slice A i c) (.bool t) (.slice B m d)) B0 g n (k + 1) f := by
  refine ⟨h.1.put4 _ _ _ _ _ _ (.inr (by omega)), fun j hj => ?_⟩
  by_cases he : j = k
  · subst he
    obtain ⟨p0, p1, p2, p3⟩ := put4_here (w := w) (g := g) (off := j * 4) (.bool s) (.slice A i c) (.bool t) (.slice B m d) (h.1.2.1 _ (by omega)) (h.1.2.1 _ (by omega)) (h.1.2.1 _ (by omega)) (h.1.2.1 _ (by omega))
    exact ⟨s, A, i, c, t, B, m, d, p0, p1, p2, p3, hq.put4 hg _ _ _ _ _⟩
  · obtain ⟨s', A', n', c', t', B', m', d', h0, h1, h2, h3, h4⟩ := h.2 j (by omega)
    refine ⟨s', A', n', c', t', B', m', d', ?_, ?_, ?_, ?_, h4.put4 hg _ _ _ _ _⟩
    · rw [put4_far _ _ _ _ (.inr (.inl (by omega)))]; exact h0
    · rw [put4_far _ _ _ _ (.inr (.inl (by omega)))]; exact h1
    · rw [put4_far _ _ _ _ (.inr (.inl (by omega)))]; exact h2
    · rw [put4_far _ _ _ _ (.inr (.inl (by omega)))]; exact h3
/-- A write elsewhere. -/
theorem PartsAt.far {w : World} {B0 g n k : Nat} {f : Nat → Rat} (h : PartsAt w B0 g n k f) {g' : Nat} (hne : g' ≠ g) (hg : g' < B0) (off : Nat) (v0 v1 v2 v3 : Value) : PartsAt (put4 w g' off v0 v1 v2 v3) B0 g n k f := by
  refine ⟨h.1.put4 _ _ _ _ _ _ (.inl hne), fun j hj => ?_⟩
  obtain ⟨s', A', n', c', t', B', m', d', h0, h1, h2, h3, h4⟩ := h.2 j hj
  refine ⟨s', A', n', c', t', B', m', d', ?_, ?_, ?_, ?_, h4.put4 hg _ _ _ _ _⟩
  · rw [put4_far _ _ _ _ (.inl hne)]; exact h0
  · rw [put4_far _ _ _ _ (.inl hne)]; exact h1
  · rw [put4_far _ _ _ _ (.inl hne)]; exact h2
  · rw [put4_far _ _ _ _ (.inl hne)]; exact h3
/-- The words do not lie in the blocks from lo to hi. -/
def Away (lo hi : Nat) (A : Option Addr) (n : Nat) : Prop := 0 < n → ∀ ad, A = some ad → ad.block < lo ∨ hi ≤ ad.block
theorem WordsAt.away {w : World} {A : Option Addr} {n : Nat} {xs : List Nat} (h : WordsAt w A n xs) (hi : Nat) : Away w.heap.size hi A n := fun hn ad ha => by
  obtain ⟨b, off, e, hl, _⟩ := h.2.2 hn
  rw [e] at ha
  injection ha with ha
  subst ha
  exact .inl hl
theorem Fresh.away {w : World} {B : Nat} {A : Option Addr} (h : Fresh w B A) (lo n : Nat) : Away lo B A n := fun _ ad ha => by
  obtain ⟨b, off, e, hB, _⟩ := h ad ha
  subst e
  exact .inr hB
theorem WordsAt.putAway {w : World} {A : Option Addr} {n : Nat} {xs : List Nat} (h : WordsAt w A n xs) {lo hi : Nat} (ha : Away lo hi A n) {p : Addr} (h1 : lo ≤ p.block) (h2 : p.block < hi) (v : Value) : WordsAt (w.setCell p v) A n xs := by
  refine ⟨h.1, h.2.1, fun hn => ?_⟩
  obtain ⟨b, off, e, hl, hc⟩ := h.2.2 hn
  have hb : b ≠ p.block := by
    have := ha hn _ e
    simp only at this
    omega
  refine ⟨b, off, e, by simpa [World.setCell] using hl, fun i hi => ?_⟩
  rw [← hc i hi]
  exact World.cell?_of_block (Below.heap_setCell w p v b hb)
theorem ZIs.putAway {w : World} {s : Bool} {A : Option Addr} {n c : Nat} {z : Int} (h : ZIs w s A n c z) {lo hi : Nat} (ha : Away lo hi A n) {p : Addr} (h1 : lo ≤ p.block) (h2 : p.block < hi) (v : Value) : ZIs (w.setCell p v) s A n c z := by
  obtain ⟨xs, h3, h4⟩ := h
  exact ⟨xs, h3.putAway ha h1 h2 v, h4⟩
theorem QArg.put4Away {w : World} {s : Bool} {A : Option Addr} {n c : Nat} {t : Bool} {B : Option Addr} {m d : Nat} {q : Rat} (h : QArg w s A n c t B m d q) {lo hi : Nat} (ha : Away lo hi A n) (hb : Away lo hi B m) {g : Nat} (h1 : lo ≤ g) (h2 : g < hi) (off : Nat) (v0 v1 v2 v3 : Value) : QArg (Go.Proofs.YtnofbjcikfofgaaGreat.put4 w g off v0 v1 v2 v3) s A n c t B m d q := by
  obtain ⟨⟨z, y, hz, hy, hq⟩, hl⟩ := h
  refine ⟨⟨z, y, ?_, ?_, hq⟩, hl⟩
  · exact (((hz.putAway ha (p := ⟨g, off, none⟩) h1 h2 v0).putAway ha (p := ⟨g, off + 1, none⟩) h1 h2 v1).putAway ha (p := ⟨g, off + 2, none⟩) h1 h2 v2).putAway ha (p := ⟨g, off + 3, none⟩) h1 h2 v3
  · exact (((hy.putAway hb (p := ⟨g, off, none⟩) h1 h2 v0).putAway hb (p := ⟨g, off + 1, none⟩) h1 h2 v1).putAway hb (p := ⟨g, off + 2, none⟩) h1 h2 v2).putAway hb (p := ⟨g, off + 3, none⟩) h1 h2 v3
theorem QIs.away {w : World} {s : Bool} {A : Option Addr} {n c : Nat} {t : Bool} {B : Option Addr} {m d : Nat} {q : Rat} (h : QIs w s A n c t B m d q) (hi : Nat) : Away w.heap.size hi A n ∧ Away w.heap.size hi B m := by
  obtain ⟨z, y, ⟨xs, h1, _⟩, ⟨ys, h2, _⟩, _⟩ := h
  exact ⟨h1.away hi, h2.away hi⟩
theorem QCan.away {w : World} {B0 : Nat} {s : Bool} {A : Option Addr} {n c : Nat} {t : Bool} {B : Option Addr} {m d : Nat} {q : Rat} (h : QCan w B0 s A n c t B m d q) (lo : Nat) : Away lo B0 A n ∧ Away lo B0 B m := ⟨h.1.2.2.2.2.away lo n, h.2.2.2.2.2.away lo m⟩
end Go.Proofs.YtnofbjcikfofgaaGreat

namespace Go.Proofs.YtnofbjcikfofgaaGreat
open Go.RowKit
theorem ret_int {k : IntKind} {a b : Int} (h : a = b) : Ending.returned (.int k a) = .returned (.int k b) := by rw [h]
theorem ret_bool {a b : Bool} (h : a = b) : Ending.returned (.bool a) = .returned (.bool b) := by rw [h]

end Go.Proofs.YtnofbjcikfofgaaGreat

namespace Go.Proofs.YtnofbjcikfofgaaGreat
open Go.RowKit

theorem info_q : (Tryz.prog.info? 51).map (fun i => (i.zero, i.size, i.bytes)) = some (some (.agg #[.bool false, .slice none 0 0, .bool false, .slice none 0 0]), 4, 64) := by kernel_rfl
theorem row4_made (w : World) (k : Nat) (zs : Array Value) (t : TypeId) : Row4 (w.alloc (.cells (madeCells zs (k * 4)) t)) w.heap.size k := by
  have hb : Blk (w.alloc (.cells (madeCells zs (k * 4)) t)) w.heap.size t (madeCells zs (k * 4)) := Blk.new w t _
  refine ⟨by simp, fun j hj => ?_, fun j => hb.frozen j⟩
  rw [hb.cell j]
  have : j < (madeCells zs (k * 4)).size := by rw [size_madeCells]; exact hj
  exact ⟨_, Array.getElem?_eq_getElem this⟩
theorem Cell4.put4 {w : World} {k : Nat} {u0 u1 u2 u3 : Value} (h : Cell4 w k u0 u1 u2 u3) (v0 v1 v2 v3 : Value) : Cell4 (put4 w k 0 v0 v1 v2 v3) k v0 v1 v2 v3 := by
  have hp := put4_here (w := w) (g := k) (off := 0) v0 v1 v2 v3 ⟨_, h.1.1⟩ ⟨_, h.1.2.1⟩ ⟨_, h.1.2.2.1⟩ ⟨_, h.1.2.2.2⟩
  refine ⟨hp, ⟨?_, ?_, ?_, ?_⟩, by rw [put4_size]; exact h.2.2⟩ <;> rw [put4_frozen]
  · exact h.2.1.1
  · exact h.2.1.2.1
  · exact h.2.1.2.2.1
  · exact h.2.1.2.2.2
theorem Cell4.far4 {w : World} {k g off : Nat} {u0 u1 u2 u3 : Value} (h : Cell4 w k u0 u1 u2 u3) (hg : g ≠ k) (v0 v1 v2 v3 : Value) : Cell4 (Go.Proofs.YtnofbjcikfofgaaGreat.put4 w g off v0 v1 v2 v3) k u0 u1 u2 u3 := by
  refine ⟨⟨?_, ?_, ?_, ?_⟩, ⟨?_, ?_, ?_, ?_⟩, by rw [put4_size]; exact h.2.2⟩
  · rw [put4_far _ _ _ _ (.inl hg)]; exact h.1.1
  · rw [put4_far _ _ _ _ (.inl hg)]; exact h.1.2.1
  · rw [put4_far _ _ _ _ (.inl hg)]; exact h.1.2.2.1
  · rw [put4_far _ _ _ _ (.inl hg)]; exact h.1.2.2.2
  · rw [put4_frozen]; exact h.2.1.1
  · rw [put4_frozen]; exact h.2.1.2.1
  · rw [put4_frozen]; exact h.2.1.2.2.1
  · rw [put4_frozen]; exact h.2.1.2.2.2

/-- What Allocate answers. -/
def RetAlloc (w : World) (xs : List (Int × Int)) (q : Rat) (e : Ending) (w' : World) : Prop := Ext w w' ∧ ∃ v, e = .returned (.tuple #[v, .int .i64 (allocE xs q)]) ∧ (allocE xs q ≠ 0 → v = .slice none 0 0) ∧ (allocE xs q = 0 → ∃ g, v = .slice (some ⟨g, 0, none⟩) xs.length xs.length ∧ w.heap.size ≤ g ∧ PartsAt w' w.heap.size g xs.length xs.length (partAt q xs))
theorem ret_e {v : Value} {a b : Int} (h : a = b) : Ending.returned (.tuple #[v, .int .i64 a]) = .returned (.tuple #[v, .int .i64 b]) := by rw [h]
theorem sign_neg_iff (q : Rat) : q.num.sign < 0 ↔ q < 0 := by
  rw [Int.sign_neg_iff, ← Rat.not_le, ← Rat.num_nonneg]
  omega

end Go.Proofs.YtnofbjcikfofgaaGreat

namespace Go.Proofs.YtnofbjcikfofgaaGreat
open Go.RowKit

/-- The cost of q, 0 where there is none. -/
def costV (xs : List (Int × Int)) (q : Rat) : Rat := if allocE xs q = 0 then costTo q xs xs.length else 0
/-- What Cost answers. -/
def RetCost (w : World) (xs : List (Int × Int)) (q : Rat) (e : Ending) (w' : World) : Prop := ∃ s A n c t B m d, e = .returned (.tuple #[.agg #[.bool s, .slice A n c, .bool t, .slice B m d], .int .i64 (allocE xs q)]) ∧ QCan w' w.heap.size s A n c t B m d (costV xs q) ∧ Ext w w'
theorem ret_qe {v : Value} {a b : Int} (h : a = b) : Ending.returned (.tuple #[v, .int .i64 a]) = .returned (.tuple #[v, .int .i64 b]) := by rw [h]
theorem qcan_zero (w : World) (B0 : Nat) : QCan w B0 false none 0 0 false none 0 0 0 := ⟨zcan_zero _ _, zcan_zero _ _⟩
theorem allocE_range {xs : List (Int × Int)} {q : Rat} (h : allocE xs q = 0) : crv xs = 0 := by
  unfold allocE at h
  by_cases e : crv xs = 0
  · exact e
  · rw [if_pos e] at h
    exact h
theorem sz_costV {xs : List (Int × Int)} {q : Rat} (hq : Sz 1000 q) : Sz 8024 (costV xs q) := by
  unfold costV
  split
  · obtain ⟨_, h3, hr⟩ := crv_range (allocE_range ‹_›)
    have := pow2_le h3
    exact (sz_cost hq hr xs.length (Nat.le_refl _)).mono (by omega)
  · exact sz_zero.mono (by omega)

end Go.Proofs.YtnofbjcikfofgaaGreat

namespace Go.Proofs.YtnofbjcikfofgaaGreat
open Go.RowKit

/-- The steps on one side of a price. -/
def leastOf (side : Int) (p : Rat) : List (Int × Int) → Int
  | [] => 0
  | x :: r => (if cmpQ (x.2 : Int) p = side then x.1 else 0) + leastOf side p r
/-- .. and those at it. -/
def mostOf (side : Int) (p : Rat) : List (Int × Int) → Int
  | [] => 0
  | x :: r => (if cmpQ (x.2 : Int) p = side ∨ cmpQ (x.2 : Int) p = 0 then x.1 else 0) + mostOf side p r
theorem leastOf_append (side : Int) (p : Rat) (l r : List (Int × Int)) : leastOf side p (l ++ r) = leastOf side p l + leastOf side p r := by
  induction l with
  | nil => simp [leastOf]
  | cons x l ih => simp only [List.cons_append, leastOf, ih]; omega
theorem mostOf_append (side : Int) (p : Rat) (l r : List (Int × Int)) : mostOf side p (l ++ r) = mostOf side p l + mostOf side p r := by
  induction l with
  | nil => simp [mostOf]
  | cons x l ih => simp only [List.cons_append, mostOf, ih]; omega
theorem will_bd (side : Int) (p : Rat) : ∀ {l : List (Int × Int)}, (∀ x ∈ l, 1 ≤ x.1 ∧ x.1 ≤ 1000000 ∧ -1000000 ≤ x.2 ∧ x.2 ≤ 1000000) → 0 ≤ leastOf side p l ∧ leastOf side p l ≤ mostOf side p l ∧ mostOf side p l ≤ sumQ l
  | [], _ => by simp [leastOf, mostOf, sumQ]
  | x :: r, h => by
    have h1 := h x (by simp)
    have h2 := will_bd side p (l := r) fun y hy => h y (by simp [hy])
    simp only [leastOf, mostOf, sumQ]
    by_cases e1 : cmpQ (x.2 : Int) p = side
    · rw [if_pos e1, if_pos (.inl e1)]; omega
    · rw [if_neg e1]
      split <;> omega

theorem ret_iie {a a' b b' c c' : Int} (h1 : a = a') (h2 : b = b') (h3 : c = c') : Ending.returned (.tuple #[.int .i64 a, .int .i64 b, .int .i64 c]) = .returned (.tuple #[.int .i64 a', .int .i64 b', .int .i64 c']) := by rw [h1, h2, h3]
/-- The quantities that a curve wants at a price. -/
def wantL (rise : Bool) (xs : List (Int × Int)) (p : Rat) : Int := if chk rise xs = 0 then leastOf (if rise then -1 else 1) p xs else 0
def wantM (rise : Bool) (xs : List (Int × Int)) (p : Rat) : Int := if chk rise xs = 0 then mostOf (if rise then -1 else 1) p xs else 0

end Go.Proofs.YtnofbjcikfofgaaGreat
