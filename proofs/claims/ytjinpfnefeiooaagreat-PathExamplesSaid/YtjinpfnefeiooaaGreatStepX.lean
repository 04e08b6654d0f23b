/- A part of the proof. -/
import Derived.Below
import Derived.Test.YtjinpfnefeiooaaGreatRows
import Derived.Test.YtjinpfnefeiooaaGreatFracN
import Derived.Test.YtjinpfnefeiooaaGreatBase
import Derived.Test.YtjinpfnefeiooaaGreatMulW
namespace Go.Proofs.YtjinpfnefeiooaaGreat
open Go.RowKit

def folB (rise : Bool) (a b : Int) : Bool := if rise then decide (a < b) else decide (b < a)
def stepB (q p : Int) : Bool := decide (1 ≤ q) && decide (q ≤ 1000000) && decide (-1000000 ≤ p) && decide (p ≤ 1000000)
def chkFrom (rise : Bool) : List (Int × Int) → Option Int → Int
 | [], _ => 0
 | (q, p) :: r, prev => if stepB q p then (if (match prev with | none => true | some a => folB rise a p) then chkFrom rise r (some p) else 3) else 1
def chk (rise : Bool) (l : List (Int × Int)) : Int := if l.length = 0 then 4 else if 3 < l.length then 5 else chkFrom rise l none
def prevOk (rise : Bool) (prev : Option Int) (p : Int) : Bool := match prev with | none => true | some a => folB rise a p
theorem chkFrom_cons (rise : Bool) (q p : Int) (r : List (Int × Int)) (prev : Option Int) : chkFrom rise ((q, p) :: r) prev = if stepB q p then (if prevOk rise prev p then chkFrom rise r (some p) else 3) else 1 := rfl
def crv (l : List (Int × Int)) : Int := if chk false l = 0 then 0 else chk true l
def sumQ : List (Int × Int) → Int
 | [] => 0
 | x :: r => x.1 + sumQ r
def total (l : List (Int × Int)) : Int := if crv l = 0 then sumQ l else 0
theorem sumQ_append (l r : List (Int × Int)) : sumQ (l ++ r) = sumQ l + sumQ r := by
 induction l with
 | nil => simp [sumQ]
 | cons x l ih => simp [sumQ, ih]; omega
theorem chkFrom_range {rise : Bool} : ∀ {l : List (Int × Int)} {prev : Option Int}, chkFrom rise l prev = 0 → ∀ x ∈ l, 1 ≤ x.1 ∧ x.1 ≤ 1000000 ∧ -1000000 ≤ x.2 ∧ x.2 ≤ 1000000
 | (q, p) :: r, prev, h, x, hx => by
  rw [chkFrom_cons] at h
  by_cases hs : stepB q p = true
  ·rw [if_pos hs] at h
   by_cases hm : prevOk rise prev p = true
   ·rw [if_pos hm] at h
    rcases List.mem_cons.1 hx with rfl | hx
    ·simp only [stepB, Bool.and_eq_true, decide_eq_true_eq] at hs
     omega
    ·exact chkFrom_range h x hx
   ·rw [if_neg hm] at h; omega
  ·rw [if_neg hs] at h; omega
theorem chk_range {rise : Bool} {l : List (Int × Int)} (h : chk rise l = 0) : 1 ≤ l.length ∧ l.length ≤ 3 ∧ ∀ x ∈ l, 1 ≤ x.1 ∧ x.1 ≤ 1000000 ∧ -1000000 ≤ x.2 ∧ x.2 ≤ 1000000 := by
 unfold chk at h
 by_cases h0 : l.length = 0
 ·rw [if_pos h0] at h; omega
 ·rw [if_neg h0] at h
  by_cases h3 : 3 < l.length
  ·rw [if_pos h3] at h; omega
  ·rw [if_neg h3] at h
   exact ⟨by omega, by omega, chkFrom_range h⟩
theorem crv_range {l : List (Int × Int)} (h : crv l = 0) : 1 ≤ l.length ∧ l.length ≤ 3 ∧ ∀ x ∈ l, 1 ≤ x.1 ∧ x.1 ≤ 1000000 ∧ -1000000 ≤ x.2 ∧ x.2 ≤ 1000000 := by
 unfold crv at h
 by_cases h0 : chk false l = 0
 ·exact chk_range h0
 ·rw [if_neg h0] at h; exact chk_range h
theorem crv_of_chk {l : List (Int × Int)} (h : chk true l = 0) : crv l = 0 := by
 unfold crv; split <;> simp_all
theorem sumQ_bd : ∀ {l : List (Int × Int)}, (∀ x ∈ l, 1 ≤ x.1 ∧ x.1 ≤ 1000000 ∧ -1000000 ≤ x.2 ∧ x.2 ≤ 1000000) → 0 ≤ sumQ l ∧ sumQ l ≤ 1000000 * l.length
 | [], _ => by simp [sumQ]
 | x :: r, h => by
  have h1 := h x (by simp)
  have h2 := sumQ_bd (l := r) fun y hy => h y (by simp [hy])
  simp only [sumQ, List.length_cons]
  omega
theorem total_bd (l : List (Int × Int)) : 0 ≤ total l ∧ total l ≤ 3000000 := by
 unfold total
 by_cases h : crv l = 0
 ·rw [if_pos h]
  obtain ⟨_, h2, h3⟩ := crv_range h
  have := sumQ_bd h3
  omega
 ·rw [if_neg h]; omega
theorem take_snoc {α : Type} (l : List α) (d : α) {k : Nat} (h : k < l.length) : l.take (k + 1) = l.take k ++ [l.getD k d] := by
 rw [List.take_succ_eq_append_getElem h]
 simp [List.getD, h]
def prevOf (l : List (Int × Int)) : Nat → Option Int
 | 0 => none
 | k + 1 => some (l.getD k (0, 0)).2
theorem chkFrom_next {rise : Bool} {l : List (Int × Int)} {k : Nat} (hk : k < l.length) :
  chkFrom rise (l.drop k) (prevOf l k) = if stepB (l.getD k (0, 0)).1 (l.getD k (0, 0)).2 then (if (match prevOf l k with | none => true | some a => folB rise a (l.getD k (0, 0)).2) then chkFrom rise (l.drop (k + 1)) (prevOf l (k + 1)) else 3) else 1 := by
 rw [List.drop_eq_getElem_cons hk]
 have hg : l.getD k (0, 0) = l[k] := by simp [List.getD, hk]
 simp only [hg, prevOf]
 rfl
def StepsAt (w : World) (A : Option Addr) (n : Nat) (xs : List (Int × Int)) : Prop :=
 xs.length = n ∧ (0 < n → ∃ b off, A = some ⟨b, off, none⟩ ∧ b < w.heap.size ∧ ∀ i, i < n → w.cell? ⟨b, off + i * 2, none⟩ = some (.int .i64 (xs.getD i (0, 0)).1) ∧ w.cell? ⟨b, off + i * 2 + 1, none⟩ = some (.int .i64 (xs.getD i (0, 0)).2))
theorem StepsAt.below {w w' : World} {A : Option Addr} {n : Nat} {xs : List (Int × Int)} (h : StepsAt w A n xs) (hb : Below w.heap.size w w') : StepsAt w' A n xs := by
 refine ⟨h.1, fun hn => ?_⟩
 obtain ⟨b, off, ha, hlt, hc⟩ := h.2 hn
 exact ⟨b, off, ha, Nat.lt_of_lt_of_le hlt hb.size, fun i hi => ⟨(hb.cell (p := ⟨b, off + i * 2, none⟩) hlt).trans (hc i hi).1, (hb.cell (p := ⟨b, off + i * 2 + 1, none⟩) hlt).trans (hc i hi).2⟩⟩
end Go.Proofs.YtjinpfnefeiooaaGreat
namespace Go.Proofs.YtjinpfnefeiooaaGreat
open Go.RowKit

def restR (q : Rat) : List (Int × Int) → Rat
 | [] => q
 | x :: r => restR (q - minQ q x.1) r
theorem restR_append (l r : List (Int × Int)) : ∀ q, restR q (l ++ r) = restR (restR q l) r := by
 induction l with
 | nil => intro q; rfl
 | cons x l ih => intro q; exact ih _
def partAt (q : Rat) (xs : List (Int × Int)) (i : Nat) : Rat := minQ (restR q (xs.take i)) ((xs.getD i (0, 0)).1 : Int)
theorem rest_succ {q : Rat} {xs : List (Int × Int)} {k : Nat} (hk : k < xs.length) : restR q (xs.take (k + 1)) = restR q (xs.take k) - partAt q xs k := by
 rw [take_snoc xs (0, 0) hk, restR_append]
 rfl
def costTo (q : Rat) (xs : List (Int × Int)) : Nat → Rat
 | 0 => 0
 | k + 1 => costTo q xs k + partAt q xs k * ((xs.getD k (0, 0)).2 : Int)
def allocE (xs : List (Int × Int)) (q : Rat) : Int := if crv xs ≠ 0 then crv xs else if q < 0 ∨ ((total xs : Int) : Rat) < q then 1 else 0
theorem Sz.min {k l : Nat} {p q : Rat} (hp : Sz k p) (hq : Sz l q) (hl : l ≤ k) : Sz k (minQ p q) := by
 unfold minQ
 split
 ·exact hq.mono hl
 ·exact hp
theorem sz_small {z : Int} (h1 : -4294967296 < z) (h2 : z < 4294967296) : Sz 1 (z : Rat) := sz_int (by omega) (by omega)
theorem pow2_pos (k : Nat) : 0 < 2 ^ k := Nat.pow_pos (by omega)
theorem sz_rest {q : Rat} {xs : List (Int × Int)} (hq : Sz 1000 q) (hr : ∀ x ∈ xs, 1 ≤ x.1 ∧ x.1 ≤ 1000000 ∧ -1000000 ≤ x.2 ∧ x.2 ≤ 1000000) : ∀ k, k ≤ xs.length → Sz (1001 * 2 ^ k - 1) (restR q (xs.take k))
 | 0, _ => by simpa [restR] using hq
 | k + 1, hk => by
  have ih := sz_rest hq hr k (by omega)
  have hp := pow2_pos k
  have hm : xs.getD k (0, 0) ∈ xs := by simp [List.getD, show k < xs.length by omega]
  have h1 := hr _ hm
  rw [rest_succ (by omega)]
  have hs : Sz 1 (((xs.getD k (0, 0)).1 : Int) : Rat) := sz_small (by omega) (by omega)
  refine (ih.sub (ih.min hs (by omega))).mono ?_
  rw [Nat.pow_succ]
  omega
theorem sz_part {q : Rat} {xs : List (Int × Int)} (hq : Sz 1000 q) (hr : ∀ x ∈ xs, 1 ≤ x.1 ∧ x.1 ≤ 1000000 ∧ -1000000 ≤ x.2 ∧ x.2 ≤ 1000000) (k : Nat) (hk : k < xs.length) : Sz (1001 * 2 ^ k - 1) (partAt q xs k) := by
 have ih := sz_rest hq hr k (by omega)
 have hp := pow2_pos k
 have hm : xs.getD k (0, 0) ∈ xs := by simp [List.getD, show k < xs.length by omega]
 have h1 := hr _ hm
 have hs : Sz 1 (((xs.getD k (0, 0)).1 : Int) : Rat) := sz_small (by omega) (by omega)
 exact ih.min hs (by omega)
theorem sz_zero : Sz 1 (0 : Rat) := by
 have := sz_small (z := 0) (by omega) (by omega)
 simpa using this
theorem sz_cost {q : Rat} {xs : List (Int × Int)} (hq : Sz 1000 q) (hr : ∀ x ∈ xs, 1 ≤ x.1 ∧ x.1 ≤ 1000000 ∧ -1000000 ≤ x.2 ∧ x.2 ≤ 1000000) : ∀ k, k ≤ xs.length → Sz (1003 * 2 ^ k) (costTo q xs k)
 | 0, _ => sz_zero.mono (by decide)
 | k + 1, hk => by
  have ih := sz_cost hq hr k (by omega)
  have hp := pow2_pos k
  have hm : xs.getD k (0, 0) ∈ xs := by simp [List.getD, show k < xs.length by omega]
  have h1 := hr _ hm
  have hs : Sz 1 (((xs.getD k (0, 0)).2 : Int) : Rat) := sz_small (by omega) (by omega)
  refine (ih.add ((sz_part hq hr k (by omega)).mul hs)).mono ?_
  rw [Nat.pow_succ]
  omega
theorem pow2_le {k : Nat} (h : k ≤ 3) : 2 ^ k ≤ 8 := Nat.le_trans (Nat.pow_le_pow_right (by omega) h) (by decide)
def QAt (w : World) (B0 g off : Nat) (q : Rat) : Prop := ∃ (s : Bool) (A : Option Addr) (n c : Nat) (t : Bool) (B : Option Addr) (m d : Nat), w.cell? ⟨g, off, none⟩ = some (.bool s) ∧ w.cell? ⟨g, off + 1, none⟩ = some (.slice A n c) ∧ w.cell? ⟨g, off + 2, none⟩ = some (.bool t) ∧ w.cell? ⟨g, off + 3, none⟩ = some (.slice B m d) ∧ QCan w B0 s A n c t B m d q
theorem QAt.ext {w w' : World} {B0 g off : Nat} {q : Rat} (h : QAt w B0 g off q) (hb : Ext w w') : QAt w' B0 g off q := by
 obtain ⟨s, A, n, c, t, B, m, d, h0, h1, h2, h3, h4⟩ := h
 exact ⟨s, A, n, c, t, B, m, d, Ext.cellOf hb h0, Ext.cellOf hb h1, Ext.cellOf hb h2, Ext.cellOf hb h3, h4.ext hb⟩
def Row4 (w : World) (g n : Nat) : Prop := g < w.heap.size ∧ (∀ j, j < n * 4 → ∃ v, w.cell? ⟨g, j, none⟩ = some v) ∧ ∀ j, w.frozen? ⟨g, j, none⟩ = false
theorem Row4.ext {w w' : World} {g n : Nat} (h : Row4 w g n) (hb : Ext w w') : Row4 w' g n :=
 ⟨Nat.lt_of_lt_of_le h.1 hb.size, fun j hj => (h.2.1 j hj).imp fun _ hv => Ext.cellOf hb hv, fun j => (hb.frozen (p := ⟨g, j, none⟩) h.1).trans (h.2.2 j)⟩
def PartsAt (w : World) (B0 g n k : Nat) (f : Nat → Rat) : Prop := Row4 w g n ∧ ∀ i, i < k → QAt w B0 g (i * 4) (f i)
theorem PartsAt.ext {w w' : World} {B0 g n k : Nat} {f : Nat → Rat} (h : PartsAt w B0 g n k f) (hb : Ext w w') : PartsAt w' B0 g n k f := ⟨h.1.ext hb, fun i hi => (h.2 i hi).ext hb⟩
abbrev put4 (w : World) (g off : Nat) (v0 v1 v2 v3 : Value) : World := (((w.setCell ⟨g, off, none⟩ v0).setCell ⟨g, off + 1, none⟩ v1).setCell ⟨g, off + 2, none⟩ v2).setCell ⟨g, off + 3, none⟩ v3
theorem put4_far {w : World} {g off g' o' : Nat} (v0 v1 v2 v3 : Value) (h : g ≠ g' ∨ o' < off ∨ off + 3 < o') : (put4 w g off v0 v1 v2 v3).cell? ⟨g', o', none⟩ = w.cell? ⟨g', o', none⟩ := by
 unfold put4
 rw [World.cell?_setCell_other, World.cell?_setCell_other, World.cell?_setCell_other, World.cell?_setCell_other] <;> (intro hh; injection hh; omega)
theorem put4_frozen (w : World) (g off : Nat) (v0 v1 v2 v3 : Value) (p : Addr) : (put4 w g off v0 v1 v2 v3).frozen? p = w.frozen? p := by
 unfold put4
 rw [World.frozen?_setCell, World.frozen?_setCell, World.frozen?_setCell, World.frozen?_setCell]
theorem put4_size (w : World) (g off : Nat) (v0 v1 v2 v3 : Value) : (put4 w g off v0 v1 v2 v3).heap.size = w.heap.size := by simp [put4, World.setCell]
theorem put4_here {w : World} {g off : Nat} (v0 v1 v2 v3 : Value) (h0 : ∃ v, w.cell? ⟨g, off, none⟩ = some v) (h1 : ∃ v, w.cell? ⟨g, off + 1, none⟩ = some v) (h2 : ∃ v, w.cell? ⟨g, off + 2, none⟩ = some v) (h3 : ∃ v, w.cell? ⟨g, off + 3, none⟩ = some v) :
  (put4 w g off v0 v1 v2 v3).cell? ⟨g, off, none⟩ = some v0 ∧ (put4 w g off v0 v1 v2 v3).cell? ⟨g, off + 1, none⟩ = some v1 ∧ (put4 w g off v0 v1 v2 v3).cell? ⟨g, off + 2, none⟩ = some v2 ∧ (put4 w g off v0 v1 v2 v3).cell? ⟨g, off + 3, none⟩ = some v3 := by
 obtain ⟨u0, h0⟩ := h0
 obtain ⟨u1, h1⟩ := h1
 obtain ⟨u2, h2⟩ := h2
 obtain ⟨u3, h3⟩ := h3
 have ne : ∀ {i j : Nat}, i ≠ j → (⟨g, i, none⟩ : Addr) ≠ ⟨g, j, none⟩ := fun hij hh => hij (by injection hh)
 unfold put4
 refine ⟨?_, ?_, ?_, ?_⟩
 ·rw [World.cell?_setCell_other _ _ _ _ (ne (by omega)), World.cell?_setCell_other _ _ _ _ (ne (by omega)), World.cell?_setCell_other _ _ _ _ (ne (by omega))]
  exact World.cell?_setCell_same' _ _ _ (by rw [h0]; rfl)
 ·rw [World.cell?_setCell_other _ _ _ _ (ne (by omega)), World.cell?_setCell_other _ _ _ _ (ne (by omega))]
  exact World.cell?_setCell_same' _ _ _ (by rw [World.cell?_setCell_other _ _ _ _ (ne (by omega)), h1]; rfl)
 ·rw [World.cell?_setCell_other _ _ _ _ (ne (by omega))]
  exact World.cell?_setCell_same' _ _ _ (by rw [World.cell?_setCell_other _ _ _ _ (ne (by omega)), World.cell?_setCell_other _ _ _ _ (ne (by omega)), h2]; rfl)
 ·exact World.cell?_setCell_same' _ _ _ (by rw [World.cell?_setCell_other _ _ _ _ (ne (by omega)), World.cell?_setCell_other _ _ _ _ (ne (by omega)), World.cell?_setCell_other _ _ _ _ (ne (by omega)), h3]; rfl)
theorem QCan.put4 {w : World} {B0 : Nat} {s : Bool} {A : Option Addr} {n c : Nat} {t : Bool} {B : Option Addr} {m d : Nat} {q : Rat} (h : QCan w B0 s A n c t B m d q) {g : Nat} (hg : g < B0) (off : Nat) (v0 v1 v2 v3 : Value) : QCan (put4 w g off v0 v1 v2 v3) B0 s A n c t B m d q :=
 (((h.put (p := ⟨g, off, none⟩) hg v0).put (p := ⟨g, off + 1, none⟩) hg v1).put (p := ⟨g, off + 2, none⟩) hg v2).put (p := ⟨g, off + 3, none⟩) hg v3
theorem ext_put4 {w w1 : World} (h : Ext w w1) {g : Nat} (hg : w.heap.size ≤ g) (off : Nat) (v0 v1 v2 v3 : Value) : Ext w (put4 w1 g off v0 v1 v2 v3) :=
 Below.setCell (Below.setCell (Below.setCell (Below.setCell h (p := ⟨g, off, none⟩) hg v0) (p := ⟨g, off + 1, none⟩) hg v1) (p := ⟨g, off + 2, none⟩) hg v2) (p := ⟨g, off + 3, none⟩) hg v3
theorem Row4.put4 {w : World} {g n : Nat} (h : Row4 w g n) (g' off : Nat) (v0 v1 v2 v3 : Value) (hh : g' ≠ g ∨ off + 3 < n * 4) : Row4 (put4 w g' off v0 v1 v2 v3) g n := by
 refine ⟨by rw [put4_size]; exact h.1, fun j hj => ?_, fun j => by rw [put4_frozen]; exact h.2.2 j⟩
 by_cases he : g' ≠ g ∨ j < off ∨ off + 3 < j
 ·rw [put4_far v0 v1 v2 v3 (by rcases he with he | he | he; exact .inl he; exact .inr (.inl he); exact .inr (.inr he))]
  exact h.2.1 j hj
 ·have he1 : g' = g := by omega
  subst he1
  have hr : off + 3 < n * 4 := by
   rcases hh with hh | hh
   ·exact absurd rfl hh
   ·exact hh
  obtain ⟨p0, p1, p2, p3⟩ := put4_here (w := w) (g := g') (off := off) v0 v1 v2 v3 (h.2.1 _ (by omega)) (h.2.1 _ (by omega)) (h.2.1 _ (by omega)) (h.2.1 _ (by omega))
  have hj4 : j = off ∨ j = off + 1 ∨ j = off + 2 ∨ j = off + 3 := by omega
  rcases hj4 with rfl | rfl | rfl | rfl
  ·exact ⟨_, p0⟩
  ·exact ⟨_, p1⟩
  ·exact ⟨_, p2⟩
  ·exact ⟨_, p3⟩
theorem PartsAt.put {w : World} {B0 g n k : Nat} {f : Nat → Rat} (h : PartsAt w B0 g n k f) (hk : k < n) (hg : g < B0) {s : Bool} {A : Option Addr} {i c : Nat} {t : Bool} {B : Option Addr} {m d : Nat} (hq : QCan w B0 s A i c t B m d (f k)) :
  PartsAt (put4 w g (k * 4) (.bool s) (.slice A i c) (.bool t) (.slice B m d)) B0 g n (k + 1) f := by
 refine ⟨h.1.put4 _ _ _ _ _ _ (.inr (by omega)), fun j hj => ?_⟩
 by_cases he : j = k
 ·subst he
  obtain ⟨p0, p1, p2, p3⟩ := put4_here (w := w) (g := g) (off := j * 4) (.bool s) (.slice A i c) (.bool t) (.slice B m d) (h.1.2.1 _ (by omega)) (h.1.2.1 _ (by omega)) (h.1.2.1 _ (by omega)) (h.1.2.1 _ (by omega))
  exact ⟨s, A, i, c, t, B, m, d, p0, p1, p2, p3, hq.put4 hg _ _ _ _ _⟩
 ·obtain ⟨s', A', n', c', t', B', m', d', h0, h1, h2, h3, h4⟩ := h.2 j (by omega)
  refine ⟨s', A', n', c', t', B', m', d', ?_, ?_, ?_, ?_, h4.put4 hg _ _ _ _ _⟩
  ·rw [put4_far _ _ _ _ (.inr (.inl (by omega)))]; exact h0
  ·rw [put4_far _ _ _ _ (.inr (.inl (by omega)))]; exact h1
  ·rw [put4_far _ _ _ _ (.inr (.inl (by omega)))]; exact h2
  ·rw [put4_far _ _ _ _ (.inr (.inl (by omega)))]; exact h3
theorem PartsAt.far {w : World} {B0 g n k : Nat} {f : Nat → Rat} (h : PartsAt w B0 g n k f) {g' : Nat} (hne : g' ≠ g) (hg : g' < B0) (off : Nat) (v0 v1 v2 v3 : Value) : PartsAt (put4 w g' off v0 v1 v2 v3) B0 g n k f := by
 refine ⟨h.1.put4 _ _ _ _ _ _ (.inl hne), fun j hj => ?_⟩
 obtain ⟨s', A', n', c', t', B', m', d', h0, h1, h2, h3, h4⟩ := h.2 j hj
 refine ⟨s', A', n', c', t', B', m', d', ?_, ?_, ?_, ?_, h4.put4 hg _ _ _ _ _⟩
 ·rw [put4_far _ _ _ _ (.inl hne)]; exact h0
 ·rw [put4_far _ _ _ _ (.inl hne)]; exact h1
 ·rw [put4_far _ _ _ _ (.inl hne)]; exact h2
 ·rw [put4_far _ _ _ _ (.inl hne)]; exact h3
def Away (lo hi : Nat) (A : Option Addr) (n : Nat) : Prop := 0 < n → ∀ ad, A = some ad → ad.block < lo ∨ hi ≤ ad.block
theorem WordsAt.away {w : World} {A : Option Addr} {n : Nat} {xs : List Nat} (h : WordsAt w A n xs) (hi : Nat) : Away w.heap.size hi A n := fun hn ad ha => by
 obtain ⟨b, off, e, hl, _⟩ := h.2.2 hn
 rw [e] at ha
 injection ha with ha
 subst ha
 exact .inl hl
theorem Fresh.away {w : World} {B : Nat} {A : Option Addr} (h : Fresh w B A) (lo n : Nat) : Away lo B A n := fun _ ad ha => by
 obtain ⟨b, off, e, hB, _⟩ := h ad ha
 subst e
 exact .inr hB
theorem WordsAt.putAway {w : World} {A : Option Addr} {n : Nat} {xs : List Nat} (h : WordsAt w A n xs) {lo hi : Nat} (ha : Away lo hi A n) {p : Addr} (h1 : lo ≤ p.block) (h2 : p.block < hi) (v : Value) : WordsAt (w.setCell p v) A n xs := by
 refine ⟨h.1, h.2.1, fun hn => ?_⟩
 obtain ⟨b, off, e, hl, hc⟩ := h.2.2 hn
 have hb : b ≠ p.block := by
  have := ha hn _ e
  simp only at this
  omega
 refine ⟨b, off, e, by simpa [World.setCell] using hl, fun i hi => ?_⟩
 rw [← hc i hi]
 exact World.cell?_of_block (Below.heap_setCell w p v b hb)
theorem ZIs.putAway {w : World} {s : Bool} {A : Option Addr} {n c : Nat} {z : Int} (h : ZIs w s A n c z) {lo hi : Nat} (ha : Away lo hi A n) {p : Addr} (h1 : lo ≤ p.block) (h2 : p.block < hi) (v : Value) : ZIs (w.setCell p v) s A n c z := by
 obtain ⟨xs, h3, h4⟩ := h
 exact ⟨xs, h3.putAway ha h1 h2 v, h4⟩
theorem QArg.put4Away {w : World} {s : Bool} {A : Option Addr} {n c : Nat} {t : Bool} {B : Option Addr} {m d : Nat} {q : Rat} (h : QArg w s A n c t B m d q) {lo hi : Nat} (ha : Away lo hi A n) (hb : Away lo hi B m) {g : Nat} (h1 : lo ≤ g) (h2 : g < hi) (off : Nat) (v0 v1 v2 v3 : Value) : QArg (Go.Proofs.YtjinpfnefeiooaaGreat.put4 w g off v0 v1 v2 v3) s A n c t B m d q := by
 obtain ⟨⟨z, y, hz, hy, hq⟩, hl⟩ := h
 refine ⟨⟨z, y, ?_, ?_, hq⟩, hl⟩
 ·exact (((hz.putAway ha (p := ⟨g, off, none⟩) h1 h2 v0).putAway ha (p := ⟨g, off + 1, none⟩) h1 h2 v1).putAway ha (p := ⟨g, off + 2, none⟩) h1 h2 v2).putAway ha (p := ⟨g, off + 3, none⟩) h1 h2 v3
 ·exact (((hy.putAway hb (p := ⟨g, off, none⟩) h1 h2 v0).putAway hb (p := ⟨g, off + 1, none⟩) h1 h2 v1).putAway hb (p := ⟨g, off + 2, none⟩) h1 h2 v2).putAway hb (p := ⟨g, off + 3, none⟩) h1 h2 v3
theorem QIs.away {w : World} {s : Bool} {A : Option Addr} {n c : Nat} {t : Bool} {B : Option Addr} {m d : Nat} {q : Rat} (h : QIs w s A n c t B m d q) (hi : Nat) : Away w.heap.size hi A n ∧ Away w.heap.size hi B m := by
 obtain ⟨z, y, ⟨xs, h1, _⟩, ⟨ys, h2, _⟩, _⟩ := h
 exact ⟨h1.away hi, h2.away hi⟩
theorem QCan.away {w : World} {B0 : Nat} {s : Bool} {A : Option Addr} {n c : Nat} {t : Bool} {B : Option Addr} {m d : Nat} {q : Rat} (h : QCan w B0 s A n c t B m d q) (lo : Nat) : Away lo B0 A n ∧ Away lo B0 B m := ⟨h.1.2.2.2.2.away lo n, h.2.2.2.2.2.away lo m⟩
end Go.Proofs.YtjinpfnefeiooaaGreat
namespace Go.Proofs.YtjinpfnefeiooaaGreat
open Go.RowKit

set_option maxHeartbeats 400000 in
theorem rising1_any (a b : Int) (w : World) :
  Calls Tryz.prog 107 #[.int .i64 a, .int .i64 b] w fun e w' => e = .returned (.bool (decide (a < b))) ∧ w = w' := by
 go_enter Tryz.func107, Tryz.ntmps107
 go_wp2
 go_ret
 exact ⟨rfl, rfl⟩
set_option maxHeartbeats 400000 in
theorem falling1_any (a b : Int) (w : World) :
  Calls Tryz.prog 143 #[.int .i64 a, .int .i64 b] w fun e w' => e = .returned (.bool (decide (b < a))) ∧ w = w' := by
 go_enter Tryz.func143, Tryz.ntmps143
 go_wp2
 go_ret
 exact ⟨rfl, rfl⟩
set_option maxHeartbeats 400000 in
theorem rising_any (w : World) :
  Calls Tryz.prog 77 #[] w fun e w' => e = .returned (.agg #[.func (.func 107) #[] #[]]) ∧ Below w.heap.size w w' := by
 go_enter Tryz.func77, Tryz.ntmps77
 go_wp2
 exact bodyPost_ret (v := .agg #[.func (.func 107) #[] #[]]) (by simp [results, Tryz.results77, go_sem]) rfl ⟨rfl, (Below.refl _ _).alloc (Nat.le_refl _) _⟩
set_option maxHeartbeats 400000 in
theorem falling_any (w : World) :
  Calls Tryz.prog 133 #[] w fun e w' => e = .returned (.agg #[.func (.func 143) #[] #[]]) ∧ Below w.heap.size w w' := by
 go_enter Tryz.func133, Tryz.ntmps133
 go_wp2
 exact bodyPost_ret (v := .agg #[.func (.func 143) #[] #[]]) (by simp [results, Tryz.results133, go_sem]) rfl ⟨rfl, (Below.refl _ _).alloc (Nat.le_refl _) _⟩
def dirF (rise : Bool) : Nat := if rise then 107 else 143
theorem dirF_any (rise : Bool) (a b : Int) (w : World) :
  Calls Tryz.prog (dirF rise) #[.int .i64 a, .int .i64 b] w fun e w' => e = .returned (.bool (folB rise a b)) ∧ w = w' := by
 cases rise
 ·exact falling1_any a b w
 ·exact rising1_any a b w
theorem dirF_call (rise : Bool) (x y : Value) (w : World) : Sem.run Tryz.prog (callFunc (dirF rise) #[x, y]) w = .ok (.enter (dirF rise) #[x, y]) w := by
 cases rise <;> simp [dirF, go_sem]
set_option maxHeartbeats 1000000 in
theorem check_any (rise : Bool) (A : Option Addr) (n c : Nat) (xs : List (Int × Int)) (w : World) (hs : StepsAt w A n xs) (hn : n ≤ maxLen) :
  Calls Tryz.prog 78 #[.agg #[.func (.func (dirF rise)) #[] #[]], .slice A n c] w fun e w' => e = .returned (.int .i64 (chk rise xs)) ∧ Below w.heap.size w w' := by
 unfold maxLen at hn
 obtain ⟨hl, hc⟩ := hs
 have HL := LH hl; clear hl
 by_cases h0 : n = 0
 ·subst h0
  go_enter Tryz.func78, Tryz.ntmps78
  go_wp2
  go_ret
  exact ⟨by simp [chk, HL.out], (Below.refl _ _).alloc (Nat.le_refl _) _⟩
 by_cases h3 : 3 < n
 ·have hb0 : ((n : Int) == 0) = false := by simp; omega
  go_enter Tryz.func78, Tryz.ntmps78
  go_wp2
  go_ret
  exact ⟨by simp [chk, HL.out, h3, h0], (Below.refl _ _).alloc (Nat.le_refl _) _⟩
 obtain ⟨b, off, rfl, hlt, hcell⟩ := hc (by omega)
 have HC := LH hcell; clear hcell hc
 have hb0 : ((n : Int) == 0) = false := by simp; omega
 have hb3 : decide (3 < (n : Int)) = false := by simp; omega
 have hchk : chk rise xs = chkFrom rise (xs.drop 0) (prevOf xs 0) := by simp [chk, HL.out, h0, h3, prevOf]
 have HK := LH hchk; clear hchk
 go_enter Tryz.func78, Tryz.ntmps78
 go_wp2
 go_loopw [15] (fun i wr => ∃ k : Nat, k ≤ n ∧ i = .int .i64 k ∧ Below (w.heap.size + 1) (w.alloc (.cells #[.func (.func (dirF rise)) #[] #[]] 103)) wr ∧ Hid (chk rise xs = chkFrom rise (xs.drop k) (prevOf xs k))) (fun i _ => n - (intOf i).toNat)
 case atStart => exact ⟨0, Nat.zero_le _, rfl, Below.refl _ _, HK⟩
 case round =>
  obtain ⟨k, hk, rfl, hbw, HI⟩ := hrel
  have hbB : Below w.heap.size w wr := ((Below.refl _ _).alloc (Nat.le_refl _) _).trans (hbw.mono (by omega))
  by_cases hlt2 : k < n
  ·obtain ⟨c1, c2⟩ := HC.out k hlt2
   have d1 : wr.cell? ⟨b, off + k * 2, none⟩ = some (.int .i64 (xs.getD k (0, 0)).1) := by
    rw [hbw.cell (p := ⟨b, off + k * 2, none⟩) (by simp; omega)]; simp [go_sem, c1, hlt]
   have d2 : wr.cell? ⟨b, off + k * 2 + 1, none⟩ = some (.int .i64 (xs.getD k (0, 0)).2) := by
    rw [hbw.cell (p := ⟨b, off + k * 2 + 1, none⟩) (by simp; omega)]; simp [go_sem, c2, hlt]
   have d3 : wr.cell? ⟨w.heap.size, 0, none⟩ = some (.func (.func (dirF rise)) #[] #[]) := by
    rw [hbw.cell (p := ⟨w.heap.size, 0, none⟩) (by simp)]; simp [go_sem]
   have hsz : w.heap.size < wr.heap.size := by have := hbw.size; simp at this; omega
   have hsb : b < wr.heap.size := by omega
   have HN := LH (chkFrom_next (rise := rise) (l := xs) (k := k) (by rw [HL.out]; exact hlt2))
   have hbv : decide ((k : Int) < (n : Int)) = true := by simp; omega
   generalize hq : (xs.getD k (0, 0)).1 = q at *
   generalize hp : (xs.getD k (0, 0)).2 = p at *
   have HP := LH hp; clear hq hp c1 c2
   by_cases hst : stepB q p = true
   ·have hst' := hst
    simp only [stepB, Bool.and_eq_true, decide_eq_true_eq] at hst'
    obtain ⟨⟨⟨g1, g2⟩, g3⟩, g4⟩ := hst'
    have HS := LH hst; clear hst
    by_cases hk0 : k = 0
    ·have hk1 : decide (0 < k) = false := by simp; omega
     have HK0 := LH hk0; clear hk0
     go_wp2
     go_quiet (fail)
     go_wp2
     go_roundw
     case rel =>
      refine ⟨k + 1, by omega, by go_num, below_drewN (hbw.alloc (by omega) _) _, ?_⟩
      have h1 := HI.out
      have h2 : prevOf xs k = none := by rw [HK0.out]; rfl
      rw [HN.out, if_pos HS.out, h2] at h1
      exact h1
     case measure => simp [intOf]; omega
    ·have hk1 : 0 < k := by omega
     obtain ⟨_, c3⟩ := HC.out (k - 1) (by omega)
     have d4 : wr.cell? ⟨b, off + (k - 1) * 2 + 1, none⟩ = some (.int .i64 (xs.getD (k - 1) (0, 0)).2) := by
      rw [hbw.cell (p := ⟨b, off + (k - 1) * 2 + 1, none⟩) (by simp; omega)]; simp [go_sem, c3, hlt]
     clear c3
     have hpv : prevOf xs k = some (xs.getD (k - 1) (0, 0)).2 := by
      obtain ⟨j, rfl⟩ : ∃ j, k = j + 1 := ⟨k - 1, by omega⟩
      rfl
     generalize (xs.getD (k - 1) (0, 0)).2 = p0 at *
     have HV := LH hpv; clear hpv
     have hx : (1 : Int) ≤ (k : Int) := by omega
     have hcf := dirF_call rise
     have hx3 : (k : Int) - 1 < (n : Int) := by omega
     have hx2 : ((k : Int) - 1).toNat = k - 1 := by omega
     have hx1 : IntKind.i64.wrap ((k : Int) - 1) = (k : Int) - 1 := IntWalk.i64_in _ (by omega)
     go_wp2
     go_quiet (exact quiet_eq (dirF_any rise _ _ _))
     clear hx1 hx2 hx3
     cases hfo : folB rise p0 p
     ·go_wp2
      go_ret
      refine ⟨?_, below_drewN (hbB.alloc (by omega) _) _⟩
      have h1 := HI.out
      rw [HN.out, if_pos HS.out, HV.out] at h1
      simp only [hfo, Bool.false_eq_true, if_false] at h1
      rw [h1]
      rfl
     ·go_wp2
      go_roundw
      case rel =>
       refine ⟨k + 1, by omega, by go_num, below_drewN (hbw.alloc (by omega) _) _, ?_⟩
       have h1 := HI.out
       rw [HN.out, if_pos HS.out, HV.out] at h1
       simp only [hfo, if_true] at h1
       exact h1
      case measure => simp [intOf]; omega
   ·have hbad : q < 1 ∨ 1000000 < q ∨ p < -1000000 ∨ 1000000 < p := by
     simp only [stepB, Bool.and_eq_true, decide_eq_true_eq] at hst
     omega
    have HS := LH hst; clear hst
    go_wp2
    all_goals
     go_ret
     refine ⟨?_, hbB.alloc (by omega) _⟩
     have h1 := HI.out
     rw [HN.out, if_neg HS.out] at h1
     rw [h1]
     rfl
  ·have hbv : decide ((k : Int) < (n : Int)) = false := by simp; omega
   go_wp2
   go_ret
   refine ⟨?_, hbB⟩
   have h1 := HI.out
   rw [List.drop_eq_nil_of_le (by rw [HL.out]; omega)] at h1
   rw [h1]
   rfl
set_option maxHeartbeats 400000 in
theorem checkOffer_any (A : Option Addr) (n c : Nat) (xs : List (Int × Int)) (w : World) (hs : StepsAt w A n xs) (hn : n ≤ maxLen) :
  Calls Tryz.prog 48 #[.slice A n c] w fun e w' => e = .returned (.int .i64 (chk true xs)) ∧ Ext w w' := by
 go_enter Tryz.func48, Tryz.ntmps48
 go_wp2_with fail
 refine (rising_any _).mono ?_
 rintro e w1 ⟨rfl, hb1⟩
 go_wp2_with fail
 refine (check_any true A n c xs w1 (hs.below hb1) hn).mono ?_
 rintro e w2 ⟨rfl, hb2⟩
 go_wp2_with fail
 go_ret
 exact ⟨rfl, ET hb1 hb2⟩
set_option maxHeartbeats 400000 in
theorem checkBid_any (A : Option Addr) (n c : Nat) (xs : List (Int × Int)) (w : World) (hs : StepsAt w A n xs) (hn : n ≤ maxLen) :
  Calls Tryz.prog 108 #[.slice A n c] w fun e w' => e = .returned (.int .i64 (chk false xs)) ∧ Ext w w' := by
 go_enter Tryz.func108, Tryz.ntmps108
 go_wp2_with fail
 refine (falling_any _).mono ?_
 rintro e w1 ⟨rfl, hb1⟩
 go_wp2_with fail
 refine (check_any false A n c xs w1 (hs.below hb1) hn).mono ?_
 rintro e w2 ⟨rfl, hb2⟩
 go_wp2_with fail
 go_ret
 exact ⟨rfl, ET hb1 hb2⟩
set_option maxHeartbeats 400000 in
theorem checkCurve_any (A : Option Addr) (n c : Nat) (xs : List (Int × Int)) (w : World) (hs : StepsAt w A n xs) (hn : n ≤ maxLen) :
  Calls Tryz.prog 79 #[.slice A n c] w fun e w' => e = .returned (.int .i64 (crv xs)) ∧ Ext w w' := by
 go_enter Tryz.func79, Tryz.ntmps79
 go_wp2_with fail
 refine (checkBid_any A n c xs w hs hn).mono ?_
 rintro e w1 ⟨rfl, hb1⟩
 by_cases h0 : chk false xs = 0
 ·have hb : (chk false xs == 0) = true := by simp [h0]
  have H0 := LH h0; clear h0
  go_wp2_with fail
  go_ret
  exact ⟨by unfold crv; rw [if_pos H0.out]; rfl, hb1⟩
 ·have hb : (chk false xs == 0) = false := by simp [h0]
  have H0 := LH h0; clear h0
  go_wp2_with fail
  refine (checkOffer_any A n c xs w1 (hs.below hb1) hn).mono ?_
  rintro e w2 ⟨rfl, hb2⟩
  go_wp2_with fail
  go_ret
  exact ⟨by unfold crv; rw [if_neg H0.out]; rfl, ET hb1 hb2⟩
theorem ret_int {k : IntKind} {a b : Int} (h : a = b) : Ending.returned (.int k a) = .returned (.int k b) := by rw [h]
theorem ret_bool {a b : Bool} (h : a = b) : Ending.returned (.bool a) = .returned (.bool b) := by rw [h]
set_option maxHeartbeats 800000 in
theorem sum_any (A : Option Addr) (n c : Nat) (xs : List (Int × Int)) (w : World) (hs : StepsAt w A n xs) (hn : n ≤ maxLen) :
  Calls Tryz.prog 49 #[.slice A n c] w fun e w' => e = .returned (.int .i64 (total xs)) ∧ Ext w w' := by
 go_enter Tryz.func49, Tryz.ntmps49
 go_wp2_with fail
 refine (checkCurve_any A n c xs w hs hn).mono ?_
 rintro e w1 ⟨rfl, hb1⟩
 by_cases h0 : crv xs = 0
 ·have hb : (crv xs != 0) = false := by simp [h0]
  obtain ⟨hl1, hl3, hr⟩ := crv_range h0
  have hn3 : n ≤ 3 := by rw [← hs.1]; exact hl3
  have hn1 : 1 ≤ n := by rw [← hs.1]; exact hl1
  obtain ⟨b, off, rfl, hlt, hcell⟩ := (hs.below hb1).2 (by omega)
  have HL := LH hs.1
  have HR := LH hr
  have HC := LH hcell
  have H0 := LH h0; clear h0 hcell hl1 hl3 hr
  go_wp2_with fail
  go_loopw [3, 11] (fun s i wr => ∃ k : Nat, k ≤ n ∧ i = .int .i64 k ∧ s = .int .i64 (sumQ (xs.take k)) ∧ Ext w1 wr) (fun _ i _ => n - (intOf i).toNat)
  case atStart => exact ⟨0, Nat.zero_le _, rfl, rfl, Ext.rfl'⟩
  case round =>
   obtain ⟨k, hk, rfl, rfl, hbw⟩ := hrel
   have hbd := sumQ_bd (l := xs.take k) fun y hy => HR.out y (List.mem_of_mem_take hy)
   have hlk : (xs.take k).length ≤ 3 := by simp; omega
   by_cases hlt2 : k < n
   ·obtain ⟨c1, c2⟩ := HC.out k hlt2
    have d1 := Ext.cellOf hbw c1
    have d2 := Ext.cellOf hbw c2
    have hbv : decide ((k : Int) < (n : Int)) = true := by simp; omega
    have hsb : b < wr.heap.size := Nat.lt_of_lt_of_le hlt hbw.size
    have HT : Hid (sumQ (xs.take (k + 1)) = sumQ (xs.take k) + (xs.getD k (0, 0)).1) := by
     rw [take_snoc xs (0, 0) (by rw [HL.out]; exact hlt2), sumQ_append]; simp [sumQ, Hid]
    have hmem : xs.getD k (0, 0) ∈ xs := by
     have : k < xs.length := by rw [HL.out]; exact hlt2
     simp [List.getD, this]
    have hr1 := HR.out _ hmem
    generalize (xs.getD k (0, 0)).1 = q at *
    generalize (xs.getD k (0, 0)).2 = p at *
    generalize sumQ (xs.take k) = s0 at *
    clear c1 c2 hmem
    obtain ⟨r1, r2, _, _⟩ := hr1
    have hs0 : s0 ≤ 3000000 := by omega
    go_wp2_with fail
    go_roundw
    case rel => exact ⟨k + 1, by omega, by go_num, by rw [HT.out], Ext.al hbw _⟩
    case measure => simp [intOf]; omega
   ·have hbv : decide ((k : Int) < (n : Int)) = false := by simp; omega
    go_wp2_with fail
    go_ret
    refine ⟨ret_int ?_, ET hb1 hbw⟩
    unfold total
    rw [if_pos H0.out, List.take_of_length_le (by rw [HL.out]; omega)]
 ·have hb : (crv xs != 0) = true := by simp [h0]
  have H0 := LH h0; clear h0
  go_wp2_with fail
  go_ret
  exact ⟨by unfold total; rw [if_neg H0.out]; rfl, hb1⟩
end Go.Proofs.YtjinpfnefeiooaaGreat
namespace Go.Proofs.YtjinpfnefeiooaaGreat
open Go.RowKit

theorem info_q : (Tryz.prog.info? 29).map (fun i => (i.zero, i.size, i.bytes)) = some (some (.agg #[.bool false, .slice none 0 0, .bool false, .slice none 0 0]), 4, 64) := by kernel_rfl
theorem make_qs (k : Nat) (hk : k ≤ 4294967296) (w : World) : (Instr.makeSlice 30 (.int .i64 (k : Int)) (.int .i64 (k : Int))).run Tryz.prog w = .ok (.slice (some ⟨w.heap.size, 0, none⟩) k k) (w.alloc (.cells (madeCells #[.bool false, .slice none 0 0, .bool false, .slice none 0 0] (k * 4)) 29)) := by
 obtain ⟨i0, hi, hz0, hz1, hz2⟩ := info_parts info_q
 have hr := run_make (P := Tryz.prog) w 30 29 i0 _ Tryz.underlying30 hi hz0 .i64 .i64 k k (by omega) (by omega) (by rw [hz2]; omega) (by omega)
 simp only [Int.toNat_natCast, hz1] at hr
 exact hr
theorem row4_made (w : World) (k : Nat) (zs : Array Value) (t : TypeId) : Row4 (w.alloc (.cells (madeCells zs (k * 4)) t)) w.heap.size k := by
 have hb : Blk (w.alloc (.cells (madeCells zs (k * 4)) t)) w.heap.size t (madeCells zs (k * 4)) := Blk.new w t _
 refine ⟨by simp, fun j hj => ?_, fun j => hb.frozen j⟩
 rw [hb.cell j]
 have : j < (madeCells zs (k * 4)).size := by rw [size_madeCells]; exact hj
 exact ⟨_, Array.getElem?_eq_getElem this⟩
theorem Cell4.put4 {w : World} {k : Nat} {u0 u1 u2 u3 : Value} (h : Cell4 w k u0 u1 u2 u3) (v0 v1 v2 v3 : Value) : Cell4 (put4 w k 0 v0 v1 v2 v3) k v0 v1 v2 v3 := by
 have hp := put4_here (w := w) (g := k) (off := 0) v0 v1 v2 v3 ⟨_, h.1.1⟩ ⟨_, h.1.2.1⟩ ⟨_, h.1.2.2.1⟩ ⟨_, h.1.2.2.2⟩
 refine ⟨hp, ⟨?_, ?_, ?_, ?_⟩, by rw [put4_size]; exact h.2.2⟩ <;> rw [put4_frozen]
 ·exact h.2.1.1
 ·exact h.2.1.2.1
 ·exact h.2.1.2.2.1
 ·exact h.2.1.2.2.2
theorem Cell4.far4 {w : World} {k g off : Nat} {u0 u1 u2 u3 : Value} (h : Cell4 w k u0 u1 u2 u3) (hg : g ≠ k) (v0 v1 v2 v3 : Value) : Cell4 (Go.Proofs.YtjinpfnefeiooaaGreat.put4 w g off v0 v1 v2 v3) k u0 u1 u2 u3 := by
 refine ⟨⟨?_, ?_, ?_, ?_⟩, ⟨?_, ?_, ?_, ?_⟩, by rw [put4_size]; exact h.2.2⟩
 ·rw [put4_far _ _ _ _ (.inl hg)]; exact h.1.1
 ·rw [put4_far _ _ _ _ (.inl hg)]; exact h.1.2.1
 ·rw [put4_far _ _ _ _ (.inl hg)]; exact h.1.2.2.1
 ·rw [put4_far _ _ _ _ (.inl hg)]; exact h.1.2.2.2
 ·rw [put4_frozen]; exact h.2.1.1
 ·rw [put4_frozen]; exact h.2.1.2.1
 ·rw [put4_frozen]; exact h.2.1.2.2.1
 ·rw [put4_frozen]; exact h.2.1.2.2.2
def RetAlloc (w : World) (xs : List (Int × Int)) (q : Rat) (e : Ending) (w' : World) : Prop := Ext w w' ∧ ∃ v, e = .returned (.tuple #[v, .int .i64 (allocE xs q)]) ∧ (allocE xs q ≠ 0 → v = .slice none 0 0) ∧ (allocE xs q = 0 → ∃ g, v = .slice (some ⟨g, 0, none⟩) xs.length xs.length ∧ w.heap.size ≤ g ∧ PartsAt w' w.heap.size g xs.length xs.length (partAt q xs))
theorem ret_e {v : Value} {a b : Int} (h : a = b) : Ending.returned (.tuple #[v, .int .i64 a]) = .returned (.tuple #[v, .int .i64 b]) := by rw [h]
theorem sign_neg_iff (q : Rat) : q.num.sign < 0 ↔ q < 0 := by
 rw [Int.sign_neg_iff, ← Rat.not_le, ← Rat.num_nonneg]
 omega
set_option maxRecDepth 100000 in
set_option maxHeartbeats 8000000 in
theorem allocate_any (A : Option Addr) (n c : Nat) (xs : List (Int × Int)) (s1 : Bool) (A1 : Option Addr) (n1 c1 : Nat) (t1 : Bool) (B1 : Option Addr) (m1 d1 : Nat) (q : Rat) (w : World) (hs : StepsAt w A n xs) (hn : n ≤ maxLen) (h1 : QIs w s1 A1 n1 c1 t1 B1 m1 d1 q) (l1 : n1 ≤ 1000) (l2 : m1 ≤ 1000) :
  Calls Tryz.prog 51 #[.slice A n c, .agg #[.bool s1, .slice A1 n1 c1, .bool t1, .slice B1 m1 d1]] w (RetAlloc w xs q) := by
 go_enter Tryz.func51, Tryz.ntmps51
 go_wp2_with fail
 have k0 := Cell4.new w _ rfl (.bool s1) (.slice A1 n1 c1) (.bool t1) (.slice B1 m1 d1) 29
 have hE : Ext w (w.alloc (.cells #[.bool s1, .slice A1 n1 c1, .bool t1, .slice B1 m1 d1] 29)) := Ext.al Ext.rfl' _
 generalize w.alloc (.cells #[.bool s1, .slice A1 n1 c1, .bool t1, .slice B1 m1 d1] 29) = w1 at *
 refine (checkCurve_any A n c xs w1 (hs.below hE) hn).mono ?_
 rintro e w2 ⟨rfl, hE2⟩
 by_cases h0 : crv xs = 0
 ·have hb : (crv xs != 0) = false := by simp [h0]
  obtain ⟨hl1, hl3, hr⟩ := crv_range h0
  have hn3 : n ≤ 3 := by rw [← hs.1]; exact hl3
  have hn1 : 1 ≤ n := by rw [← hs.1]; exact hl1
  have HAE : Hid (allocE xs q = if q < 0 ∨ ((total xs : Int) : Rat) < q then 1 else 0) := by unfold Hid allocE; rw [if_neg (by simp [h0])]
  have HT := LH (total_bd xs)
  have HL := LH hs.1
  have HR := LH hr
  have HS := LH (hs.below (ET hE hE2))
  have K := LH ((k0.ext hE2).ext (Ext.rfl' (w := w2)).drew)
  have HE2 := LH (ET hE hE2)
  have HQ := LH h1
  have HSZ : Hid (Sz 1000 q) := h1.sz l1 l2 (by omega)
  have HS0 := LH hs
  clear h0 hr hl1 hl3 hs k0 hE hE2 h1
  generalize crv xs = cv at *
  have HNEG := LH (sign_neg_iff q)
  go_wp2_with fail
  refine wp_region_lex (C := InX w2.drew []) (by kernel_rfl) (by kernel_rfl) (inX_self _ _) ?_
  have x0 := fun y : ExtX w2.drew [] => y.cell (p := ⟨w.heap.size, 0, none⟩) K.out.1.1 (by simp)
  have x1 := fun y : ExtX w2.drew [] => y.cell (p := ⟨w.heap.size, 1, none⟩) K.out.1.2.1 (by simp)
  have x2 := fun y : ExtX w2.drew [] => y.cell (p := ⟨w.heap.size, 2, none⟩) K.out.1.2.2.1 (by simp)
  have x3 := fun y : ExtX w2.drew [] => y.cell (p := ⟨w.heap.size, 3, none⟩) K.out.1.2.2.2 (by simp)
  have hE3 : Ext w2 w2.drew := Ext.rfl'.drew
  generalize w2.drew = wd at *
  have HEd := LH (ET HE2.out hE3)
  have HSd := LH (HS.out.below hE3)
  clear HS HE2 hE3
  repeat (refine wpLex_still (by rfl) ?_; go_big_quiet_step (fail); refine wpQuiet_nil ?_)
  refine wpLex_move (by rfl) (by rfl) ?_
  go_wp2_with fail
  refine (qsign_any s1 A1 n1 c1 t1 B1 m1 d1 q wd (HQ.out.ext HEd.out)).mono ?_
  rintro e w3 ⟨rfl, hE3⟩
  obtain ⟨sg, hsg⟩ : ∃ s, q.num.sign = s := ⟨_, rfl⟩
  rw [hsg] at HNEG ⊢
  clear hsg
  go_wp2_with fail
  refine And.intro (inX_of_ext _ hE3) ?_
  by_cases hneg : q < 0
  ·have hb2 : decide (sg < 0) = true := decide_eq_true (HNEG.out.2 hneg)
   have HE1 : Hid (allocE xs q = 1) := by unfold Hid; rw [HAE.out, if_pos (.inl hneg)]
   repeat (first | (refine wpLex_still (by rfl) ?_; go_big_quiet_step (fail); refine wpQuiet_nil ?_) | (refine wpLex_skip (by rfl) ?_; simp only [Act.put, List.setIfInBounds_toArray, List.set_cons_succ, List.set_cons_zero]))
   refine wpLex_nil ?_
   go_wp2_with fail
   go_ret2
   refine ⟨ET HEd.out hE3, _, ret_e HE1.out.symm, fun _ => rfl, fun e => ?_⟩
   rw [HE1.out] at e
   cases e
  ·have hb2 : decide (sg < 0) = false := decide_eq_false (fun e => hneg (HNEG.out.1 e))
   repeat (refine wpLex_still (by rfl) ?_; go_big_quiet_step (fail); refine wpQuiet_nil ?_)
   refine wpLex_move (by rfl) (by rfl) ?_
   go_wp2_with fail
   refine (sum_any A n c xs w3 (HSd.out.below hE3) hn).mono ?_
   rintro e w4 ⟨rfl, hE4⟩
   have hE34 := ET hE3 hE4
   obtain ⟨T, hT⟩ : ∃ T, total xs = T := ⟨_, rfl⟩
   rw [hT] at HT HAE ⊢
   obtain ⟨hT1, hT2⟩ := HT.out
   clear hT
   go_wp2_with fail
   refine And.intro (inX_of_ext _ hE34) ?_
   repeat (refine wpLex_still (by rfl) ?_; go_big_quiet_step (fail); refine wpQuiet_nil ?_)
   refine wpLex_move (by rfl) (by rfl) ?_
   go_wp2_with fail
   refine (qfrom_any T w4 ⟨by omega, by omega⟩).mono ?_
   rintro e w5 ⟨s5, A5, n5, c5, t5, B5, m5, d5, rfl, hQ5, hE5⟩
   have hE35 := ET hE34 hE5
   have hA5 := hQ5.arg (sz_small (z := T) (by omega) (by omega)) (by omega)
   go_wp2_with fail
   refine And.intro (inX_of_ext _ hE35) ?_
   repeat (refine wpLex_still (by rfl) ?_; go_big_quiet_step (fail); refine wpQuiet_nil ?_)
   refine wpLex_move (by rfl) (by rfl) ?_
   go_wp2_with fail
   refine (qcmp_any s1 A1 n1 c1 t1 B1 m1 d1 q s5 A5 n5 c5 t5 B5 m5 d5 (T : Rat) w5 ⟨(HQ.out.ext HEd.out).ext hE35, by omega, by omega⟩ hA5).mono ?_
   rintro e w6 ⟨rfl, hE6⟩
   have hE36 := ET hE35 hE6
   have HPOS := LH (cmpQ_pos q (T : Rat))
   generalize cmpQ q (T : Rat) = cq at *
   by_cases hgt : (T : Rat) < q
   ·have hb3 : decide (0 < cq) = true := decide_eq_true (HPOS.out.2 hgt)
    have HE1 : Hid (allocE xs q = 1) := by unfold Hid; rw [HAE.out, if_pos (.inr hgt)]
    go_wp2_with fail
    refine And.intro (inX_of_ext _ hE36) ?_
    repeat (refine wpLex_still (by rfl) ?_; go_big_quiet_step (fail); refine wpQuiet_nil ?_)
    refine wpLex_nil ?_
    clear x0 x1 x2 x3
    have HE6 := LH (ET HEd.out hE36)
    have HS6 := LH (HSd.out.below hE36)
    have K6 := LH (K.out.ext hE36)
    clear hQ5 hA5 hE3 hE4 hE34 hE5 hE35 hE6 hE36 K HEd HSd
    go_wp2_with fail
    go_ret2
    refine ⟨HE6.out, _, ret_e HE1.out.symm, fun _ => rfl, fun e => ?_⟩
    rw [HE1.out] at e
    cases e
   ·have hb3 : decide (0 < cq) = false := decide_eq_false (fun e => hgt (HPOS.out.1 e))
    have HE1 : Hid (allocE xs q = 0) := by unfold Hid; rw [HAE.out, if_neg (by rintro (e | e); exact hneg e; exact hgt e)]
    clear HPOS hgt hneg HNEG HAE
    go_wp2_with fail
    refine And.intro (inX_of_ext _ hE36) ?_
    repeat (refine wpLex_still (by rfl) ?_; go_big_quiet_step (fail); refine wpQuiet_nil ?_)
    refine wpLex_nil ?_
    clear x0 x1 x2 x3
    have HE6 := LH (ET HEd.out hE36)
    have HS6 := LH (HSd.out.below hE36)
    have K6 := LH (K.out.ext hE36)
    clear hQ5 hA5 hE3 hE4 hE34 hE5 hE35 hE6 hE36 K HEd HSd
    obtain ⟨⟨e0, e1, e2, e3⟩, _, el⟩ := K6.out
    have hmk := make_qs n (by omega)
    go_wp2_with fail
    have k7 := (Cell4.new w6 _ rfl (.bool s1) (.slice A1 n1 c1) (.bool t1) (.slice B1 m1 d1) 29).ext (Ext.al Ext.rfl' (.cells (madeCells #[.bool false, .slice none 0 0, .bool false, .slice none 0 0] (n * 4)) 29))
    have r8 := row4_made (w6.alloc (.cells #[.bool s1, .slice A1 n1 c1, .bool t1, .slice B1 m1 d1] 29)) n #[.bool false, .slice none 0 0, .bool false, .slice none 0 0] 29
    have hE8 : Ext w6 ((w6.alloc (.cells #[.bool s1, .slice A1 n1 c1, .bool t1, .slice B1 m1 d1] 29)).alloc (.cells (madeCells #[.bool false, .slice none 0 0, .bool false, .slice none 0 0] (n * 4)) 29)) := Ext.al (Ext.al Ext.rfl' _) _
    rw [show (w6.alloc (.cells #[.bool s1, .slice A1 n1 c1, .bool t1, .slice B1 m1 d1] 29)).heap.size = w6.heap.size + 1 by simp] at r8
    generalize ((w6.alloc (.cells #[.bool s1, .slice A1 n1 c1, .bool t1, .slice B1 m1 d1] 29)).alloc (.cells (madeCells #[.bool false, .slice none 0 0, .bool false, .slice none 0 0] (n * 4)) 29)) = w8 at *
    have K7 := LH k7
    have R8 := LH r8
    have HE8 := LH (ET HE6.out hE8)
    have HS8 := LH (HS6.out.below hE8)
    have hl8 : w6.heap.size + 1 < w8.heap.size := r8.1
    have hl6 : w.heap.size ≤ w6.heap.size := HE6.out.size
    clear k7 r8 hE8 HS6 K6 HE6 e0 e1 e2 e3 hmk
    obtain ⟨b, off, rfl, hlt, hcell⟩ := HS0.out.2 (by omega)
    have HC := LH hcell
    clear hcell HS8 HS0
    go_loopw [9, 10, 33] (fun _ _ i wr => ∃ k : Nat, k ≤ n ∧ i = .int .i64 k ∧ w8.heap.size ≤ wr.heap.size ∧ Hid (Ext w wr ∧ PartsAt wr w8.heap.size (w6.heap.size + 1) n k (partAt q xs) ∧ ∃ s A m c t B j d, Cell4 wr w6.heap.size (.bool s) (.slice A m c) (.bool t) (.slice B j d) ∧ QArg wr s A m c t B j d (restR q (xs.take k)) ∧ Away w.heap.size w8.heap.size A m ∧ Away w.heap.size w8.heap.size B j)) (fun _ _ i _ => n - (intOf i).toNat)
    case atStart => exact ⟨0, by omega, rfl, Nat.le_refl _, HE8.out, ⟨R8.out, fun i hi => by omega⟩, _, _, _, _, _, _, _, _, K7.out, ⟨HQ.out.ext HE8.out, by omega, by omega⟩, HQ.out.away _⟩
    case round =>
     obtain ⟨k, hk, rfl, hsr, HI⟩ := hrel
     by_cases hlt2 : k < n
     ·obtain ⟨hEr, hPr, s, B2, m2, c2, t, B3, m3, d3, hcl, harg, haw1, haw2⟩ := HI.out
      have HAW := LH (And.intro haw1 haw2)
      obtain ⟨c1', c2'⟩ := HC.out k hlt2
      have d1' := Ext.cellOf hEr c1'
      have d2' := Ext.cellOf hEr c2'
      have hbv : decide ((k : Int) < (n : Int)) = true := by simp; omega
      have hsb : b < wr.heap.size := Nat.lt_of_lt_of_le hlt hEr.size
      have hmem : xs.getD k (0, 0) ∈ xs := by simp [List.getD, show k < xs.length by rw [HL.out]; exact hlt2]
      have hr1 := HR.out _ hmem
      have HPA : Hid (partAt q xs k = minQ (restR q (xs.take k)) ((xs.getD k (0, 0)).1 : Int)) := rfl
      have HRS : Hid (restR q (xs.take (k + 1)) = restR q (xs.take k) - partAt q xs k) := rest_succ (by rw [HL.out]; exact hlt2)
      have HZR : Hid (Sz 33554432 (partAt q xs k) ∧ Sz 33554432 (restR q (xs.take (k + 1)))) := by
       have h8 := pow2_le (show k ≤ 3 by omega)
       have h9 := pow2_le (show k + 1 ≤ 3 by omega)
       exact ⟨(sz_part HSZ.out HR.out k (by rw [HL.out]; exact hlt2)).mono (by omega), (sz_rest HSZ.out HR.out (k + 1) (by rw [HL.out]; omega)).mono (by omega)⟩
      generalize (xs.getD k (0, 0)).1 = qy at *
      generalize (xs.getD k (0, 0)).2 = py at *
      generalize restR q (xs.take k) = rk at *
      obtain ⟨r1, r2, _, _⟩ := hr1
      have HPR := LH hPr
      have HCL := LH hcl
      have HAR := LH harg
      have HER := LH hEr
      clear hPr hcl harg hEr c1' c2' HI hmem haw1 haw2
      go_wp2_with fail
      have k10 := Cell2.new wr _ rfl (.int .i64 qy) (.int .i64 py) 61
      have hEa : Ext wr (wr.alloc (.cells #[.int .i64 qy, .int .i64 py] 61)).drew := (Ext.al Ext.rfl' _).drew
      have k10' := k10.ext (Ext.rfl' (w := wr.alloc (.cells #[.int .i64 qy, .int .i64 py] 61))).drew
      refine wp_region_lex (C := InX (wr.alloc (.cells #[.int .i64 qy, .int .i64 py] 61)).drew []) (by kernel_rfl) (by kernel_rfl) (inX_self _ _) ?_
      generalize (wr.alloc (.cells #[.int .i64 qy, .int .i64 py] 61)).drew = wa at *
      have L10 := LH k10'
      have HCLa := LH (HCL.out.ext hEa)
      have HPRa := LH (HPR.out.ext hEa)
      have HARa := LH (HAR.out.ext hEa)
      have HERa := LH (ET HER.out hEa)
      have hsa : w8.heap.size ≤ wa.heap.size := Nat.le_trans hsr hEa.size
      clear k10 k10' hEa d1' d2' HCL HPR HAR HER
      have x0 := fun y : ExtX wa [] => y.cell (p := ⟨w6.heap.size, 0, none⟩) HCLa.out.1.1 (by simp)
      have x1 := fun y : ExtX wa [] => y.cell (p := ⟨w6.heap.size, 1, none⟩) HCLa.out.1.2.1 (by simp)
      have x2 := fun y : ExtX wa [] => y.cell (p := ⟨w6.heap.size, 2, none⟩) HCLa.out.1.2.2.1 (by simp)
      have x3 := fun y : ExtX wa [] => y.cell (p := ⟨w6.heap.size, 3, none⟩) HCLa.out.1.2.2.2 (by simp)
      have x4 := fun y : ExtX wa [] => y.cell (p := ⟨wr.heap.size, 0, none⟩) L10.out.1 (by simp)
      have hz0 : (0 : Int) ≤ (k : Int) := by omega
      have hzn : (k : Int) < (n : Int) := by omega
      repeat (refine wpLex_still (by rfl) ?_; go_big_quiet_step (fail); refine wpQuiet_nil ?_)
      refine wpLex_move (by rfl) (by rfl) ?_
      go_wp2_with fail
      refine (qfrom_any qy wa ⟨by omega, by omega⟩).mono ?_
      rintro e w9 ⟨s9, A9, n9, c9, t9, B9, m9, d9, rfl, hQ9, hE9⟩
      have hA9 := hQ9.arg (sz_small (z := qy) (by omega) (by omega)) (by omega)
      go_wp2_with fail
      refine And.intro (inX_of_ext _ hE9) ?_
      repeat (refine wpLex_still (by rfl) ?_; go_big_quiet_step (fail); refine wpQuiet_nil ?_)
      refine wpLex_move (by rfl) (by rfl) ?_
      go_wp2_with fail
      refine (qmin_any s B2 m2 c2 t B3 m3 d3 rk s9 A9 n9 c9 t9 B9 m9 d9 (qy : Rat) w9 (HARa.out.ext hE9) hA9).mono ?_
      rintro e wb ⟨s', A', i', c', t', B', j', d', rfl, hQb, hEb⟩
      have hEab := ET hE9 hEb
      have HQb : Hid (QCan wb w8.heap.size s' A' i' c' t' B' j' d' (partAt q xs k)) := by
       unfold Hid
       rw [HPA.out]
       exact hQb.base (Nat.le_trans hsa hE9.size)
      have HCLb := LH (HCLa.out.ext hEab)
      have HPRb := LH (HPRa.out.ext hEab)
      have HARb := LH (HARa.out.ext hEab)
      have HERb := LH (ET HERa.out hEab)
      have HXb := LH (inX_of_ext [] hEab)
      have hsb2 : w8.heap.size ≤ wb.heap.size := Nat.le_trans hsa hEab.size
      clear hQ9 hA9 hE9 hQb hEb hEab HCLa HPRa HARa HERa
      go_wp2_with fail
      refine And.intro HXb.out ?_
      repeat (refine wpLex_still (by rfl) ?_; go_big_quiet_step (fail); refine wpQuiet_nil ?_)
      obtain ⟨v0, hv0⟩ := HPRb.out.1.2.1 (k * 4) (by omega)
      obtain ⟨v1, hv1⟩ := HPRb.out.1.2.1 (k * 4 + 1) (by omega)
      obtain ⟨v2, hv2⟩ := HPRb.out.1.2.1 (k * 4 + 2) (by omega)
      obtain ⟨v3, hv3⟩ := HPRb.out.1.2.1 (k * 4 + 3) (by omega)
      have f0 := HPRb.out.1.2.2 (k * 4)
      have f1 := HPRb.out.1.2.2 (k * 4 + 1)
      have f2 := HPRb.out.1.2.2 (k * 4 + 2)
      have f3 := HPRb.out.1.2.2 (k * 4 + 3)
      refine wpLex_last (by rfl) (by kernel_rfl) (by rfl) ?_
      go_wp2_with fail
      refine And.intro trivial (wpLex_nil ?_)
      go_wp2_with fail
      have HPc := LH (HPRb.out.put hlt2 hl8 HQb.out)
      have HCc := LH (HCLb.out.far4 (g := w6.heap.size + 1) (off := k * 4) (by omega) (.bool s') (.slice A' i' c') (.bool t') (.slice B' j' d'))
      have HAc := LH (HARb.out.put4Away HAW.out.1 HAW.out.2 (g := w6.heap.size + 1) (by omega) (by omega) (k * 4) (.bool s') (.slice A' i' c') (.bool t') (.slice B' j' d'))
      have HEc := LH (ext_put4 HERb.out (g := w6.heap.size + 1) (by omega) (k * 4) (.bool s') (.slice A' i' c') (.bool t') (.slice B' j' d'))
      have HQc := LH (HQb.out.put4 (g := w6.heap.size + 1) (by omega) (k * 4) (.bool s') (.slice A' i' c') (.bool t') (.slice B' j' d'))
      have hsc := put4_size wb (w6.heap.size + 1) (k * 4) (.bool s') (.slice A' i' c') (.bool t') (.slice B' j' d')
      have HHc := LH (put4_here (w := wb) (g := w6.heap.size + 1) (off := k * 4) (.bool s') (.slice A' i' c') (.bool t') (.slice B' j' d') ⟨_, hv0⟩ ⟨_, hv1⟩ ⟨_, hv2⟩ ⟨_, hv3⟩)
      unfold put4 at HPc HCc HAc HEc HQc hsc HHc
      refine wp_region_lex (C := InX ((((wb.setCell ⟨w6.heap.size + 1, k * 4, none⟩ (.bool s')).setCell ⟨w6.heap.size + 1, k * 4 + 1, none⟩ (.slice A' i' c')).setCell ⟨w6.heap.size + 1, k * 4 + 2, none⟩ (.bool t')).setCell ⟨w6.heap.size + 1, k * 4 + 3, none⟩ (.slice B' j' d')).drew []) (by kernel_rfl) (by kernel_rfl) (inX_self _ _) ?_
      generalize ((((wb.setCell ⟨w6.heap.size + 1, k * 4, none⟩ (.bool s')).setCell ⟨w6.heap.size + 1, k * 4 + 1, none⟩ (.slice A' i' c')).setCell ⟨w6.heap.size + 1, k * 4 + 2, none⟩ (.bool t')).setCell ⟨w6.heap.size + 1, k * 4 + 3, none⟩ (.slice B' j' d')) = wc at *
      have hEd : Ext wc wc.drew := Ext.rfl'.drew
      generalize wc.drew = wd2 at *
      have HPd := LH (HPc.out.ext hEd)
      have HCd := LH (HCc.out.ext hEd)
      have HAd := LH (HAc.out.ext hEd)
      have HEd2 := LH (ET HEc.out hEd)
      have HQd := LH (HQc.out.ext hEd)
      have hsd : w8.heap.size ≤ wd2.heap.size := by have := hEd.size; omega
      clear x0 x1 x2 x3 x4 hv0 hv1 hv2 hv3 f0 f1 f2 f3
      have x0 := fun y : ExtX wd2 [] => y.cell (p := ⟨w6.heap.size, 0, none⟩) HCd.out.1.1 (by simp)
      have x1 := fun y : ExtX wd2 [] => y.cell (p := ⟨w6.heap.size, 1, none⟩) HCd.out.1.2.1 (by simp)
      have x2 := fun y : ExtX wd2 [] => y.cell (p := ⟨w6.heap.size, 2, none⟩) HCd.out.1.2.2.1 (by simp)
      have x3 := fun y : ExtX wd2 [] => y.cell (p := ⟨w6.heap.size, 3, none⟩) HCd.out.1.2.2.2 (by simp)
      have x4 := fun y : ExtX wd2 [] => y.cell (p := ⟨w6.heap.size + 1, k * 4, none⟩) (Ext.cellOf hEd HHc.out.1) (by simp)
      have x5 := fun y : ExtX wd2 [] => y.cell (p := ⟨w6.heap.size + 1, k * 4 + 1, none⟩) (Ext.cellOf hEd HHc.out.2.1) (by simp)
      have x6 := fun y : ExtX wd2 [] => y.cell (p := ⟨w6.heap.size + 1, k * 4 + 2, none⟩) (Ext.cellOf hEd HHc.out.2.2.1) (by simp)
      have x7 := fun y : ExtX wd2 [] => y.cell (p := ⟨w6.heap.size + 1, k * 4 + 3, none⟩) (Ext.cellOf hEd HHc.out.2.2.2) (by simp)
      clear HPc HCc HAc HEc HQc HHc hEd HPRb HCLb HARb HERb HQb HXb
      repeat (refine wpLex_still (by rfl) ?_; go_big_quiet_step (fail); refine wpQuiet_nil ?_)
      refine wpLex_move (by rfl) (by rfl) ?_
      go_wp2_with fail
      refine (qsub_any s B2 m2 c2 t B3 m3 d3 rk s' A' i' c' t' B' j' d' (partAt q xs k) wd2 HAd.out (HQd.out.arg HZR.out.1 (by omega))).mono ?_
      rintro e we ⟨s'', A'', i'', c'', t'', B'', j'', d'', rfl, hQe, hEe⟩
      have HQe : Hid (QCan we w8.heap.size s'' A'' i'' c'' t'' B'' j'' d'' (restR q (xs.take (k + 1)))) := by
       unfold Hid
       rw [HRS.out]
       exact hQe.base hsd
      have HCe := LH (HCd.out.ext hEe)
      have HPe := LH (HPd.out.ext hEe)
      have HEe := LH (ET HEd2.out hEe)
      have HXe := LH (inX_of_ext [] hEe)
      have hse : w8.heap.size ≤ we.heap.size := Nat.le_trans hsd hEe.size
      clear hQe hEe HPd HCd HAd HEd2 HQd
      obtain ⟨⟨e0, e1, e2, e3⟩, ⟨f0, f1, f2, f3⟩, el2⟩ := HCe.out
      go_wp2_with fail
      refine And.intro HXe.out ?_
      refine wpLex_last (by rfl) (by kernel_rfl) (by rfl) ?_
      go_wp2_with fail
      refine And.intro trivial (wpLex_nil ?_)
      go_wp2_with fail
      go_roundw
      case rel =>
       have hsf := put4_size we w6.heap.size 0 (.bool s'') (.slice A'' i'' c'') (.bool t'') (.slice B'' j'' d'')
       exact ⟨k + 1, by omega, by go_num, by rw [← put4_size we w6.heap.size 0 (.bool s'') (.slice A'' i'' c'') (.bool t'') (.slice B'' j'' d'')] at hse; exact hse, ext_put4 HEe.out (g := w6.heap.size) (by omega) 0 _ _ _ _, HPe.out.far (g' := w6.heap.size) (by omega) (by omega) 0 _ _ _ _, _, _, _, _, _, _, _, _, HCe.out.put4 _ _ _ _, (HQe.out.put4 (g := w6.heap.size) (by omega) 0 _ _ _ _).arg HZR.out.2 (by omega), HQe.out.away _⟩
      case measure => simp [intOf]; omega
     ·have hbv : decide ((k : Int) < (n : Int)) = false := by simp; omega
      have hkn : k = n := by omega
      subst hkn
      have HF := LH HI.out
      clear HI
      go_wp2_with fail
      go_ret2
      refine ⟨HF.out.1, _, ret_e HE1.out.symm, fun e => absurd HE1.out e, fun _ => ⟨w6.heap.size + 1, by rw [HL.out]; rfl, by omega, ?_⟩⟩
      rw [HL.out]
      exact ⟨HF.out.2.1.1, fun i hi => by
       obtain ⟨a1, a2, a3, a4, a5, a6, a7, a8, b1, b2, b3, b4, b5⟩ := HF.out.2.1.2 i hi
       exact ⟨a1, a2, a3, a4, a5, a6, a7, a8, b1, b2, b3, b4, b5.base (by omega)⟩⟩
 ·have hb : (crv xs != 0) = true := by simp [h0]
  have HE1 : Hid (allocE xs q = crv xs ∧ crv xs ≠ 0) := by
   refine ⟨?_, h0⟩
   unfold allocE
   rw [if_pos h0]
  have HEX := LH (ET hE hE2)
  clear h0 hE hE2 k0
  generalize hcv : crv xs = cv at *
  clear hcv
  go_wp2_with fail
  go_ret2
  refine ⟨HEX.out, _, ret_e HE1.out.1.symm, fun _ => rfl, fun e => ?_⟩
  rw [HE1.out.1] at e
  exact absurd e HE1.out.2
end Go.Proofs.YtjinpfnefeiooaaGreat
namespace Go.Proofs.YtjinpfnefeiooaaGreat
open Go.RowKit

def costV (xs : List (Int × Int)) (q : Rat) : Rat := if allocE xs q = 0 then costTo q xs xs.length else 0
def RetCost (w : World) (xs : List (Int × Int)) (q : Rat) (e : Ending) (w' : World) : Prop := ∃ s A n c t B m d, e = .returned (.tuple #[.agg #[.bool s, .slice A n c, .bool t, .slice B m d], .int .i64 (allocE xs q)]) ∧ QCan w' w.heap.size s A n c t B m d (costV xs q) ∧ Ext w w'
theorem ret_qe {v : Value} {a b : Int} (h : a = b) : Ending.returned (.tuple #[v, .int .i64 a]) = .returned (.tuple #[v, .int .i64 b]) := by rw [h]
theorem qcan_zero (w : World) (B0 : Nat) : QCan w B0 false none 0 0 false none 0 0 0 := ⟨zcan_zero _ _, zcan_zero _ _⟩
theorem allocE_range {xs : List (Int × Int)} {q : Rat} (h : allocE xs q = 0) : crv xs = 0 := by
 unfold allocE at h
 by_cases e : crv xs = 0
 ·exact e
 ·rw [if_pos e] at h
  exact h
theorem sz_costV {xs : List (Int × Int)} {q : Rat} (hq : Sz 1000 q) : Sz 8024 (costV xs q) := by
 unfold costV
 split
 ·obtain ⟨_, h3, hr⟩ := crv_range (allocE_range ‹_›)
  have := pow2_le h3
  exact (sz_cost hq hr xs.length (Nat.le_refl _)).mono (by omega)
 ·exact sz_zero.mono (by omega)
set_option maxRecDepth 100000 in
set_option maxHeartbeats 8000000 in
theorem cost_any (A : Option Addr) (n c : Nat) (xs : List (Int × Int)) (s1 : Bool) (A1 : Option Addr) (n1 c1 : Nat) (t1 : Bool) (B1 : Option Addr) (m1 d1 : Nat) (q : Rat) (w : World) (hs : StepsAt w A n xs) (hn : n ≤ maxLen) (h1 : QIs w s1 A1 n1 c1 t1 B1 m1 d1 q) (l1 : n1 ≤ 1000) (l2 : m1 ≤ 1000) :
  Calls Tryz.prog 27 #[.slice A n c, .agg #[.bool s1, .slice A1 n1 c1, .bool t1, .slice B1 m1 d1]] w (RetCost w xs q) := by
 have HSZ : Hid (Sz 1000 q) := h1.sz l1 l2 (by omega)
 go_enter Tryz.func27, Tryz.ntmps27
 go_wp2_with fail
 obtain ⟨k1, k2, hE⟩ := boxQ2 w (.bool s1) (.slice A1 n1 c1) (.bool t1) (.slice B1 m1 d1) (.bool false) (.slice none 0 0) (.bool false) (.slice none 0 0) 29
 generalize (w.alloc (.cells #[.bool s1, .slice A1 n1 c1, .bool t1, .slice B1 m1 d1] 29)).alloc (.cells #[.bool false, .slice none 0 0, .bool false, .slice none 0 0] 29) = w1 at *
 refine (allocate_any A n c xs s1 A1 n1 c1 t1 B1 m1 d1 q w1 (hs.below hE) hn (h1.ext hE) l1 l2).mono ?_
 rintro e w2 ⟨hE2, v, rfl, hv1, hv2⟩
 have HS := LH (hs.below (ET hE hE2))
 have HL := LH hs.1
 have K2 := LH (k2.ext hE2)
 have HE := LH (ET hE hE2)
 have hl : w.heap.size + 1 < w2.heap.size := K2.out.2.2
 by_cases h0 : allocE xs q = 0
 ·obtain ⟨g, rfl, hg, hP⟩ := hv2 h0
  obtain ⟨hl1, hl3, hr⟩ := crv_range (allocE_range h0)
  have hn3 : n ≤ 3 := by rw [← hs.1]; exact hl3
  have hn1 : 1 ≤ n := by rw [← hs.1]; exact hl1
  have HP := LH hP
  have HR := LH hr
  have HV : Hid (costV xs q = costTo q xs n) := by unfold Hid costV; rw [if_pos h0, HL.out]
  rw [h0, HL.out]
  have H0 := LH h0
  obtain ⟨b, off, rfl, hlt, hcell⟩ := HS.out.2 (by omega)
  have HC := LH hcell
  have hgl : g < w2.heap.size := hP.1.1
  clear hs hE hE2 h1 k1 k2 hv1 hv2 hP h0 hl1 hl3 hr hcell HS
  rw [HL.out] at HP
  go_wp2_with fail
  have k8 := Cell4.new w2 _ rfl (.bool false) (.slice none 0 0) (.bool false) (.slice none 0 0) 29
  have hE8 : Ext w2 (w2.alloc (.cells #[.bool false, .slice none 0 0, .bool false, .slice none 0 0] 29)) := Ext.al Ext.rfl' _
  generalize w2.alloc (.cells #[.bool false, .slice none 0 0, .bool false, .slice none 0 0] 29) = w8 at *
  have K8 := LH k8
  have HE8 := LH hE8
  have hl8 : w2.heap.size < w8.heap.size := k8.2.2
  clear k8 hE8
  go_loopw [9, 10, 23] (fun _ _ i wr => ∃ k : Nat, k ≤ n ∧ i = .int .i64 k ∧ w8.heap.size ≤ wr.heap.size ∧ Hid (Ext w2 wr ∧ ∃ s A m c t B j d, Cell4 wr w2.heap.size (.bool s) (.slice A m c) (.bool t) (.slice B j d) ∧ QCan wr (w2.heap.size + 1) s A m c t B j d (costTo q xs k))) (fun _ _ i _ => n - (intOf i).toNat)
  case atStart => exact ⟨0, by omega, rfl, Nat.le_refl _, HE8.out, _, _, _, _, _, _, _, _, K8.out, qcan_zero _ _⟩
  case round =>
   obtain ⟨k, hk, rfl, hsr, HI⟩ := hrel
   by_cases hlt2 : k < n
   ·obtain ⟨hEr, s, B2, m2, c2, t, B3, m3, d3, hcl, hcan⟩ := HI.out
    obtain ⟨c1', c2'⟩ := HC.out k hlt2
    have d1' := Ext.cellOf hEr c1'
    have d2' := Ext.cellOf hEr c2'
    have hbv : decide ((k : Int) < (n : Int)) = true := by simp; omega
    have hsb : b < wr.heap.size := Nat.lt_of_lt_of_le hlt hEr.size
    have hmem : xs.getD k (0, 0) ∈ xs := by simp [List.getD, show k < xs.length by rw [HL.out]; exact hlt2]
    have hr1 := HR.out _ hmem
    have HCS : Hid (costTo q xs (k + 1) = costTo q xs k + partAt q xs k * ((xs.getD k (0, 0)).2 : Int)) := rfl
    have HZR : Hid (Sz 10000 (partAt q xs k) ∧ Sz 10000 (costTo q xs k)) := by
     have h8 := pow2_le (show k ≤ 3 by omega)
     exact ⟨(sz_part HSZ.out HR.out k (by rw [HL.out]; exact hlt2)).mono (by omega), (sz_cost HSZ.out HR.out k (by rw [HL.out]; omega)).mono (by omega)⟩
    obtain ⟨ps, pA, pn, pc, pt, pB, pm, pd, p0, p1, p2, p3, hpc⟩ := HP.out.2 k hlt2
    generalize (xs.getD k (0, 0)).1 = qy at *
    generalize (xs.getD k (0, 0)).2 = py at *
    generalize costTo q xs k = ck at *
    generalize partAt q xs k = pk at *
    obtain ⟨_, _, r1, r2⟩ := hr1
    have HCL := LH hcl
    have HCN := LH hcan
    have HER := LH hEr
    have HP0 := LH (And.intro p0 (And.intro p1 (And.intro p2 p3)))
    have HPC := LH hpc
    clear hcl hcan hEr c1' c2' HI hmem p0 p1 p2 p3 hpc
    go_wp2_with fail
    have k10 := Cell2.new wr _ rfl (.int .i64 qy) (.int .i64 py) 61
    have hEa : Ext wr (wr.alloc (.cells #[.int .i64 qy, .int .i64 py] 61)).drew := (Ext.al Ext.rfl' _).drew
    have k10' := k10.ext (Ext.rfl' (w := wr.alloc (.cells #[.int .i64 qy, .int .i64 py] 61))).drew
    refine wp_region_lex (C := InX (wr.alloc (.cells #[.int .i64 qy, .int .i64 py] 61)).drew []) (by kernel_rfl) (by kernel_rfl) (inX_self _ _) ?_
    generalize (wr.alloc (.cells #[.int .i64 qy, .int .i64 py] 61)).drew = wa at *
    have L10 := LH k10'
    have HCLa := LH (HCL.out.ext hEa)
    have HCNa := LH (HCN.out.ext hEa)
    have HERa := LH (ET HER.out hEa)
    have hsa : w8.heap.size ≤ wa.heap.size := Nat.le_trans hsr hEa.size
    clear k10 k10' hEa d1' d2' HCL HCN HER
    have x0 := fun y : ExtX wa [] => y.cell (p := ⟨w2.heap.size, 0, none⟩) HCLa.out.1.1 (by simp)
    have x1 := fun y : ExtX wa [] => y.cell (p := ⟨w2.heap.size, 1, none⟩) HCLa.out.1.2.1 (by simp)
    have x2 := fun y : ExtX wa [] => y.cell (p := ⟨w2.heap.size, 2, none⟩) HCLa.out.1.2.2.1 (by simp)
    have x3 := fun y : ExtX wa [] => y.cell (p := ⟨w2.heap.size, 3, none⟩) HCLa.out.1.2.2.2 (by simp)
    have x4 := fun y : ExtX wa [] => y.cell (p := ⟨wr.heap.size, 1, none⟩) L10.out.2.1 (by simp)
    have x5 := fun y : ExtX wa [] => y.cell (p := ⟨g, k * 4, none⟩) (Ext.cellOf HERa.out HP0.out.1) (by simp)
    have x6 := fun y : ExtX wa [] => y.cell (p := ⟨g, k * 4 + 1, none⟩) (Ext.cellOf HERa.out HP0.out.2.1) (by simp)
    have x7 := fun y : ExtX wa [] => y.cell (p := ⟨g, k * 4 + 2, none⟩) (Ext.cellOf HERa.out HP0.out.2.2.1) (by simp)
    have x8 := fun y : ExtX wa [] => y.cell (p := ⟨g, k * 4 + 3, none⟩) (Ext.cellOf HERa.out HP0.out.2.2.2) (by simp)
    have hz0 : (0 : Int) ≤ (k : Int) := by omega
    have hzn : (k : Int) < (n : Int) := by omega
    repeat (refine wpLex_still (by rfl) ?_; go_big_quiet_step (fail); refine wpQuiet_nil ?_)
    refine wpLex_move (by rfl) (by rfl) ?_
    go_wp2_with fail
    refine (qfrom_any py wa ⟨by omega, by omega⟩).mono ?_
    rintro e w9 ⟨s9, A9, n9, c9, t9, B9, m9, d9, rfl, hQ9, hE9⟩
    have hA9 := hQ9.arg (sz_small (z := py) (by omega) (by omega)) (by omega)
    go_wp2_with fail
    refine And.intro (inX_of_ext _ hE9) ?_
    repeat (refine wpLex_still (by rfl) ?_; go_big_quiet_step (fail); refine wpQuiet_nil ?_)
    refine wpLex_move (by rfl) (by rfl) ?_
    go_wp2_with fail
    refine (qmul_any ps pA pn pc pt pB pm pd pk s9 A9 n9 c9 t9 B9 m9 d9 (py : Rat) w9 (((HPC.out.ext HERa.out).ext hE9).arg HZR.out.1 (by omega)) hA9).mono ?_
    rintro e wb ⟨s', A', i', c', t', B', j', d', rfl, hQb, hEb⟩
    have hAb := hQb.arg (HZR.out.1.mul (sz_small (z := py) (by omega) (by omega))) (by omega)
    have hEab := ET hE9 hEb
    have HAb := LH hAb
    clear hQ9 hA9 hQb hAb
    go_wp2_with fail
    refine And.intro (inX_of_ext _ hEab) ?_
    repeat (refine wpLex_still (by rfl) ?_; go_big_quiet_step (fail); refine wpQuiet_nil ?_)
    refine wpLex_move (by rfl) (by rfl) ?_
    go_wp2_with fail
    refine (qadd_any s B2 m2 c2 t B3 m3 d3 ck s' A' i' c' t' B' j' d' _ wb ((HCNa.out.ext hEab).arg HZR.out.2 (by omega)) HAb.out).mono ?_
    rintro e we ⟨s'', A'', i'', c'', t'', B'', j'', d'', rfl, hQe, hEe⟩
    have hEae := ET hEab hEe
    have HQe : Hid (QCan we (w2.heap.size + 1) s'' A'' i'' c'' t'' B'' j'' d'' (costTo q xs (k + 1))) := by
     unfold Hid
     rw [HCS.out]
     exact hQe.base (Nat.le_trans (by omega) hEab.size)
    have HCe := LH (HCLa.out.ext hEae)
    have HEe := LH (ET HERa.out hEae)
    have HXe := LH (inX_of_ext [] hEae)
    have hse : w8.heap.size ≤ we.heap.size := Nat.le_trans hsa hEae.size
    clear hQe hEe hEae hEab hEb hE9 HCLa HCNa HERa HAb x0 x1 x2 x3 x4 x5 x6 x7 x8
    obtain ⟨⟨e0, e1, e2, e3⟩, ⟨f0, f1, f2, f3⟩, el2⟩ := HCe.out
    go_wp2_with fail
    refine And.intro HXe.out ?_
    refine wpLex_last (by rfl) (by kernel_rfl) (by rfl) ?_
    go_wp2_with fail
    refine And.intro trivial (wpLex_nil ?_)
    go_wp2_with fail
    go_roundw
    case rel =>
     exact ⟨k + 1, by omega, by go_num, by rw [← put4_size we w2.heap.size 0 (.bool s'') (.slice A'' i'' c'') (.bool t'') (.slice B'' j'' d'')] at hse; exact hse, ext_put4 HEe.out (g := w2.heap.size) (Nat.le_refl _) 0 _ _ _ _, _, _, _, _, _, _, _, _, HCe.out.put4 _ _ _ _, HQe.out.put4 (g := w2.heap.size) (by omega) 0 _ _ _ _⟩
    case measure => simp [intOf]; omega
   ·have hbv : decide ((k : Int) < (n : Int)) = false := by simp; omega
    have hkn : k = n := by omega
    subst hkn
    obtain ⟨hEr, s, B2, m2, c2, t, B3, m3, d3, hcl, hcan⟩ := HI.out
    have HCN := LH hcan
    have HEF := LH (ET HE.out hEr)
    obtain ⟨⟨a0, a1, a2, a3⟩, _, _⟩ := hcl
    obtain ⟨⟨e0, e1, e2, e3⟩, ⟨f0, f1, f2, f3⟩, el2⟩ := K2.out.ext hEr
    clear HI hcan hEr
    go_wp2_with fail
    refine bodyPost_ret (v := .tuple #[.agg #[.bool s, .slice B2 m2 c2, .bool t, .slice B3 m3 d3], .int .i64 0]) (by simp [results, Tryz.results27, go_sem, e0, e1, e2, e3]) rfl ?_
    refine ⟨_, _, _, _, _, _, _, _, ret_qe H0.out.symm, ?_⟩
    rw [HV.out]
    exact retQ_fill (r := w.heap.size + 1) (B0 := w2.heap.size + 1) (by omega) (by omega) HCN.out HEF.out _ _ _ _
 ·have hv := hv1 h0
  subst hv
  have hb : (allocE xs q != 0) = true := by simp [h0]
  have HV : Hid (costV xs q = 0) := by unfold Hid costV; rw [if_neg h0]
  have hae : ∃ ae, allocE xs q = ae := ⟨_, rfl⟩
  obtain ⟨ae, hae⟩ := hae
  have HAE := LH hae
  rw [hae] at hb ⊢
  obtain ⟨⟨e0, e1, e2, e3⟩, ⟨f0, f1, f2, f3⟩, el2⟩ := K2.out
  clear hae h0 hv1 hv2 hs hE hE2 h1 k1 k2 HS
  go_wp2_with fail
  refine bodyPost_ret (v := .tuple #[.agg #[.bool false, .slice none 0 0, .bool false, .slice none 0 0], .int .i64 ae]) (by simp [results, Tryz.results27, go_sem, e0, e1, e2, e3]) rfl ?_
  refine ⟨_, _, _, _, _, _, _, _, ret_qe HAE.out.symm, ?_⟩
  rw [HV.out]
  exact retQ_fill (r := w.heap.size + 1) (B0 := w.heap.size + 1 + 1) (by omega) (by omega) (qcan_zero _ _) HE.out _ _ _ _
end Go.Proofs.YtjinpfnefeiooaaGreat
namespace Go.Proofs.YtjinpfnefeiooaaGreat
open Go.RowKit

def leastOf (side : Int) (p : Rat) : List (Int × Int) → Int
 | [] => 0
 | x :: r => (if cmpQ (x.2 : Int) p = side then x.1 else 0) + leastOf side p r
def mostOf (side : Int) (p : Rat) : List (Int × Int) → Int
 | [] => 0
 | x :: r => (if cmpQ (x.2 : Int) p = side ∨ cmpQ (x.2 : Int) p = 0 then x.1 else 0) + mostOf side p r
theorem leastOf_append (side : Int) (p : Rat) (l r : List (Int × Int)) : leastOf side p (l ++ r) = leastOf side p l + leastOf side p r := by
 induction l with
 | nil => simp [leastOf]
 | cons x l ih => simp only [List.cons_append, leastOf, ih]; omega
theorem mostOf_append (side : Int) (p : Rat) (l r : List (Int × Int)) : mostOf side p (l ++ r) = mostOf side p l + mostOf side p r := by
 induction l with
 | nil => simp [mostOf]
 | cons x l ih => simp only [List.cons_append, mostOf, ih]; omega
theorem will_bd (side : Int) (p : Rat) : ∀ {l : List (Int × Int)}, (∀ x ∈ l, 1 ≤ x.1 ∧ x.1 ≤ 1000000 ∧ -1000000 ≤ x.2 ∧ x.2 ≤ 1000000) → 0 ≤ leastOf side p l ∧ leastOf side p l ≤ mostOf side p l ∧ mostOf side p l ≤ sumQ l
 | [], _ => by simp [leastOf, mostOf, sumQ]
 | x :: r, h => by
  have h1 := h x (by simp)
  have h2 := will_bd side p (l := r) fun y hy => h y (by simp [hy])
  simp only [leastOf, mostOf, sumQ]
  by_cases e1 : cmpQ (x.2 : Int) p = side
  ·rw [if_pos e1, if_pos (.inl e1)]; omega
  ·rw [if_neg e1]
   split <;> omega
set_option maxRecDepth 100000 in
set_option maxHeartbeats 8000000 in
theorem willing_any (A : Option Addr) (n c : Nat) (xs : List (Int × Int)) (s1 : Bool) (A1 : Option Addr) (n1 c1 : Nat) (t1 : Bool) (B1 : Option Addr) (m1 d1 : Nat) (q : Rat) (side : Int) (w : World) (hs : StepsAt w A n xs) (hn3 : n ≤ 3) (hn1 : 1 ≤ n) (hr : ∀ x ∈ xs, 1 ≤ x.1 ∧ x.1 ≤ 1000000 ∧ -1000000 ≤ x.2 ∧ x.2 ≤ 1000000) (h1 : QArg w s1 A1 n1 c1 t1 B1 m1 d1 q) (hsd : side ≠ 0) :
  Calls Tryz.prog 50 #[.slice A n c, .agg #[.bool s1, .slice A1 n1 c1, .bool t1, .slice B1 m1 d1], .int .i64 side] w fun e w' => e = .returned (.tuple #[.int .i64 (leastOf side q xs), .int .i64 (mostOf side q xs)]) ∧ Ext w w' := by
 obtain ⟨b, off, rfl, hlt, hcell⟩ := hs.2 (by omega)
 have HC := LH hcell
 have HL := LH hs.1
 have HR := LH hr
 have H1 := LH h1
 clear hs hcell hr h1
 go_enter Tryz.func50, Tryz.ntmps50
 go_wp2_with fail
 have k0 := Cell4.new w _ rfl (.bool s1) (.slice A1 n1 c1) (.bool t1) (.slice B1 m1 d1) 29
 have hE : Ext w (w.alloc (.cells #[.bool s1, .slice A1 n1 c1, .bool t1, .slice B1 m1 d1] 29)) := Ext.al Ext.rfl' _
 generalize w.alloc (.cells #[.bool s1, .slice A1 n1 c1, .bool t1, .slice B1 m1 d1] 29) = w1 at *
 have K0 := LH k0
 have HE := LH hE
 clear k0 hE
 go_loopw [6, 7, 9, 12] (fun lo hi _ i wr => ∃ k : Nat, k ≤ n ∧ i = .int .i64 k ∧ lo = .int .i64 (leastOf side q (xs.take k)) ∧ hi = .int .i64 (mostOf side q (xs.take k)) ∧ Hid (Ext w1 wr)) (fun _ _ _ i _ => n - (intOf i).toNat)
 case atStart => exact ⟨0, by omega, rfl, rfl, rfl, Ext.rfl'⟩
 case round =>
  obtain ⟨k, hk, rfl, rfl, rfl, HEr⟩ := hrel
  by_cases hlt2 : k < n
  ·obtain ⟨c1', c2'⟩ := HC.out k hlt2
   have d1' := Ext.cellOf (ET HE.out HEr.out) c1'
   have d2' := Ext.cellOf (ET HE.out HEr.out) c2'
   have hbv : decide ((k : Int) < (n : Int)) = true := by simp; omega
   have hsb : b < wr.heap.size := Nat.lt_of_lt_of_le hlt (ET HE.out HEr.out).size
   have hmem : xs.getD k (0, 0) ∈ xs := by simp [List.getD, show k < xs.length by rw [HL.out]; exact hlt2]
   have hr1 := HR.out _ hmem
   have hbd := will_bd side q (l := xs.take k) fun y hy => HR.out y (List.mem_of_mem_take hy)
   have hbs := sumQ_bd (l := xs.take k) fun y hy => HR.out y (List.mem_of_mem_take hy)
   have hlk : (xs.take k).length ≤ 3 := by simp; omega
   have HT1 : Hid (leastOf side q (xs.take (k + 1)) = leastOf side q (xs.take k) + (if cmpQ ((xs.getD k (0, 0)).2 : Int) q = side then (xs.getD k (0, 0)).1 else 0)) := by
    unfold Hid
    rw [take_snoc xs (0, 0) (by rw [HL.out]; exact hlt2), leastOf_append]
    simp [leastOf]
   have HT2 : Hid (mostOf side q (xs.take (k + 1)) = mostOf side q (xs.take k) + (if cmpQ ((xs.getD k (0, 0)).2 : Int) q = side ∨ cmpQ ((xs.getD k (0, 0)).2 : Int) q = 0 then (xs.getD k (0, 0)).1 else 0)) := by
    unfold Hid
    rw [take_snoc xs (0, 0) (by rw [HL.out]; exact hlt2), mostOf_append]
    simp [mostOf]
   generalize (xs.getD k (0, 0)).1 = qy at *
   generalize (xs.getD k (0, 0)).2 = py at *
   generalize leastOf side q (xs.take k) = lo at *
   generalize mostOf side q (xs.take k) = hi at *
   obtain ⟨r1, r2, r3, r4⟩ := hr1
   have hlo1 : 0 ≤ lo := hbd.1
   have hhi1 : lo ≤ hi := hbd.2.1
   have hhi2 : hi ≤ 3000000 := by omega
   clear hbd hbs hlk hmem c1' c2'
   go_wp2_with fail
   have k9 := Cell2.new wr _ rfl (.int .i64 qy) (.int .i64 py) 61
   have hEa : Ext wr (wr.alloc (.cells #[.int .i64 qy, .int .i64 py] 61)).drew := (Ext.al Ext.rfl' _).drew
   have k9' := k9.ext (Ext.rfl' (w := wr.alloc (.cells #[.int .i64 qy, .int .i64 py] 61))).drew
   refine wp_region_lex (C := InX (wr.alloc (.cells #[.int .i64 qy, .int .i64 py] 61)).drew []) (by kernel_rfl) (by kernel_rfl) (inX_self _ _) ?_
   generalize (wr.alloc (.cells #[.int .i64 qy, .int .i64 py] 61)).drew = wa at *
   have L9 := LH k9'
   have HEa := LH (ET HEr.out hEa)
   have K0a := LH (K0.out.ext HEa.out)
   clear k9 k9' hEa d1' d2'
   have x0 := fun y : ExtX wa [] => y.cell (p := ⟨w.heap.size, 0, none⟩) K0a.out.1.1 (by simp)
   have x1 := fun y : ExtX wa [] => y.cell (p := ⟨w.heap.size, 1, none⟩) K0a.out.1.2.1 (by simp)
   have x2 := fun y : ExtX wa [] => y.cell (p := ⟨w.heap.size, 2, none⟩) K0a.out.1.2.2.1 (by simp)
   have x3 := fun y : ExtX wa [] => y.cell (p := ⟨w.heap.size, 3, none⟩) K0a.out.1.2.2.2 (by simp)
   have x4 := fun y : ExtX wa [] => y.cell (p := ⟨wr.heap.size, 1, none⟩) L9.out.2.1 (by simp)
   repeat (refine wpLex_still (by rfl) ?_; go_big_quiet_step (fail); refine wpQuiet_nil ?_)
   refine wpLex_move (by rfl) (by rfl) ?_
   go_wp2_with fail
   refine (qfrom_any py wa ⟨by omega, by omega⟩).mono ?_
   rintro e w9 ⟨s9, A9, n9, c9, t9, B9, m9, d9, rfl, hQ9, hE9⟩
   have hA9 := hQ9.arg (sz_small (z := py) (by omega) (by omega)) (by omega)
   go_wp2_with fail
   refine And.intro (inX_of_ext _ hE9) ?_
   repeat (refine wpLex_still (by rfl) ?_; go_big_quiet_step (fail); refine wpQuiet_nil ?_)
   refine wpLex_move (by rfl) (by rfl) ?_
   go_wp2_with fail
   refine (qcmp_any s9 A9 n9 c9 t9 B9 m9 d9 (py : Rat) s1 A1 n1 c1 t1 B1 m1 d1 q w9 hA9 ((H1.out.ext (ET HE.out HEa.out)).ext hE9)).mono ?_
   rintro e wb ⟨rfl, hEb⟩
   generalize cmpQ (py : Rat) q = cp at *
   have hEab := ET hE9 hEb
   have HEb := LH (ET HEa.out hEab)
   obtain ⟨g0, g1, _, _, gl⟩ := L9.out.ext hEab
   have HXb := LH (inX_of_ext [] hEab)
   clear hQ9 hA9 hE9 hEb hEab
   go_wp2_with fail
   refine And.intro HXb.out ?_
   repeat (refine wpLex_still (by rfl) ?_; go_big_quiet_step (fail); refine wpQuiet_nil ?_)
   refine wpLex_nil ?_
   clear x0 x1 x2 x3 x4
   by_cases e1 : cp = side
   ·subst e1
    rw [if_pos rfl] at HT1
    rw [if_pos (.inl rfl)] at HT2
    go_wp2_with fail
    go_roundw
    case rel => exact ⟨k + 1, by omega, by go_num, by rw [HT1.out], by rw [HT2.out], HEb.out⟩
    case measure => simp [intOf]; omega
   ·have hb1 : (cp == side) = false := by simp [e1]
    rw [if_neg e1] at HT1
    by_cases e2 : cp = 0
    ·have hb2 : (cp == 0) = true := by simp [e2]
     rw [if_pos (.inr e2)] at HT2
     clear e1 e2
     go_wp2_with fail
     go_roundw
     case rel => exact ⟨k + 1, by omega, by go_num, by rw [HT1.out, Int.add_zero], by rw [HT2.out], HEb.out⟩
     case measure => simp [intOf]; omega
    ·have hb2 : (cp == 0) = false := by simp [e2]
     rw [if_neg (by rintro (e | e); exact e1 e; exact e2 e)] at HT2
     clear e1 e2
     go_wp2_with fail
     go_roundw
     case rel => exact ⟨k + 1, by omega, by go_num, by rw [HT1.out, Int.add_zero], by rw [HT2.out, Int.add_zero], HEb.out⟩
     case measure => simp [intOf]; omega
  ·have hbv : decide ((k : Int) < (n : Int)) = false := by simp; omega
   have HF : Hid (xs.take k = xs) := List.take_of_length_le (by rw [HL.out]; omega)
   rw [HF.out]
   go_wp2_with fail
   go_ret2
   exact ⟨rfl, ET HE.out HEr.out⟩
theorem ret_iie {a a' b b' c c' : Int} (h1 : a = a') (h2 : b = b') (h3 : c = c') : Ending.returned (.tuple #[.int .i64 a, .int .i64 b, .int .i64 c]) = .returned (.tuple #[.int .i64 a', .int .i64 b', .int .i64 c']) := by rw [h1, h2, h3]
def wantL (rise : Bool) (xs : List (Int × Int)) (p : Rat) : Int := if chk rise xs = 0 then leastOf (if rise then -1 else 1) p xs else 0
def wantM (rise : Bool) (xs : List (Int × Int)) (p : Rat) : Int := if chk rise xs = 0 then mostOf (if rise then -1 else 1) p xs else 0
set_option maxRecDepth 100000 in
set_option maxHeartbeats 4000000 in
theorem supply_any (A : Option Addr) (n c : Nat) (xs : List (Int × Int)) (s1 : Bool) (A1 : Option Addr) (n1 c1 : Nat) (t1 : Bool) (B1 : Option Addr) (m1 d1 : Nat) (q : Rat) (w : World) (hs : StepsAt w A n xs) (hn : n ≤ maxLen) (h1 : QArg w s1 A1 n1 c1 t1 B1 m1 d1 q) :
  Calls Tryz.prog 26 #[.slice A n c, .agg #[.bool s1, .slice A1 n1 c1, .bool t1, .slice B1 m1 d1]] w fun e w' => e = .returned (.tuple #[.int .i64 (wantL true xs q), .int .i64 (wantM true xs q), .int .i64 (chk true xs)]) ∧ Ext w w' := by
 go_enter Tryz.func26, Tryz.ntmps26
 go_wp2_with fail
 have k0 := Cell4.new w _ rfl (.bool s1) (.slice A1 n1 c1) (.bool t1) (.slice B1 m1 d1) 29
 have hE : Ext w (w.alloc (.cells #[.bool s1, .slice A1 n1 c1, .bool t1, .slice B1 m1 d1] 29)) := Ext.al Ext.rfl' _
 generalize w.alloc (.cells #[.bool s1, .slice A1 n1 c1, .bool t1, .slice B1 m1 d1] 29) = w1 at *
 refine (checkOffer_any A n c xs w1 (hs.below hE) hn).mono ?_
 rintro e w2 ⟨rfl, hE2⟩
 by_cases h0 : chk true xs = 0
 ·obtain ⟨hl1, hl3, hr⟩ := chk_range h0
  have hn3 : n ≤ 3 := by rw [← hs.1]; exact hl3
  have hn1 : 1 ≤ n := by rw [← hs.1]; exact hl1
  have HW : Hid (wantL true xs q = leastOf (-1) q xs ∧ wantM true xs q = mostOf (-1) q xs ∧ chk true xs = 0) := by
   refine ⟨?_, ?_, h0⟩
   ·unfold wantL; rw [if_pos h0]; rfl
   ·unfold wantM; rw [if_pos h0]; rfl
  rw [h0]
  obtain ⟨⟨g0, g1, g2, g3⟩, _, _⟩ := k0.ext hE2
  have HS := LH (hs.below (ET hE hE2))
  have HQ := LH (h1.ext (ET hE hE2))
  clear h0 hl1 hl3 hs k0
  go_wp2_with fail
  refine (willing_any A n c xs s1 A1 n1 c1 t1 B1 m1 d1 q (-1) w2 HS.out hn3 hn1 hr HQ.out (by omega)).mono ?_
  rintro e w3 ⟨rfl, hE3⟩
  have HW2 := LH HW.out
  generalize leastOf (-1) q xs = lo at *
  generalize mostOf (-1) q xs = hi at *
  go_wp2_with fail
  go_ret3
  exact ⟨ret_iie HW2.out.1.symm HW2.out.2.1.symm HW2.out.2.2.symm, ET hE (ET hE2 hE3)⟩
 ·have hb : (chk true xs != 0) = true := by simp [h0]
  have HW : Hid (wantL true xs q = 0 ∧ wantM true xs q = 0) := by
   refine ⟨?_, ?_⟩
   ·unfold wantL; rw [if_neg h0]
   ·unfold wantM; rw [if_neg h0]
  obtain ⟨cv, hcv⟩ : ∃ v, chk true xs = v := ⟨_, rfl⟩
  have HCV := LH hcv
  rw [hcv] at hb ⊢
  clear h0 k0 hcv
  go_wp2_with fail
  go_ret3
  exact ⟨ret_iie HW.out.1.symm HW.out.2.symm HCV.out.symm, ET hE hE2⟩
end Go.Proofs.YtjinpfnefeiooaaGreat
