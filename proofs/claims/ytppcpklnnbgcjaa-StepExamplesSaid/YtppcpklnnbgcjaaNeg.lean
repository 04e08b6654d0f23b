/- Contracts of step.Negate and pylonref23.Same. -/
import Derived.Test.YtppcpklnnbgcjaaLaw23B
import Derived.Test.YtppcpklnnbgcjaaMulW
namespace Go.Proofs.Ytppcpklnnbgcjaa
open Go.RowKit

/-- A price negated, as int64 does it. -/
def negW (p : Int) : Int := wrap64 (-p)
/-- The steps with every price negated. -/
def negL (l : List (Int × Int)) : List (Int × Int) := l.map fun x => (x.1, negW x.2)
theorem make_steps (k : Nat) (hk : k ≤ 4294967296) (w : World) : (Instr.makeSlice 22 (.int .i64 (k : Int)) (.int .i64 (k : Int))).run Try.prog w = .ok (.slice (some ⟨w.heap.size, 0, none⟩) k k) (w.alloc (.cells (madeCells #[.int .i64 0, .int .i64 0] (k * 2)) 26)) := by
  obtain ⟨i0, hi, hz0, hz1, hz2⟩ := info_parts info_step
  have hr := run_make (P := Try.prog) w 22 26 i0 _ Try.underlying22 hi hz0 .i64 .i64 k k (by omega) (by omega) (by rw [hz2]; omega) (by omega)
  simp only [Int.toNat_natCast, hz1] at hr
  exact hr
/-- Block g is a row of n steps that may be written; the first k are these. -/
def SRow (w : World) (g n k : Nat) (f : Nat → Int × Int) : Prop := g < w.heap.size ∧ (∀ j, j < n * 2 → ∃ v, w.cell? ⟨g, j, none⟩ = some v) ∧ (∀ j, w.frozen? ⟨g, j, none⟩ = false) ∧ ∀ i, i < k → w.cell? ⟨g, i * 2, none⟩ = some (.int .i64 (f i).1) ∧ w.cell? ⟨g, i * 2 + 1, none⟩ = some (.int .i64 (f i).2)
theorem SRow.ext {w w' : World} {g n k : Nat} {f : Nat → Int × Int} (h : SRow w g n k f) (hb : Ext w w') : SRow w' g n k f :=
  ⟨Nat.lt_of_lt_of_le h.1 hb.size, fun j hj => (h.2.1 j hj).imp fun _ hv => Ext.cellOf hb hv, fun j => (hb.frozen (p := ⟨g, j, none⟩) h.1).trans (h.2.2.1 j), fun i hi => ⟨Ext.cellOf hb (h.2.2.2 i hi).1, Ext.cellOf hb (h.2.2.2 i hi).2⟩⟩
theorem srow_made (w : World) (k : Nat) (zs : Array Value) (t : TypeId) (f : Nat → Int × Int) : SRow (w.alloc (.cells (madeCells zs (k * 2)) t)) w.heap.size k 0 f := by
  have hb : Blk (w.alloc (.cells (madeCells zs (k * 2)) t)) w.heap.size t (madeCells zs (k * 2)) := Blk.new w t _
  refine ⟨by simp, fun j hj => ?_, fun j => hb.frozen j, fun i hi => by omega⟩
  rw [hb.cell j]
  have : j < (madeCells zs (k * 2)).size := by rw [size_madeCells]; exact hj
  exact ⟨_, Array.getElem?_eq_getElem this⟩
theorem SRow.put {w : World} {g n k : Nat} {f : Nat → Int × Int} (h : SRow w g n k f) (hk : k < n) {a b : Int} (ha : a = (f k).1) (hb : b = (f k).2) : SRow ((w.setCell ⟨g, k * 2, none⟩ (.int .i64 a)).setCell ⟨g, k * 2 + 1, none⟩ (.int .i64 b)) g n (k + 1) f := by
  subst ha hb
  obtain ⟨v0, h0⟩ := h.2.1 (k * 2) (by omega)
  obtain ⟨v1, h1⟩ := h.2.1 (k * 2 + 1) (by omega)
  have ne : ∀ {i j : Nat}, i ≠ j → (⟨g, i, none⟩ : Addr) ≠ ⟨g, j, none⟩ := fun hij hh => hij (by injection hh)
  have c0 : ((w.setCell ⟨g, k * 2, none⟩ (.int .i64 (f k).1)).setCell ⟨g, k * 2 + 1, none⟩ (.int .i64 (f k).2)).cell? ⟨g, k * 2, none⟩ = some (.int .i64 (f k).1) := by
    rw [World.cell?_setCell_other _ _ _ _ (ne (by omega))]
    exact World.cell?_setCell_same' _ _ _ (by rw [h0]; rfl)
  have c1 : ((w.setCell ⟨g, k * 2, none⟩ (.int .i64 (f k).1)).setCell ⟨g, k * 2 + 1, none⟩ (.int .i64 (f k).2)).cell? ⟨g, k * 2 + 1, none⟩ = some (.int .i64 (f k).2) :=
    World.cell?_setCell_same' _ _ _ (by rw [World.cell?_setCell_other _ _ _ _ (ne (by omega)), h1]; rfl)
  have co : ∀ j, j ≠ k * 2 → j ≠ k * 2 + 1 → ((w.setCell ⟨g, k * 2, none⟩ (.int .i64 (f k).1)).setCell ⟨g, k * 2 + 1, none⟩ (.int .i64 (f k).2)).cell? ⟨g, j, none⟩ = w.cell? ⟨g, j, none⟩ := fun j hj1 hj2 => by
    rw [World.cell?_setCell_other _ _ _ _ (ne (Ne.symm hj2)), World.cell?_setCell_other _ _ _ _ (ne (Ne.symm hj1))]
  refine ⟨by simpa [World.setCell] using h.1, fun j hj => ?_, fun j => by rw [World.frozen?_setCell, World.frozen?_setCell]; exact h.2.2.1 j, fun i hi => ?_⟩
  · by_cases e0 : j = k * 2
    · subst e0; exact ⟨_, c0⟩
    · by_cases e1 : j = k * 2 + 1
      · subst e1; exact ⟨_, c1⟩
      · rw [co j e0 e1]; exact h.2.1 j hj
  · by_cases e : i = k
    · subst e; exact ⟨c0, c1⟩
    · rw [co _ (by omega) (by omega), co _ (by omega) (by omega)]
      exact h.2.2.2 i (by omega)

set_option maxRecDepth 100000 in
set_option maxHeartbeats 4000000 in
theorem negate_new (A : Option Addr) (n c : Nat) (xs : List (Int × Int)) (w : World) (hs : StepsAt w A n xs) (hn : n ≤ 100) :
    Calls Try.prog 28 #[.slice A n c] w fun e w' => ∃ c', e = .returned (.slice (some ⟨w.heap.size, 0, none⟩) n c') ∧ StepsAt w' (some ⟨w.heap.size, 0, none⟩) n (negL xs) ∧ n ≤ c' ∧ c' ≤ maxLen ∧ Ext w w' ∧ SRow w' w.heap.size n n (fun i => ((xs.getD i (0, 0)).1, negW (xs.getD i (0, 0)).2)) := by
  have HS := Lib.hid hs
  clear hs
  have hmk := make_steps n (by omega)
  go_enter Try.func28, Try.ntmps28
  go_wp2_with fail
  have hr0 := srow_made w n #[.int .i64 0, .int .i64 0] 26 (fun i => ((xs.getD i (0, 0)).1, negW (xs.getD i (0, 0)).2))
  have hE : Ext w (w.alloc (.cells (madeCells #[.int .i64 0, .int .i64 0] (n * 2)) 26)) := Ext.al Ext.rfl' _
  generalize w.alloc (.cells (madeCells #[.int .i64 0, .int .i64 0] (n * 2)) 26) = w1 at *
  have HR0 := Lib.hid hr0
  have HE := Lib.hid hE
  clear hr0 hE hmk
  go_loopw [4, 5, 11] (fun _ _ i wr => ∃ k : Nat, k ≤ n ∧ i = .int .i64 k ∧ Hid (Ext w wr ∧ SRow wr w.heap.size n k (fun i => ((xs.getD i (0, 0)).1, negW (xs.getD i (0, 0)).2)))) (fun _ _ i _ => n - (intOf i).toNat)
  case atStart => exact ⟨0, by omega, rfl, HE.out, HR0.out⟩
  case round =>
    obtain ⟨k, hk, rfl, HI⟩ := hrel
    by_cases hlt : k < n
    · obtain ⟨b, off, hA, hlb, hcell⟩ := HS.out.2 (by omega)
      subst hA
      obtain ⟨c1, c2⟩ := hcell k hlt
      have d1 := Ext.cellOf HI.out.1 c1
      have d2 := Ext.cellOf HI.out.1 c2
      have hbv : decide ((k : Int) < (n : Int)) = true := by simp; omega
      obtain ⟨v0, hv0⟩ := HI.out.2.2.1 (k * 2) (by omega)
      obtain ⟨v1, hv1⟩ := HI.out.2.2.1 (k * 2 + 1) (by omega)
      have f0 := HI.out.2.2.2.1 (k * 2)
      have f1 := HI.out.2.2.2.1 (k * 2 + 1)
      have hsb : b < wr.heap.size := Nat.lt_of_lt_of_le hlb HI.out.1.size
      have hsg : w.heap.size < wr.heap.size := HI.out.2.1
      have HN : Hid (negW (xs.getD k (0, 0)).2 = wrap64 (-(xs.getD k (0, 0)).2)) := rfl
      have HP : Hid (∀ a b, a = (xs.getD k (0, 0)).1 → b = negW (xs.getD k (0, 0)).2 → ∀ o, SRow (((wr.setCell ⟨w.heap.size, k * 2, none⟩ (.int .i64 a)).setCell ⟨w.heap.size, k * 2 + 1, none⟩ (.int .i64 b)).alloc o) w.heap.size n (k + 1) (fun i => ((xs.getD i (0, 0)).1, negW (xs.getD i (0, 0)).2))) := fun a b ha hb o => (HI.out.2.put hlt ha hb).ext (Ext.al Ext.rfl' o)
      have HEr := Lib.hid HI.out.1
      clear c1 c2 hcell HI
      generalize (xs.getD k (0, 0)).1 = q at *
      generalize (xs.getD k (0, 0)).2 = p at *
      go_wp2_with fail
      go_roundw
      case rel => exact ⟨k + 1, by omega, by go_num, Ext.al (Below.setCell (Below.setCell HEr.out (p := ⟨w.heap.size, k * 2, none⟩) (Nat.le_refl _) _) (p := ⟨w.heap.size, k * 2 + 1, none⟩) (Nat.le_refl _) _) _, HP.out _ _ rfl HN.out.symm _⟩
      case measure => simp [intOf]; omega
    · have hbv : decide ((k : Int) < (n : Int)) = false := by simp; omega
      have hkn : k = n := by omega
      subst hkn
      have HF := Lib.hid HI.out
      clear HI
      go_wp2_with fail
      go_ret
      refine ⟨_, rfl, ⟨by simp [negL, HS.out.1], fun _ => ⟨w.heap.size, 0, rfl, HF.out.2.1, fun i hi => ?_⟩⟩, Nat.le_refl _, by simp [maxLen]; omega, HF.out.1, HF.out.2⟩
      have := HF.out.2.2.2.2 i hi
      have hx : i < xs.length := by rw [HS.out.1]; exact hi
      have e : (negL xs).getD i (0, 0) = ((xs.getD i (0, 0)).1, negW (xs.getD i (0, 0)).2) := by simp [negL, List.getD, hx]
      rw [Nat.zero_add, e]
      exact this

theorem negate_any (A : Option Addr) (n c : Nat) (xs : List (Int × Int)) (w : World) (hs : StepsAt w A n xs) (hn : n ≤ 100) :
    Calls Try.prog 28 #[.slice A n c] w fun e w' => ∃ A' c', e = .returned (.slice A' n c') ∧ StepsAt w' A' n (negL xs) ∧ n ≤ c' ∧ c' ≤ maxLen ∧ Ext w w' := by
  refine (negate_new A n c xs w hs hn).mono ?_
  rintro e w' ⟨c', h1, h2, h3, h4, h5, -⟩
  exact ⟨_, c', h1, h2, h3, h4, h5⟩

set_option maxRecDepth 100000 in
set_option maxHeartbeats 4000000 in
theorem same_steps (A : Option Addr) (n c : Nat) (B : Option Addr) (d : Nat) (xs : List (Int × Int)) (w : World) (hx : StepsAt w A n xs) (hy : StepsAt w B n xs) (hn : n ≤ 100) :
    Calls Try.prog 34 #[.slice A n c, .slice B n d] w fun e w' => e = .returned (.bool true) ∧ Ext w w' := by
  have HX := Lib.hid hx
  have HY := Lib.hid hy
  clear hx hy
  go_enter Try.func34, Try.ntmps34
  go_wp2_with fail
  go_loopw [5] (fun i wr => ∃ k : Nat, k ≤ n ∧ i = .int .i64 k ∧ Hid (Ext w wr)) (fun i _ => n - (intOf i).toNat)
  case atStart => exact ⟨0, by omega, rfl, Ext.rfl'⟩
  case round =>
    obtain ⟨k, hk, rfl, HE⟩ := hrel
    by_cases hlt : k < n
    · obtain ⟨b, off, hA, hlb, hcell⟩ := HX.out.2 (by omega)
      obtain ⟨b2, off2, hB, hlb2, hcell2⟩ := HY.out.2 (by omega)
      subst hA hB
      obtain ⟨c1, c2⟩ := hcell k hlt
      obtain ⟨e1, e2⟩ := hcell2 k hlt
      have d1 := Ext.cellOf HE.out c1
      have d2 := Ext.cellOf HE.out c2
      have g1 := Ext.cellOf HE.out e1
      have g2 := Ext.cellOf HE.out e2
      have hbv : decide ((k : Int) < (n : Int)) = true := by simp; omega
      generalize (xs.getD k (0, 0)).1 = q at *
      generalize (xs.getD k (0, 0)).2 = p at *
      clear c1 c2 e1 e2 hcell hcell2
      go_wp2_with fail
      go_quiet (fail)
      go_wp2_with fail
      go_roundw
      case rel => exact ⟨k + 1, by omega, by go_num, below_drewN HE.out _⟩
      case measure => simp [intOf]; omega
    · have hbv : decide ((k : Int) < (n : Int)) = false := by simp; omega
      go_wp2_with fail
      go_ret
      exact ⟨rfl, HE.out⟩
end Go.Proofs.Ytppcpklnnbgcjaa
