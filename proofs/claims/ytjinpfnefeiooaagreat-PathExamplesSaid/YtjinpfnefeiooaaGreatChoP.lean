/- A part of the proof. -/
import Derived.Test.YtjinpfnefeiooaaGreatProf
namespace Go.Proofs.YtjinpfnefeiooaaGreat
open Go.RowKit

def ChAt (w : World) (B0 : Nat) (gl : List Nat) (g off : Nat) (x : Ch) : Prop := ∃ (s : Bool) (A : Option Addr) (n c : Nat) (t : Bool) (B : Option Addr) (m d : Nat),
 (w.cell? ⟨g, off, none⟩ = some (.bool s) ∧ w.cell? ⟨g, off + 1, none⟩ = some (.slice A n c) ∧ w.cell? ⟨g, off + 2, none⟩ = some (.bool t) ∧ w.cell? ⟨g, off + 3, none⟩ = some (.slice B m d) ∧ w.cell? ⟨g, off + 4, none⟩ = some (.bool x.on) ∧ w.cell? ⟨g, off + 5, none⟩ = some (.int .i64 x.after)) ∧
 QCan w B0 s A n c t B m d x.v ∧ ∀ y ∈ gl, Away y (y + 1) A n ∧ Away y (y + 1) B m
theorem ChAt.ext {w w' : World} {B0 : Nat} {gl : List Nat} {g off : Nat} {x : Ch} (h : ChAt w B0 gl g off x) (hb : Ext w w') : ChAt w' B0 gl g off x := by
 obtain ⟨s, A, n, c, t, B, m, d, ⟨h0, h1, h2, h3, h4, h5⟩, h6, h7⟩ := h
 exact ⟨s, A, n, c, t, B, m, d, ⟨Ext.cellOf hb h0, Ext.cellOf hb h1, Ext.cellOf hb h2, Ext.cellOf hb h3, Ext.cellOf hb h4, Ext.cellOf hb h5⟩, h6.ext hb, h7⟩
theorem ChAt.touch {g' : Nat} {w w' : World} (ht : Touch g' w w') {B0 : Nat} {gl : List Nat} {g off : Nat} {x : Ch} (h : ChAt w B0 gl g off x) (hne : g ≠ g') (haw : g' < B0 ∨ g' ∈ gl) : ChAt w' B0 gl g off x := by
 obtain ⟨s, A, n, c, t, B, m, d, ⟨h0, h1, h2, h3, h4, h5⟩, h6, h7⟩ := h
 have e : ∀ i, w'.cell? ⟨g, i, none⟩ = w.cell? ⟨g, i, none⟩ := fun i => ht.cell (p := ⟨g, i, none⟩) hne
 refine ⟨s, A, n, c, t, B, m, d, ⟨(e _).trans h0, (e _).trans h1, (e _).trans h2, (e _).trans h3, (e _).trans h4, (e _).trans h5⟩, h6.touch ht ?_, h7⟩
 rcases haw with haw | haw
 ·have a := h6.away 0
  refine ⟨fun hn ad ha => ?_, fun hn ad ha => ?_⟩
  ·have := a.1 hn ad ha; omega
  ·have := a.2 hn ad ha; omega
 ·exact h7 _ haw
def ChRow (w : World) (B0 : Nat) (gl : List Nat) (g n : Nat) (f : Nat → Ch) : Prop := RowN w g (n * 6) ∧ ∀ i, i < n → ChAt w B0 gl g (i * 6) (f i)
theorem ChRow.ext {w w' : World} {B0 : Nat} {gl : List Nat} {g n : Nat} {f : Nat → Ch} (h : ChRow w B0 gl g n f) (hb : Ext w w') : ChRow w' B0 gl g n f := ⟨h.1.ext hb, fun i hi => (h.2 i hi).ext hb⟩
theorem ChRow.congr {w : World} {B0 : Nat} {gl : List Nat} {g n : Nat} {f f' : Nat → Ch} (h : ChRow w B0 gl g n f) (he : ∀ i, i < n → f i = f' i) : ChRow w B0 gl g n f' := ⟨h.1, fun i hi => by rw [← he i hi]; exact h.2 i hi⟩
theorem ChRow.free {w : World} {B0 : Nat} {gl : List Nat} {g n : Nat} {f : Nat → Ch} (h : ChRow w B0 gl g n f) : ChRow w B0 [] g n f := ⟨h.1, fun i hi => by
 obtain ⟨s, A, k, c, t, B, m, d, h1, h2, h3⟩ := h.2 i hi
 exact ⟨s, A, k, c, t, B, m, d, h1, h2, fun y hy => by cases hy⟩⟩
theorem ChRow.touch {g' : Nat} {w w' : World} (ht : Touch g' w w') {B0 : Nat} {gl : List Nat} {g n : Nat} {f : Nat → Ch} (h : ChRow w B0 gl g n f) (hne : g ≠ g') (haw : g' < B0 ∨ g' ∈ gl) : ChRow w' B0 gl g n f :=
 ⟨h.1.touch ht hne, fun i hi => (h.2 i hi).touch ht hne haw⟩
theorem ChRow.put {w w' : World} {B0 : Nat} {gl : List Nat} {g n : Nat} {f : Nat → Ch} (h : ChRow w B0 gl g n f) {k : Nat} (_hk : k < n) (hg : g ∈ gl) {s : Bool} {A : Option Addr} {i c : Nat} {t : Bool} {B : Option Addr} {m d : Nat} {x : Ch}
  (hp : PutVs g (k * 6) [.bool s, .slice A i c, .bool t, .slice B m d, .bool x.on, .int .i64 x.after] w w') (hq : QCan w B0 s A i c t B m d x.v) (ha : ∀ y ∈ gl, Away y (y + 1) A i ∧ Away y (y + 1) B m) :
  ChRow w' B0 gl g n (fun j => if j = k then x else f j) := by
 refine ⟨h.1.putVs hp, fun j hj => ?_⟩
 by_cases he : j = k
 ·subst he
  simp only [if_true]
  exact ⟨s, A, i, c, t, B, m, d, ⟨hp.here 0 _ rfl, hp.here 1 _ rfl, hp.here 2 _ rfl, hp.here 3 _ rfl, hp.here 4 _ rfl, hp.here 5 _ rfl⟩, hq.touch hp.touch (ha g hg), ha⟩
 ·simp only [if_neg he]
  obtain ⟨s', A', n', c', t', B', m', d', ⟨h0, h1, h2, h3, h4, h5⟩, h6, h7⟩ := h.2 j hj
  have e : ∀ o, o < 6 → w'.cell? ⟨g, j * 6 + o, none⟩ = w.cell? ⟨g, j * 6 + o, none⟩ := fun o ho => hp.far _ (by simp only [List.length_cons, List.length_nil]; omega)
  exact ⟨s', A', n', c', t', B', m', d', ⟨(e 0 (by omega)).trans h0, (e 1 (by omega)).trans h1, (e 2 (by omega)).trans h2, (e 3 (by omega)).trans h3, (e 4 (by omega)).trans h4, (e 5 (by omega)).trans h5⟩, h6.touch hp.touch (h7 g hg), h7⟩
theorem info_ch : (Tryz.prog.info? 76).map (fun i => (i.zero, i.size, i.bytes)) = some (some (.agg #[.bool false, .slice none 0 0, .bool false, .slice none 0 0, .bool false, .int .i64 0]), 6, 80) := by kernel_rfl
theorem make_chs (k : Nat) (hk : k ≤ 4294967296) (w : World) : (Instr.makeSlice 71 (.int .i64 (k : Int)) (.int .i64 (k : Int))).run Tryz.prog w = .ok (.slice (some ⟨w.heap.size, 0, none⟩) k k) (w.alloc (.cells (madeCells #[.bool false, .slice none 0 0, .bool false, .slice none 0 0, .bool false, .int .i64 0] (k * 6)) 76)) := by
 obtain ⟨i0, hi, hz0, hz1, hz2⟩ := info_parts info_ch
 have hr := run_make (P := Tryz.prog) w 71 76 i0 _ Tryz.underlying71 hi hz0 .i64 .i64 k k (by omega) (by omega) (by rw [hz2]; omega) (by omega)
 simp only [Int.toNat_natCast, hz1] at hr
 exact hr
theorem ch_made (w : World) (N B0 : Nat) (gl : List Nat) (t : TypeId) : ChRow (w.alloc (.cells (madeCells #[.bool false, .slice none 0 0, .bool false, .slice none 0 0, .bool false, .int .i64 0] (N * 6)) t)) B0 gl w.heap.size N (fun _ => Ch.zero) := by
 refine ⟨rowN_made _ _ _ _, fun i hi => ?_⟩
 have hb := Blk.new w t (madeCells #[.bool false, .slice none 0 0, .bool false, .slice none 0 0, .bool false, .int .i64 0] (N * 6))
 have e : ∀ j, j < 6 → (w.alloc (.cells (madeCells #[.bool false, .slice none 0 0, .bool false, .slice none 0 0, .bool false, .int .i64 0] (N * 6)) t)).cell? ⟨w.heap.size, i * 6 + j, none⟩ = (#[.bool false, .slice none 0 0, .bool false, .slice none 0 0, .bool false, .int .i64 0] : Array Value)[j]? := fun j hj => by
  rw [hb.cell]
  have h1 : i * 6 + j < N * 6 := by omega
  simp only [madeCells, Array.getElem?_map, Array.getElem?_range, h1, if_true, Option.map_some]
  have h2 : (i * 6 + j) % 6 = j := by omega
  rw [show (#[.bool false, .slice none 0 0, .bool false, .slice none 0 0, .bool false, .int .i64 0] : Array Value).size = 6 from rfl, h2]
  have : j = 0 ∨ j = 1 ∨ j = 2 ∨ j = 3 ∨ j = 4 ∨ j = 5 := by omega
  rcases this with rfl | rfl | rfl | rfl | rfl | rfl <;> rfl
 exact ⟨false, none, 0, 0, false, none, 0, 0, ⟨e 0 (by omega), e 1 (by omega), e 2 (by omega), e 3 (by omega), e 4 (by omega), e 5 (by omega)⟩, qcan_zero _ _, fun y _ => ⟨fun _ _ h => (by cases h), fun _ _ h => (by cases h)⟩⟩
theorem nextG_range {u : U} {s : Int} {b : Bool} (h : u.nextGB s b = true) : u.ok = true ∧ -u.down ≤ u.nextG s b ∧ u.nextG s b ≤ u.up := by
 have h0 : u.nextG s b ≠ 0 := of_decide_eq_true h
 by_cases hc : (u.ok && u.isState s) = true
 ·have e : u.nextG s b = u.next s b := by unfold U.nextG; rw [if_pos hc]
  rw [e] at h0 ⊢
  simp only [Bool.and_eq_true] at hc
  have := U.next_state (U.good hc.1) hc.2 h0
  simp only [U.isState, Bool.and_eq_true, decide_eq_true_eq] at this
  exact ⟨hc.1, by omega, by omega⟩
 ·exact absurd (show u.nextG s b = 0 by unfold U.nextG; rw [if_neg hc]) h0
section
variable {u : U} {g : Rat} {f : Int → Ch} {s : Int}
theorem choice_FF (h0 : u.nextGB s false = false) (h1 : u.nextGB s true = false) : u.choice g f s = Ch.zero := by
 unfold U.choice U.chOff; rw [h0, h1]; rfl
theorem choice_TF (h0 : u.nextGB s false = true) (h1 : u.nextGB s true = false) : u.choice g f s = ⟨(f (u.nextG s false)).v, false, u.nextG s false⟩ := by
 unfold U.choice U.chOff; rw [h0, h1]; rfl
theorem choice_FT (h0 : u.nextGB s false = false) (h1 : u.nextGB s true = true) : u.choice g f s = ⟨u.onV g f s, true, u.nextG s true⟩ := by
 unfold U.choice; rw [h0, h1, if_pos rfl, if_pos (.inl rfl)]
theorem choice_TTon (h0 : u.nextGB s false = true) (h1 : u.nextGB s true = true) (h : (f (u.nextG s false)).v < u.onV g f s) : u.choice g f s = ⟨u.onV g f s, true, u.nextG s true⟩ := by
 unfold U.choice U.chOff; rw [h0, h1, if_pos rfl, if_pos rfl, if_pos (.inr h)]
theorem choice_TToff (h0 : u.nextGB s false = true) (h1 : u.nextGB s true = true) (h : ¬ (f (u.nextG s false)).v < u.onV g f s) : u.choice g f s = ⟨(f (u.nextG s false)).v, false, u.nextG s false⟩ := by
 unfold U.choice U.chOff; rw [h0, h1, if_pos rfl, if_pos rfl, if_neg (by rintro (e | e); cases e; exact h e)]
theorem onV_neg (h : s < 0) : u.onV g f s = g + (f (u.nextG s true)).v - ((u.start : Int) : Rat) := by unfold U.onV; rw [if_pos h]
theorem onV_pos (h : ¬ s < 0) : u.onV g f s = g + (f (u.nextG s true)).v := by unfold U.onV; rw [if_neg h]
end
def rowTo (F : Nat → Ch) (k i : Nat) : Ch := if i < k then F i else Ch.zero
theorem rowTo_succ {F : Nat → Ch} {k : Nat} {x : Ch} (h : F k = x) {G : Nat → Ch} (hG : ∀ i, i ≠ k → G i = rowTo F k i) (i : Nat) : (if i = k then x else G i) = rowTo F (k + 1) i := by
 by_cases he : i = k
 ·subst he; rw [if_pos rfl]; unfold rowTo; rw [if_pos (by omega), h]
 ·rw [if_neg he, hG i he]
  unfold rowTo
  by_cases hl : i < k
  ·rw [if_pos hl, if_pos (by omega)]
  ·rw [if_neg hl, if_neg (by omega)]
end Go.Proofs.YtjinpfnefeiooaaGreat
