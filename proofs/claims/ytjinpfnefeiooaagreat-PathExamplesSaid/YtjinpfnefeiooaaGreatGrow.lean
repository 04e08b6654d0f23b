/- A part of the proof. -/
import Derived.Test.YtjinpfnefeiooaaGreatBest
import Derived.Test.YtjinpfnefeiooaaGreatLaw23B
namespace Go.Proofs.YtjinpfnefeiooaaGreat
open Go.RowKit

def QsRaw (w : World) (P : Option Addr) (n : Nat) (ps : List Rat) (ln : Nat → Nat × Nat) : Prop :=
 ps.length = n ∧ (∀ i, (ln i).1 ≤ maxLen ∧ (ln i).2 ≤ maxLen) ∧ (0 < n → ∃ b off, P = some ⟨b, off, none⟩ ∧ b < w.heap.size ∧ ∀ i, i < n → ∃ (s : Bool) (A : Option Addr) (c : Nat) (t : Bool) (B : Option Addr) (d : Nat),
  w.cell? ⟨b, off + i * 4, none⟩ = some (.bool s) ∧ w.cell? ⟨b, off + i * 4 + 1, none⟩ = some (.slice A (ln i).1 c) ∧ w.cell? ⟨b, off + i * 4 + 2, none⟩ = some (.bool t) ∧ w.cell? ⟨b, off + i * 4 + 3, none⟩ = some (.slice B (ln i).2 d) ∧
  QIs w s A (ln i).1 c t B (ln i).2 d (ps.getD i 0))
theorem QsRaw.ext {w w' : World} {P : Option Addr} {n : Nat} {ps : List Rat} {ln : Nat → Nat × Nat} (h : QsRaw w P n ps ln) (hb : Ext w w') : QsRaw w' P n ps ln := by
 refine ⟨h.1, h.2.1, fun hn => ?_⟩
 obtain ⟨b, off, ha, hlt, hc⟩ := h.2.2 hn
 refine ⟨b, off, ha, Nat.lt_of_lt_of_le hlt hb.size, fun i hi => ?_⟩
 obtain ⟨s, A, c, t, B, d, h0, h1, h2, h3, h4⟩ := hc i hi
 exact ⟨s, A, c, t, B, d, Ext.cellOf hb h0, Ext.cellOf hb h1, Ext.cellOf hb h2, Ext.cellOf hb h3, h4.ext hb⟩
theorem QsRaw.at {w : World} {P : Option Addr} {n : Nat} {ps : List Rat} {ln : Nat → Nat × Nat} (h : QsRaw w P n ps ln) (hl : ∀ i, i < n → (ln i).1 ≤ 6 ∧ (ln i).2 ≤ 6) : QsAt w P n ps := by
 refine ⟨h.1, fun hn => ?_⟩
 obtain ⟨b, off, ha, hlt, hc⟩ := h.2.2 hn
 refine ⟨b, off, ha, hlt, fun i hi => ?_⟩
 obtain ⟨s, A, c, t, B, d, h0, h1, h2, h3, h4⟩ := hc i hi
 have := hl i hi
 exact ⟨s, A, _, c, t, B, _, d, h0, h1, h2, h3, h4, by omega, by omega⟩
theorem QIs.grown {w w' : World} {row : Option Nat} (hg : w.grownBy w' row) {s : Bool} {A : Option Addr} {n c : Nat} {t : Bool} {B : Option Addr} {m d : Nat} {q : Rat} (h : QIs w s A n c t B m d q) (ha : AwayO row A n ∧ AwayO row B m) : QIs w' s A n c t B m d q := by
 obtain ⟨z, y, ⟨xs, h1, h2⟩, ⟨ys, h3, h4⟩, h5⟩ := h
 exact ⟨z, y, ⟨xs, h1.grown hg ha.1, h2⟩, ⟨ys, h3.grown hg ha.2, h4⟩, h5⟩
def QOwn (w : World) (B0 : Nat) (v : Value) (n : Nat) (ps : List Rat) : Prop := ps.length = n ∧ ∃ cs, w.ownsRow B0 29 4 v n cs ∧ ∀ i, i < n → ∃ (s : Bool) (A : Option Addr) (m c : Nat) (t : Bool) (B : Option Addr) (k d : Nat),
 cs[i * 4]? = some (.bool s) ∧ cs[i * 4 + 1]? = some (.slice A m c) ∧ cs[i * 4 + 2]? = some (.bool t) ∧ cs[i * 4 + 3]? = some (.slice B k d) ∧ QIs w s A m c t B k d (ps.getD i 0) ∧ (m ≤ 1000 ∧ k ≤ 1000) ∧ AwayO v.ownBlock A m ∧ AwayO v.ownBlock B k
theorem QOwn.nil (w : World) (B0 : Nat) : QOwn w B0 (.slice none 0 0) 0 [] := ⟨rfl, [], own_nil _ _ _ _, fun i hi => by omega⟩
theorem QOwn.ext {w w' : World} {B0 : Nat} {v : Value} {n : Nat} {ps : List Rat} (h : QOwn w B0 v n ps) (hb : Ext w w') : QOwn w' B0 v n ps := by
 obtain ⟨h1, cs, h2, h3⟩ := h
 refine ⟨h1, cs, own_keep h2 (fun g hg => hb.block g (own_lt h2 hg).1), fun i hi => ?_⟩
 obtain ⟨s, A, m, c, t, B, k, d, a0, a1, a2, a3, a4, a5⟩ := h3 i hi
 exact ⟨s, A, m, c, t, B, k, d, a0, a1, a2, a3, a4.ext hb, a5⟩
theorem QOwn.push {w w' : World} {B0 : Nat} {v : Value} {n : Nat} {ps : List Rat} {cs : List Value} (h1 : ps.length = n) (h2 : w.ownsRow B0 29 4 v n cs) (h3 : ∀ i, i < n → ∃ (s : Bool) (A : Option Addr) (m c : Nat) (t : Bool) (B : Option Addr) (k d : Nat),
  cs[i * 4]? = some (.bool s) ∧ cs[i * 4 + 1]? = some (.slice A m c) ∧ cs[i * 4 + 2]? = some (.bool t) ∧ cs[i * 4 + 3]? = some (.slice B k d) ∧ QIs w s A m c t B k d (ps.getD i 0) ∧ (m ≤ 1000 ∧ k ≤ 1000) ∧ AwayO v.ownBlock A m ∧ AwayO v.ownBlock B k)
  {g cap : Nat} {s : Bool} {A : Option Addr} {m c : Nat} {t : Bool} {B : Option Addr} {k d : Nat} {p : Rat} (hq : QIs w s A m c t B k d p) (hl : m ≤ 1000 ∧ k ≤ 1000) (ha : AwayO v.ownBlock A m ∧ AwayO v.ownBlock B k)
  (hown : w'.ownsRow B0 29 4 (.slice (some ⟨g, 0, none⟩) (n + 1) cap) (n + 1) (cs ++ [.bool s, .slice A m c, .bool t, .slice B k d])) (hgr : w.grownBy w' v.ownBlock) (hgg : v.ownBlock = some g ∨ g = w.heap.size) :
  QOwn w' B0 (.slice (some ⟨g, 0, none⟩) (n + 1) cap) (n + 1) (ps ++ [p]) := by
 have hcs : cs.length = n * 4 := h2.1
 have aw : ∀ {s : Bool} {A : Option Addr} {m c : Nat} {t : Bool} {B : Option Addr} {k d : Nat} {q : Rat}, QIs w s A m c t B k d q → AwayO v.ownBlock A m ∧ AwayO v.ownBlock B k → AwayO (some g) A m ∧ AwayO (some g) B k := fun {_ _ _ _ _ _ _ _ _} hq ha => by
  rcases hgg with e | e
  ·rw [← e]; exact ha
  ·have := hq.away (g + 1)
   rw [← e] at this
   exact ⟨fun g' hg' => by injection hg' with hg'; subst hg'; exact this.1, fun g' hg' => by injection hg' with hg'; subst hg'; exact this.2⟩
 refine ⟨by simp [h1], _, hown, fun i hi => ?_⟩
 by_cases he : i < n
 ·obtain ⟨s', A', m', c', t', B', k', d', a0, a1, a2, a3, a4, a5, a6⟩ := h3 i he
  refine ⟨s', A', m', c', t', B', k', d', ?_, ?_, ?_, ?_, ?_, a5, aw a4 a6⟩
  ·rw [List.getElem?_append_left (by omega)]; exact a0
  ·rw [List.getElem?_append_left (by omega)]; exact a1
  ·rw [List.getElem?_append_left (by omega)]; exact a2
  ·rw [List.getElem?_append_left (by omega)]; exact a3
  ·rw [show (ps ++ [p]).getD i 0 = ps.getD i 0 by simp [List.getD, List.getElem?_append_left (show i < ps.length by omega)]]
   exact a4.grown hgr a6
 ·have hin : i = n := by omega
  subst hin
  refine ⟨s, A, m, c, t, B, k, d, ?_, ?_, ?_, ?_, ?_, hl, aw hq ha⟩
  ·rw [List.getElem?_append_right (by omega), hcs, Nat.sub_self]; rfl
  ·rw [List.getElem?_append_right (by omega), hcs, show i * 4 + 1 - i * 4 = 1 by omega]; rfl
  ·rw [List.getElem?_append_right (by omega), hcs, show i * 4 + 2 - i * 4 = 2 by omega]; rfl
  ·rw [List.getElem?_append_right (by omega), hcs, show i * 4 + 3 - i * 4 = 3 by omega]; rfl
  ·rw [show (ps ++ [p]).getD i 0 = p by simp [List.getD, ← h1]]
   exact hq.grown hgr ha
theorem QOwn.at {w : World} {B0 : Nat} {v : Value} {n : Nat} {ps : List Rat} (h : QOwn w B0 v n ps) : ∃ P c, v = .slice P n c ∧ n ≤ maxLen ∧ QsAt w P n ps := by
 obtain ⟨h1, cs, h2, h3⟩ := h
 have h2' := h2
 rcases h2.2 with ⟨rfl, hn⟩ | ⟨g, cap, cur, rfl, hb, hh, hc1, hc2, hc3, hc4⟩
 ·subst hn
  exact ⟨none, 0, rfl, by simp, h1, fun h => absurd h (by omega)⟩
 ·refine ⟨_, _, rfl, by omega, h1, fun _ => ⟨g, 0, rfl, (own_lt h2' rfl).1, fun i hi => ?_⟩⟩
  obtain ⟨s, A, m, c, t, B, k, d, a0, a1, a2, a3, a4, a5, _⟩ := h3 i hi
  refine ⟨s, A, m, c, t, B, k, d, ?_, ?_, ?_, ?_, a4, a5⟩
  ·rw [Nat.zero_add, h2'.cellAt (i * 4) (by omega)]; exact a0
  ·rw [Nat.zero_add, h2'.cellAt (i * 4 + 1) (by omega)]; exact a1
  ·rw [Nat.zero_add, h2'.cellAt (i * 4 + 2) (by omega)]; exact a2
  ·rw [Nat.zero_add, h2'.cellAt (i * 4 + 3) (by omega)]; exact a3
end Go.Proofs.YtjinpfnefeiooaaGreat
