/- A part of the proof. -/
import Derived.Test.YtjinpfnefeiooaaGreatGrow
namespace Go.Proofs.YtjinpfnefeiooaaGreat
open Go.RowKit

def cellsFrom (w : World) (b off n : Nat) : List Value := (List.range n).map fun j => (w.cell? ⟨b, off + j, none⟩).getD (.bool false)
theorem cellsFrom_len (w : World) (b off n : Nat) : (cellsFrom w b off n).length = n := by simp [cellsFrom]
theorem cellsFrom_get {w : World} {b off n j : Nat} {u : Value} (h : (cellsFrom w b off n)[j]? = some u) : j < n ∧ u = (w.cell? ⟨b, off + j, none⟩).getD (.bool false) := by
 unfold cellsFrom at h
 rw [List.getElem?_map] at h
 rcases Nat.lt_or_ge j n with hj | hj
 ·rw [List.getElem?_range hj] at h
  simp only [Option.map_some, Option.some.injEq] at h
  exact ⟨hj, h.symm⟩
 ·rw [List.getElem?_eq_none (by simpa using hj)] at h
  simp at h
theorem raw_cell {w : World} {P : Option Addr} {k : Nat} {ps : List Rat} {ln : Nat → Nat × Nat} (h : QsRaw w P k ps ln) (hk : 0 < k) : ∃ b off, P = some ⟨b, off, none⟩ ∧ ∀ j, j < k * 4 → ∃ v, w.cell? ⟨b, off + j, none⟩ = some v ∧ v.oneCell' = true := by
 obtain ⟨b, off, e, hlt, hc⟩ := h.2.2 hk
 refine ⟨b, off, e, fun j hj => ?_⟩
 obtain ⟨s, A, c, t, B, d, h0, h1, h2, h3, -⟩ := hc (j / 4) (by omega)
 have hm : j % 4 < 4 := Nat.mod_lt _ (by omega)
 have ej : off + j = off + j / 4 * 4 + j % 4 := by omega
 rw [ej]
 generalize j % 4 = r at *
 match r, hm with
 | 0, _ => exact ⟨_, h0, rfl⟩
 | 1, _ => exact ⟨_, h1, rfl⟩
 | 2, _ => exact ⟨_, h2, rfl⟩
 | 3, _ => exact ⟨_, h3, rfl⟩
def lnCons (n m : Nat) (ln : Nat → Nat × Nat) (i : Nat) : Nat × Nat := if i = 0 then (n, m) else ln (i - 1)
theorem awayO_of {w0 : World} {A : Option Addr} {n : Nat} {B : Option Addr} {m : Nat} (h : ∀ hi, Away w0.heap.size hi A n ∧ Away w0.heap.size hi B m) : AwayO (some w0.heap.size) A n ∧ AwayO (some w0.heap.size) B m :=
 ⟨fun g hg => by injection hg with hg; subst hg; exact (h _).1, fun g hg => by injection hg with hg; subst hg; exact (h _).2⟩
theorem cons_raw {w0 w w' : World} {base : Nat} {s : Bool} {A : Option Addr} {n c : Nat} {t : Bool} {B : Option Addr} {m d : Nat} {p : Rat} {R : Option Addr} {k cap g : Nat} {ps : List Rat} {ln : Nat → Nat × Nat} {news : List Value}
  (hq : QIs w0 s A n c t B m d p) (ln1 : n ≤ maxLen) (lm1 : m ≤ maxLen) (h : QsRaw w0 R k ps ln) (hE : Ext w0 w) (hl : news.length = k * 4) (hnews : ∀ b off, R = some ⟨b, off, none⟩ → ∀ j u, news[j]? = some u → w.cell? ⟨b, off + j, none⟩ = some u)
  (hown : w'.ownsRow base 29 4 (.slice (some ⟨g, 0, none⟩) (1 + k) cap) (1 + k) ([.bool s, .slice A n c, .bool t, .slice B m d] ++ news)) (hgr : w.grownBy w' (some w0.heap.size)) :
  QsRaw w' (some ⟨g, 0, none⟩) (1 + k) (p :: ps) (lnCons n m ln) := by
 have hlps := h.1
 refine ⟨by simp [hlps, Nat.add_comm], fun i => ?_, fun _ => ⟨g, 0, rfl, (own_lt hown rfl).1, fun i hi => ?_⟩⟩
 ·unfold lnCons
  split
  ·exact ⟨ln1, lm1⟩
  ·exact h.2.1 _
 have hcs := hown.1
 rcases i with _ | i
 ·refine ⟨s, A, c, t, B, d, ?_, ?_, ?_, ?_, (hq.ext hE).grown hgr (awayO_of hq.away)⟩
  ·rw [Nat.zero_add, hown.cellAt (0 * 4) (by omega)]; rfl
  ·rw [Nat.zero_add, hown.cellAt (0 * 4 + 1) (by omega)]; rfl
  ·rw [Nat.zero_add, hown.cellAt (0 * 4 + 2) (by omega)]; rfl
  ·rw [Nat.zero_add, hown.cellAt (0 * 4 + 3) (by omega)]; rfl
 ·obtain ⟨b, off, e, hlt, hc⟩ := h.2.2 (by omega)
  obtain ⟨s', A', c', t', B', d', h0, h1, h2, h3, h4⟩ := hc i (by omega)
  have get : ∀ r v, r < 4 → w0.cell? ⟨b, off + i * 4 + r, none⟩ = some v → ([.bool s, .slice A n c, .bool t, .slice B m d] ++ news)[(i + 1) * 4 + r]? = some v := fun r v hr hv => by
   rw [List.getElem?_append_right (by simp; omega)]
   have hj : i * 4 + r < news.length := by rw [hl]; omega
   have hn := hnews b off e (i * 4 + r) _ (List.getElem?_eq_getElem hj)
   rw [show off + (i * 4 + r) = off + i * 4 + r by omega, Ext.cellOf hE hv] at hn
   have e5 : (i + 1) * 4 + r - ([.bool s, .slice A n c, .bool t, .slice B m d] : List Value).length = i * 4 + r := by simp; omega
   rw [e5, List.getElem?_eq_getElem hj]
   exact hn.symm
  have lnE : lnCons n m ln (i + 1) = ln i := by unfold lnCons; rw [if_neg (by omega)]; rfl
  rw [lnE]
  refine ⟨s', A', c', t', B', d', ?_, ?_, ?_, ?_, ?_⟩
  ·rw [Nat.zero_add, hown.cellAt ((i + 1) * 4) (by omega)]; exact get 0 _ (by omega) h0
  ·rw [Nat.zero_add, hown.cellAt ((i + 1) * 4 + 1) (by omega)]; exact get 1 _ (by omega) h1
  ·rw [Nat.zero_add, hown.cellAt ((i + 1) * 4 + 2) (by omega)]; exact get 2 _ (by omega) h2
  ·rw [Nat.zero_add, hown.cellAt ((i + 1) * 4 + 3) (by omega)]; exact get 3 _ (by omega) h3
  ·rw [show (p :: ps).getD (i + 1) 0 = ps.getD i 0 from rfl]
   exact (h4.ext hE).grown hgr (awayO_of h4.away)
set_option maxRecDepth 100000 in
theorem run_cons_q (w : World) (ty : Nat) (s : Bool) (A : Option Addr) (n c : Nat) (t : Bool) (B : Option Addr) (m d : Nat) (p : Rat) (R : Option Addr) (k dR : Nat) (ps : List Rat) (ln : Nat → Nat × Nat)
  (hq : QIs w s A n c t B m d p) (ln1 : n ≤ maxLen) (lm1 : m ≤ maxLen) (h : QsRaw w R k ps ln) (h63 : 1 + k ≤ maxLen) (hby : (1 + k) * 64 ≤ 140737488355328) :
  ∃ g cap w', (Builtin.append_ #[30, 30] ty #[.slice (some ⟨w.heap.size, 0, none⟩) 1 1, .slice R k dR]).run Tryz.prog (w.alloc (.cells #[.bool s, .slice A n c, .bool t, .slice B m d] 29)) = .ok (.slice (some ⟨g, 0, none⟩) (1 + k) cap) w' ∧ QsRaw w' (some ⟨g, 0, none⟩) (1 + k) (p :: ps) (lnCons n m ln) ∧ Ext w w' := by
 obtain ⟨i0, hi, hz0, hz1, hz2⟩ := info_parts info_q
 have hown : (w.alloc (.cells #[.bool s, .slice A n c, .bool t, .slice B m d] 29)).ownsRow w.heap.size 29 4 (.slice (some ⟨w.heap.size, 0, none⟩) 1 1) 1 [.bool s, .slice A n c, .bool t, .slice B m d] := World.ownsRow_lit (base := w.heap.size) (e := 29) (size := 4) w #[.bool s, .slice A n c, .bool t, .slice B m d] 1 (Nat.le_refl _) (by unfold maxLen; omega) rfl
 have hE : Ext w (w.alloc (.cells #[.bool s, .slice A n c, .bool t, .slice B m d] 29)) := Ext.al Ext.rfl' _
 rcases R with _ | ad
 ·have hk : k = 0 := by
   rcases Nat.eq_zero_or_pos k with h0 | h0
   ·exact h0
   ·obtain ⟨_, _, e, _⟩ := h.2.2 h0; cases e
  subst hk
  refine ⟨w.heap.size, 1, (w.alloc (.cells #[.bool s, .slice A n c, .bool t, .slice B m d] 29)), ?_, cons_raw (news := []) hq ln1 lm1 h hE rfl (fun b off e j u hj => by simp at hj) (by simpa using hown) (World.grownBy.refl _ _), hE⟩
  simp [Builtin.append_, run_underlying Tryz.underlying30, sizeOf, typeInfo, hi, Builtin.lenOf, Builtin.firstCells, storeCells]
 ·have hat : ∀ b off, some ad = some ⟨b, off, none⟩ → ∀ j u, (cellsFrom (w.alloc (.cells #[.bool s, .slice A n c, .bool t, .slice B m d] 29)) ad.block ad.off (k * 4))[j]? = some u → (w.alloc (.cells #[.bool s, .slice A n c, .bool t, .slice B m d] 29)).cell? ⟨b, off + j, none⟩ = some u := by
   intro b off e j u hj
   injection e with e
   subst e
   obtain ⟨hj1, hj2⟩ := cellsFrom_get hj
   obtain ⟨b2, off2, e2, hc⟩ := raw_cell (h.ext hE) (by omega)
   injection e2 with e2
   injection e2 with e3 e4
   subst e3 e4
   obtain ⟨v, hv, _⟩ := hc j hj1
   rw [hj2, hv]; rfl
  have hnews : ∀ j u, (cellsFrom (w.alloc (.cells #[.bool s, .slice A n c, .bool t, .slice B m d] 29)) ad.block ad.off (k * 4))[j]? = some u → (w.alloc (.cells #[.bool s, .slice A n c, .bool t, .slice B m d] 29)).cell? (ad.add j) = some u := by
   intro j u hj
   obtain ⟨hj1, hj2⟩ := cellsFrom_get hj
   obtain ⟨b2, off2, e2, hc⟩ := raw_cell (h.ext hE) (by omega)
   injection e2 with e2
   have := hat b2 off2 (by rw [e2]) j u hj
   subst e2
   have hadd : (⟨b2, off2, none⟩ : Addr).add j = ⟨b2, off2 + j, none⟩ := by by_cases h0 : j = 0 <;> simp [Addr.add, h0]
   rw [hadd]
   exact this
  have h1 : ∀ u ∈ cellsFrom (w.alloc (.cells #[.bool s, .slice A n c, .bool t, .slice B m d] 29)) ad.block ad.off (k * 4), u.oneCell' = true := by
   intro u hu
   obtain ⟨j, hj⟩ := List.getElem?_of_mem hu
   obtain ⟨hj1, hj2⟩ := cellsFrom_get hj
   obtain ⟨b2, off2, e2, hc⟩ := raw_cell (h.ext hE) (by omega)
   injection e2 with e2
   subst e2
   obtain ⟨v, hv, ho⟩ := hc j hj1
   rw [hj2, hv]; exact ho
  obtain ⟨v', w', hrun, h2, h3, h4, h5⟩ := run_append_own_at (P := Tryz.prog) (w.alloc (.cells #[.bool s, .slice A n c, .bool t, .slice B m d] 29)) w.heap.size 30 ty 29 i0 _ 4 64 Tryz.underlying30 hi hz0 hz1 hz2 rfl (by omega) _ 1 [.bool s, .slice A n c, .bool t, .slice B m d] hown ad k dR (cellsFrom (w.alloc (.cells #[.bool s, .slice A n c, .bool t, .slice B m d] 29)) ad.block ad.off (k * 4)) (cellsFrom_len _ _ _ _) hnews h1 h63 hby hE.size
  rcases h2.2 with ⟨hn, _⟩ | ⟨g, cap, cur, rfl, h6⟩
  ·exact absurd (h4.1 hn) (by rintro ⟨e1, e2⟩; cases e1)
  ·exact ⟨g, cap, w', hrun, cons_raw hq ln1 lm1 h hE (cellsFrom_len _ _ _ _) hat h2 h3, ext_grownW hE h3 (fun x e => by cases e; exact Nat.le_refl _)⟩
theorem wpList_cons_q (w : World) {ops : Array Oper} {rest : List Oper} {o : Oper} {a : Act} {Q : Exit → Act → World → Prop} (hgd : o.guard = none) (x y : Operand)
  (ho : o.op = .call { callee := .builtin .append, args := #[x, y], argTypes := #[30, 30] })
  (s : Bool) (A : Option Addr) (n c : Nat) (t : Bool) (B : Option Addr) (m d : Nat) (p : Rat) (R : Option Addr) (k dR : Nat) (ps : List Rat) (ln : Nat → Nat × Nat)
  (hx : a.eval x = .slice (some ⟨w.heap.size, 0, none⟩) 1 1) (hy : a.eval y = .slice R k dR)
  (hq : QIs w s A n c t B m d p) (ln1 : n ≤ maxLen) (lm1 : m ≤ maxLen) (h : QsRaw w R k ps ln) (h63 : 1 + k ≤ maxLen) (hby : (1 + k) * 64 ≤ 140737488355328)
  (hK : ∀ g cap w', QsRaw w' (some ⟨g, 0, none⟩) (1 + k) (p :: ps) (lnCons n m ln) → Ext w w' → wpList Tryz.prog ops Q rest (a.put o.dst (.slice (some ⟨g, 0, none⟩) (1 + k) cap)) w') :
  wpList Tryz.prog ops Q (o :: rest) a (w.alloc (.cells #[.bool s, .slice A n c, .bool t, .slice B m d] 29)) := by
 obtain ⟨g, cap, w', hrun, h2, h3⟩ := run_cons_q w o.type s A n c t B m d p R k dR ps ln hq ln1 lm1 h h63 hby
 refine wpList_plain hgd fun K hK2 => ?_
 unfold Oper.wp execOp
 simp only [ho, resolve, invoke, builtin, Sem.run_bind, Sem.run_pure, Result.andThen_ok, List.map_toArray, List.map_cons, List.map_nil, hx, hy, hrun]
 exact hK2 _ _ (hK g cap w' h2 h3)
theorem szC_hpE {u : U} {K : Nat} {p : Rat} (h : Sz K p) : Sz (K + 8028) (u.hpE p) := by
 unfold U.hpE
 split
 ·exact sz_hp ‹_› h
 ·exact sz_zero.mono (by omega)
end Go.Proofs.YtjinpfnefeiooaaGreat
