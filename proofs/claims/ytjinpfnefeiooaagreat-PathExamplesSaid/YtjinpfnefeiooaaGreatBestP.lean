/- A part of the proof. -/
import Derived.Test.YtjinpfnefeiooaaGreatCho
namespace Go.Proofs.YtjinpfnefeiooaaGreat
open Go.RowKit

def OutAt (w : World) (u : U) (ps : List Rat) (gO B0 N lo hi : Nat) : Prop := RowN w gO (hi + 1) ∧ ∀ j, lo ≤ j → j ≤ hi → ∃ g, w.cell? ⟨gO, j, none⟩ = some (.slice (some ⟨g, 0, none⟩) N N) ∧ B0 ≤ g ∧ ChRow w B0 [] g N (fun i => u.dp (ps.drop j) ((i : Int) - u.down))
theorem OutAt.ext {w w' : World} {u : U} {ps : List Rat} {gO B0 N lo hi : Nat} (h : OutAt w u ps gO B0 N lo hi) (hb : Ext w w') : OutAt w' u ps gO B0 N lo hi := by
 refine ⟨h.1.ext hb, fun j h1 h2 => ?_⟩
 obtain ⟨g, a, b, c⟩ := h.2 j h1 h2
 exact ⟨g, Ext.cellOf hb a, b, c.ext hb⟩
theorem OutAt.touch {g' : Nat} {w w' : World} (ht : Touch g' w w') {u : U} {ps : List Rat} {gO B0 N lo hi : Nat} (h : OutAt w u ps gO B0 N lo hi) (hne : gO ≠ g') (hB : g' < B0) : OutAt w' u ps gO B0 N lo hi := by
 refine ⟨h.1.touch ht hne, fun j h1 h2 => ?_⟩
 obtain ⟨g, a, b, c⟩ := h.2 j h1 h2
 exact ⟨g, by rw [ht.cell (p := ⟨gO, j, none⟩) hne]; exact a, b, c.touch ht (by omega) (.inl hB)⟩
theorem OutAt.put {w w' : World} {u : U} {ps : List Rat} {gO B0 N lo lo' hi : Nat} (h : OutAt w u ps gO B0 N lo' hi) (hl : lo' = lo + 1) {g : Nat} (hp : PutVs gO lo [.slice (some ⟨g, 0, none⟩) N N] w w') (hr : ChRow w B0 [] g N (fun i => u.dp (ps.drop lo) ((i : Int) - u.down))) (hO : gO < B0) (hg : B0 ≤ g) : OutAt w' u ps gO B0 N lo hi := by
 refine ⟨h.1.putVs hp, fun j h1 h2 => ?_⟩
 by_cases he : j = lo
 ·subst he
  exact ⟨g, by simpa using hp.here 0 _ rfl, hg, hr.touch hp.touch (by omega) (.inl hO)⟩
 ·obtain ⟨g', a, b, c⟩ := h.2 j (by omega) h2
  exact ⟨g', by rw [hp.far j (by simp; omega)]; exact a, b, c.touch hp.touch (by omega) (.inl hO)⟩
theorem info_rows : (Tryz.prog.info? 71).map (fun i => (i.zero, i.size, i.bytes)) = some (some (.slice none 0 0), 1, 24) := by kernel_rfl
theorem info_bool : (Tryz.prog.info? 4).map (fun i => (i.zero, i.size, i.bytes)) = some (some (.bool false), 1, 1) := by kernel_rfl
theorem pdrop_cons {ps : List Rat} {h : Nat} (hh : h < ps.length) : ps.drop h = ps.getD h 0 :: ps.drop (h + 1) := by
 rw [List.drop_eq_getElem_cons hh]
 simp [List.getD, hh]
theorem alloc_ch (o : Oper) (ho : o.op = .alloc 76) (a : Act) (w : World) : (execOp a.eval o).run Tryz.prog w = .ok (.value (.pointer (some ⟨w.heap.size, 0, none⟩))) (w.alloc (.cells #[.bool false, .slice none 0 0, .bool false, .slice none 0 0, .bool false, .int .i64 0] 76)) := by
 obtain ⟨dst, op, type, pos, after, guard⟩ := o
 simp only at ho
 subst ho
 kernel_rfl
theorem makes_ch {l : List Oper} {f : Nat} {o : Oper} (h : l[f]? = some o) (ho : o.op = .alloc 76) : Makes Tryz.prog l.toArray (fun _ => .cells #[.bool false, .slice none 0 0, .bool false, .slice none 0 0, .bool false, .int .i64 0] 76) f := ⟨o, by simpa using h, fun a w => alloc_ch o ho a w⟩
def U.bestV (u : U) (ps : List Rat) : Rat := if u.pchk ps.length = 0 then (u.dp ps u.init).v else 0
def RetBest (w : World) (u : U) (ps : List Rat) (e : Ending) (w' : World) : Prop := ∃ v s A n c t B m d, e = .returned (.tuple #[v, .agg #[.bool s, .slice A n c, .bool t, .slice B m d], .int .i64 (u.pchk ps.length)]) ∧ QCan w' w.heap.size s A n c t B m d (u.bestV ps) ∧ Ext w w' ∧
 (u.pchk ps.length ≠ 0 → v = .slice none 0 0) ∧ (u.pchk ps.length = 0 → ∃ g, v = .slice (some ⟨g, 0, none⟩) ps.length ps.length ∧ w.heap.size ≤ g ∧ RowN w' g ps.length ∧ ∀ i, i < ps.length → w'.cell? ⟨g, i, none⟩ = some (.bool ((u.path ps u.init).getD i false)))
theorem path_step {u : U} (h : u.ok = true) {ps : List Rat} {s0 s : Int} {k : Nat} (hk : k < ps.length) (hs : u.isState s = true) (hp : (u.path ps s0).drop k = u.path (ps.drop k) s) :
  (u.path ps s0).getD k false = (u.dp (ps.drop k) s).on ∧ u.isState (u.dp (ps.drop k) s).after = true ∧ (u.path ps s0).drop (k + 1) = u.path (ps.drop (k + 1)) (u.dp (ps.drop k) s).after := by
 have hd := pdrop_cons hk
 rw [hd] at hp
 have hc := choice_after h hs (ps.getD k 0) (ps.drop (k + 1))
 rw [← hd] at hc
 have hq : (u.path ps s0).drop k = (u.dp (ps.drop k) s).on :: u.path (ps.drop (k + 1)) (u.dp (ps.drop k) s).after := by rw [hp, hd]; rfl
 refine ⟨?_, ?_, ?_⟩
 ·have e1 : ((u.path ps s0).drop k)[0]? = some (u.dp (ps.drop k) s).on := by rw [hq]; rfl
  rw [List.getElem?_drop, Nat.add_zero] at e1
  simp [List.getD, e1]
 ·rw [hc.1]
  exact U.next_state (U.good h) hs hc.2
 ·rw [← List.tail_drop, hq]
  rfl
end Go.Proofs.YtjinpfnefeiooaaGreat
