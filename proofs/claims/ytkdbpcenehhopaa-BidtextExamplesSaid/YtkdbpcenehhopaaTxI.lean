/- The contract of nettext.ParseNet. Printed by gen_txi.py. -/
import Derived.Test.YtkdbpcenehhopaaTxJ
namespace Go.Proofs.Ytkdbpcenehhopaa
open Go.RowKit
/-- The parser in block g, read off the world. -/
def psOf (w : World) (g : Nat) : PS := match w.cell? ⟨g, 1, none⟩, w.cell? ⟨g, 2, none⟩ with
  | some (.int _ k), some (.int _ e) => ⟨k, e⟩
  | _, _ => ⟨0, 1⟩
def lnCell (z : List Int) : List Value := [.int .i64 (z.getD 0 0), .int .i64 (z.getD 1 0), .int .i64 (z.getD 2 0), .int .i64 (z.getD 3 0)]
def lnCells (ls : List (List Int)) : List Value := ls.flatMap lnCell
theorem lnCells_get : ∀ (ls : List (List Int)) (i j : Nat), i < ls.length → j < 4 → (lnCells ls)[i * 4 + j]? = some (.int .i64 ((ls.getD i []).getD j 0))
  | [], i, j, h, _ => by simp at h
  | z :: ls, 0, j, _, hj => by
    simp only [lnCells, List.flatMap_cons, lnCell, Nat.zero_mul, Nat.zero_add]
    match j, hj with
    | 0, _ => rfl
    | 1, _ => rfl
    | 2, _ => rfl
    | 3, _ => rfl
  | z :: ls, i + 1, j, h, hj => by
    have := lnCells_get ls i j (by simpa using h) hj
    simp only [lnCells, List.flatMap_cons] at this ⊢
    rw [List.getElem?_append_right (by simp [lnCell]; omega)]
    have e : (i + 1) * 4 + j - (lnCell z).length = i * 4 + j := by simp [lnCell]; omega
    rw [e, this]
    simp [List.getD]
/-- A network, an offset, an error. -/
def RetNet (w : World) (x : NR) (e : Ending) (w' : World) : Prop := ∃ A c, e = .returned (.tuple #[.agg #[.int .i64 x.b, .slice A x.ls.length c], .int .i64 x.nx, .int .i64 x.e]) ∧ LinesAt w' A x.ls.length x.ls ∧ Ext w w'
theorem blk_mv {g r : Nat} {w w' : World} {t : TypeId} {cs : Array Value} (h : Blk w r t cs) (hm : Mv g w w') (hne : r ≠ g) : Blk w' r t cs := h.keep (hm.block r h.lt (fun e => hne (by injection e)))
theorem blk2 {w : World} {r : Nat} {t : TypeId} {v0 v1 : Value} (h : Blk w r t #[v0, v1]) : w.cell? ⟨r, 0, none⟩ = some v0 ∧ w.cell? ⟨r, 1, none⟩ = some v1 ∧ w.frozen? ⟨r, 0, none⟩ = false ∧ w.frozen? ⟨r, 1, none⟩ = false ∧ r < w.heap.size := ⟨by rw [h.cell]; rfl, by rw [h.cell]; rfl, h.frozen 0, h.frozen 1, h.lt⟩

end Go.Proofs.Ytkdbpcenehhopaa
