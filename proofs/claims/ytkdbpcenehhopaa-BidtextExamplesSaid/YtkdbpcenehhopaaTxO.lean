/- The contract of net.Check. Printed by gen_txo.py. -/
import Derived.Test.YtkdbpcenehhopaaTxN
namespace Go.Proofs.Ytkdbpcenehhopaa
open Go.RowKit
def inB (b x : Int) : Bool := decide (0 ≤ x) && decide (x < b)
/-- The five conditions of a line. -/
def lnC (b : Int) (z : List Int) : Nat → Bool
  | 0 => inB b (z.getD 0 0)
  | 1 => inB b (z.getD 1 0)
  | 2 => !decide (z.getD 0 0 = z.getD 1 0)
  | 3 => decide (1 ≤ z.getD 2 0) && decide (z.getD 2 0 ≤ 1000)
  | _ => decide (0 ≤ z.getD 3 0) && decide (z.getD 3 0 ≤ 1000000)
def lnOk (b : Int) (z : List Int) : Bool := lnC b z 0 && (lnC b z 1 && (lnC b z 2 && (lnC b z 3 && lnC b z 4)))
def netC (b : Int) (ls : List (List Int)) : Int := if b < 1 ∨ 6 < b then 1 else if 10 < ls.length then 5 else if ls.all (lnOk b) then 0 else 1
/-- A slice of lines. -/
def LinesAt (w : World) (P : Option Addr) (n : Nat) (ls : List (List Int)) : Prop := ls.length = n ∧ (0 < n → ∃ b off, P = some ⟨b, off, none⟩ ∧ b < w.heap.size ∧ ∀ i, i < n → w.cell? ⟨b, off + i * 4, none⟩ = some (.int .i64 ((ls.getD i []).getD 0 0)) ∧ w.cell? ⟨b, off + i * 4 + 1, none⟩ = some (.int .i64 ((ls.getD i []).getD 1 0)) ∧ w.cell? ⟨b, off + i * 4 + 2, none⟩ = some (.int .i64 ((ls.getD i []).getD 2 0)) ∧ w.cell? ⟨b, off + i * 4 + 3, none⟩ = some (.int .i64 ((ls.getD i []).getD 3 0)))
theorem LinesAt.ext {w w' : World} {P : Option Addr} {n : Nat} {ls : List (List Int)} (h : LinesAt w P n ls) (hb : Ext w w') : LinesAt w' P n ls := by
  refine ⟨h.1, fun hn => ?_⟩
  obtain ⟨b, off, e, hl, hc⟩ := h.2 hn
  exact ⟨b, off, e, Nat.lt_of_lt_of_le hl hb.size, fun i hi => ⟨Ext.cellOf hb (hc i hi).1, Ext.cellOf hb (hc i hi).2.1, Ext.cellOf hb (hc i hi).2.2.1, Ext.cellOf hb (hc i hi).2.2.2⟩⟩
end Go.Proofs.Ytkdbpcenehhopaa
