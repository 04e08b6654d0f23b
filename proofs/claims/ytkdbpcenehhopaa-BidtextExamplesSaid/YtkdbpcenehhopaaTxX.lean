/- Contracts of nettext.valid and nettext.ParseOutage. Printed by gen_txx.py. -/
import Derived.Test.YtkdbpcenehhopaaTxI
namespace Go.Proofs.Ytkdbpcenehhopaa
open Go.RowKit
def validO (kd wh fr to_ : Int) : Bool := decide (0 ≤ wh) && (decide (wh < if kd = 3 then 5 else 10) && (decide (0 ≤ fr) && (decide (fr ≤ to_) && decide (to_ < 8))))
/-- kind, which, from, to, offset, error -/
structure OR where
  kd : Int
  wh : Int
  fr : Int
  to_ : Int
  nx : Int
  e : Int
def outE (l : Bs) (p : PS) (kd : Int) (zs : List Int) : OR :=
  if (psE l p 2).e ≠ 0 then ⟨0, 0, 0, 0, 0, (psE l p 2).e⟩ else if validO kd (zs.getD 0 0) (zs.getD 1 0) (zs.getD 2 0) then ⟨kd, zs.getD 0 0, zs.getD 1 0, zs.getD 2 0, (psE l p 2).k, 0⟩ else ⟨0, 0, 0, 0, 0, 1⟩
def outR (l : Bs) (k : Int) : OR := outE l (psIs l 3 (psK l (psE l ⟨k, 0⟩ 1))) (psKV l (psE l ⟨k, 0⟩ 1)) (psVs l 3 (psK l (psE l ⟨k, 0⟩ 1)))
def RetOut (w : World) (x : OR) (e : Ending) (w' : World) : Prop := e = .returned (.tuple #[.agg #[.int .u8 x.kd, .int .i64 x.wh, .int .i64 x.fr, .int .i64 x.to_], .int .i64 x.nx, .int .i64 x.e]) ∧ Ext w w'
theorem blk4 {w : World} {r : Nat} {t : TypeId} {v0 v1 v2 v3 : Value} (h : Blk w r t #[v0, v1, v2, v3]) : w.cell? ⟨r, 0, none⟩ = some v0 ∧ w.cell? ⟨r, 1, none⟩ = some v1 ∧ w.cell? ⟨r, 2, none⟩ = some v2 ∧ w.cell? ⟨r, 3, none⟩ = some v3 ∧ w.frozen? ⟨r, 0, none⟩ = false ∧ w.frozen? ⟨r, 1, none⟩ = false ∧ w.frozen? ⟨r, 2, none⟩ = false ∧ w.frozen? ⟨r, 3, none⟩ = false ∧ r < w.heap.size := ⟨by rw [h.cell]; rfl, by rw [h.cell]; rfl, by rw [h.cell]; rfl, by rw [h.cell]; rfl, h.frozen 0, h.frozen 1, h.frozen 2, h.frozen 3, h.lt⟩

end Go.Proofs.Ytkdbpcenehhopaa
