/- A part of the proof. -/
import Derived.Test.YtjinpfnefeiooaaGreatHalve
import Derived.Test.YtjinpfnefeiooaaGreatStepX
namespace Go.Proofs.YtjinpfnefeiooaaGreat
open Go.RowKit
def IntsAt (w : World) (A : Option Addr) (n : Nat) (zs : List Int) : Prop := zs.length = n ∧ ∃ b off, A = some ⟨b, off, none⟩ ∧ b < w.heap.size ∧ ∀ i, i < n → w.cell? ⟨b, off + i, none⟩ = some (.int .i64 (zs.getD i 0))
theorem IntsAt.below {w w' : World} {A : Option Addr} {n : Nat} {zs : List Int} (h : IntsAt w A n zs) (hb : Ext w w') : IntsAt w' A n zs := by
 obtain ⟨h1, b, off, ha, hlt, hc⟩ := h
 exact ⟨h1, b, off, ha, Nat.lt_of_lt_of_le hlt hb.size, fun i hi => Ext.cellOf hb (hc i hi)⟩
end Go.Proofs.YtjinpfnefeiooaaGreat
