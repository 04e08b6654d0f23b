/- A part of the proof. -/
import Derived.WalkKit
import Derived.WalkSpells
import Derived.WalkLawsBesides
import Derived.Deep.QuietTactic
import Derived.BigQuiet
import Derived.Outline
import Derived.Laws.EntriesVeiled
import Derived.Lib.Hide
namespace Go.Proofs.YtjinpfnefeiooaaGreat
open Go.RowKit

abbrev Ext (w w' : World) : Prop := Below w.heap.size w w'
theorem Ext.trans {a b c : World} (h : Ext a b) (k : Ext b c) : Ext a c := Below.trans h (Below.mono k h.size)
theorem quiet_eq {P : Program} {f : FuncId} {args : Array Value} {w : World} {n : Nat} {v : Value}
  (h : Calls P f args (w.drewN n) fun e w' => e = .returned v ∧ w.drewN n = w') : Calls P f args (w.drewN n) fun e w'' => e = .returned v ∧ ∃ m, w'' = w.drewN m :=
 h.mono fun _ _ ⟨he, hm⟩ => ⟨he, n, hm.symm⟩
theorem below_drewN {B : Nat} {a w : World} (h : Below B a w) (n : Nat) : Below B a (w.drewN n) := ⟨h.os, h.tape, h.output, h.size, h.block⟩
structure ExtOf (w0 : World) where
 w : World
 h : Ext w0 w
instance (w0 : World) : Nonempty (ExtOf w0) := ⟨⟨w0, Below.refl _ _⟩⟩
theorem ExtOf.cell {w0 : World} (x : ExtOf w0) {p : Addr} {v : Value} (hc : w0.cell? p = some v) : x.w.cell? p = some v :=
 (x.h.cell (World.block_lt_of_cell? w0 p hc)).trans hc
theorem wp_region_ext {P : Program} {id : Nat} {Q : Exit → Act → World → Prop} {a : Act} {w : World} {l : List Oper} (hm : P.follows .mixedOrders = true) (hB : Region.lexB .any l.toArray = true)
  (h : wpQuiet P l.toArray (fun w' => ∃ x : ExtOf w, w' = x.w) (fun a' => ∀ w', (∃ x : ExtOf w, w' = x.w) → Q .normal a' w') l a) : (Code.region id l.toArray true).wp P Q a w :=
 wp_region_quiet (C := fun w' => ∃ x : ExtOf w, w' = x.w) hm hB ⟨⟨w.drew, (Below.refl _ _).drew⟩, rfl⟩ (by simpa using h)
theorem ext_call {P : Program} {f : FuncId} {args : Array Value} {w0 : World} {x : ExtOf w0} {v : Value}
  (h : Calls P f args x.w fun e w' => e = .returned v ∧ Ext x.w w') : Calls P f args x.w fun e w'' => e = .returned v ∧ ∃ y : ExtOf w0, w'' = y.w :=
 h.mono fun _ w' ⟨he, hm⟩ => ⟨he, ⟨w', Ext.trans x.h hm⟩, rfl⟩
theorem Ext.rfl' {w : World} : Ext w w := Below.refl _ _
theorem Ext.al {w w' : World} (h : Ext w w') (o : Obj) : Ext w (w'.alloc o) := Below.alloc h h.size o
theorem Ext.new {w w' : World} {o : Obj} (h : Ext (w.alloc o) w') : Ext w w' := Ext.trans ((Below.refl _ _).alloc (Nat.le_refl _) o) h
theorem Ext.cellOf {w w' : World} (h : Ext w w') {p : Addr} {v : Value} (hc : w.cell? p = some v) : w'.cell? p = some v :=
 (h.cell (World.block_lt_of_cell? w p hc)).trans hc
theorem ET {a b c : World} (h : Ext a b) (k : Ext b c) : Ext a c := Ext.trans h k
theorem LH {p : Prop} (h : p) : Hid p := Lib.hid h
end Go.Proofs.YtjinpfnefeiooaaGreat
