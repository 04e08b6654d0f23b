/- Contracts of the parser's methods (advance, word, integer, expect). Printed by gen_txl.py. -/
import Derived.Test.YtkdbpcenehhopaaTxE
import Derived.Test.YtkdbpcenehhopaaTxK
namespace Go.Proofs.Ytkdbpcenehhopaa
open Go.RowKit
/-- Of what was there only block g may have changed. -/
abbrev Mv (g : Nat) (w w' : World) : Prop := w.grownBy w' (some g)
theorem Mv.of {g : Nat} {w w' : World} (h : Ext w w') : Mv g w w' := ⟨h.os, h.tape, h.output, h.size, fun k hk _ => h.block k hk⟩
theorem Mv.trans {g : Nat} {a b c : World} (h : Mv g a b) (k : Mv g b c) : Mv g a c := ⟨k.os.trans h.os, k.tape.trans h.tape, k.output.trans h.output, Nat.le_trans h.size k.size, fun x hx hn => (k.block x (Nat.lt_of_lt_of_le hx h.size) hn).trans (h.block x hx hn)⟩
theorem Mv.set {g : Nat} {w w' : World} (h : Mv g w w') (i : Nat) (v : Value) : Mv g w (w'.setCell ⟨g, i, none⟩ v) := grown_put h i v
theorem Mv.ext {g : Nat} {w0 w w' : World} (h : Mv g w w') (h0 : Ext w0 w) (hg : w0.heap.size ≤ g) : Ext w0 w' := ext_grownW h0 h fun k e => by cases e; exact hg

theorem alloc_t (o : Oper) (ho : o.op = .alloc 75) (a : Act) (w : World) : (execOp a.eval o).run Try.prog w = .ok (.value (.pointer (some ⟨w.heap.size, 0, none⟩))) (w.alloc (.cells #[.int .u8 0, .string ⟨#[]⟩, .bool false, .slice none 0 0, .bool false, .slice none 0 0] 75)) := by
  obtain ⟨dst, op, type, pos, after, guard⟩ := o
  simp only at ho
  subst ho
  kernel_rfl
theorem makes_t {l : List Oper} {f : Nat} {o : Oper} (h : l[f]? = some o) (ho : o.op = .alloc 75) : Makes Try.prog l.toArray (fun _ => .cells #[.int .u8 0, .string ⟨#[]⟩, .bool false, .slice none 0 0, .bool false, .slice none 0 0] 75) f := ⟨o, by simpa using h, fun a w => alloc_t o ho a w⟩
theorem RowN.mv {g r n : Nat} {w w' : World} (h : RowN w r n) (hm : Mv g w w') (hne : r ≠ g) : RowN w' r n := by
  have hb : w'.heap[r]? = w.heap[r]? := hm.block r h.1 (fun e => hne (by injection e))
  exact ⟨Nat.lt_of_lt_of_le h.1 hm.size, fun j hj => by rw [World.cell?_of_block (w := w) (w' := w') (a := ⟨r, j, none⟩) hb]; exact h.2.1 j hj, fun j => by rw [World.frozen?_of_block (w := w) (w' := w') (a := ⟨r, j, none⟩) hb]; exact h.2.2 j⟩
theorem Mv.cell {g : Nat} {w w' : World} (h : Mv g w w') {p : Addr} {v : Value} (hc : w.cell? p = some v) (hne : p.block ≠ g) : w'.cell? p = some v := World.grownBy.cell h hc (fun e => hne (by injection e))
theorem Touch.io {r : Nat} {w w' : World} (ht : Touch r w w') : w'.os = w.os ∧ w'.tape = w.tape ∧ w'.output = w.output := by
  have h := ht.ext { w with heap := #[] } ⟨rfl, rfl, rfl, Nat.zero_le _, fun k hk => absurd hk (by simp)⟩ (by simp)
  exact ⟨h.os, h.tape, h.output⟩
theorem Mv.touch {g r : Nat} {w w1 w2 : World} (h : Mv g w w1) (ht : Touch r w1 w2) (hr : w.heap.size ≤ r) : Mv g w w2 := by
  have he := ht.io
  exact ⟨he.1.trans h.os, he.2.1.trans h.tape, he.2.2.trans h.output, by rw [ht.size]; exact h.size, fun k hk hn => (ht.block k (by omega)).trans (h.block k hk hn)⟩
end Go.Proofs.Ytkdbpcenehhopaa
