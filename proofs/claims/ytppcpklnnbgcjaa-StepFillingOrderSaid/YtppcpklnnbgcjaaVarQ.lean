/- Variables that hold a rational: their cells, and where the words lie. -/
import Derived.Test.YtppcpklnnbgcjaaLexS
import Derived.Test.YtppcpklnnbgcjaaStepC
namespace Go.Proofs.Ytppcpklnnbgcjaa
open Go.RowKit

theorem QCan.span {w w' : World} {s : Bool} {A : Option Addr} {n c : Nat} {t : Bool} {B : Option Addr} {m d : Nat} {q : Rat} (h : QCan w' w.heap.size s A n c t B m d q) {g : Nat} (hg : g < w.heap.size ∨ w'.heap.size ≤ g) : Away g (g + 1) A n ∧ Away g (g + 1) B m := by
  have h1 := h.away g
  have h2 := h.is.away (g + 1)
  refine ⟨fun hn ad ha => ?_, fun hn ad ha => ?_⟩
  · have := h1.1 hn ad ha
    have := h2.1 hn ad ha
    omega
  · have := h1.2 hn ad ha
    have := h2.2 hn ad ha
    omega
theorem Fresh.putA {w : World} {B : Nat} {A : Option Addr} (h : Fresh w B A) (p : Addr) (v : Value) : Fresh (w.setCell p v) B A := fun ad ha => by
  obtain ⟨b, off, e, h1, h2, h3⟩ := h ad ha
  exact ⟨b, off, e, h1, by simpa [World.setCell] using h2, fun i => by rw [World.frozen?_setCell]; exact h3 i⟩
theorem ZCan.putA {w : World} {B : Nat} {b : Bool} {A : Option Addr} {n c : Nat} {z : Int} (h : ZCan w B b A n c z) {g : Nat} (ha : Away g (g + 1) A n) (off : Nat) (v : Value) : ZCan (w.setCell ⟨g, off, none⟩ v) B b A n c z :=
  ⟨h.1, h.2.1.putAway ha (Nat.le_refl _) (Nat.lt_succ_self _) v, h.2.2.1, h.2.2.2.1, h.2.2.2.2.putA _ _⟩
theorem QCan.put4A {w : World} {B0 : Nat} {s : Bool} {A : Option Addr} {n c : Nat} {t : Bool} {B : Option Addr} {m d : Nat} {q : Rat} (h : QCan w B0 s A n c t B m d q) {g : Nat} (ha : Away g (g + 1) A n ∧ Away g (g + 1) B m) (off : Nat) (v0 v1 v2 v3 : Value) : QCan (Go.Proofs.Ytppcpklnnbgcjaa.put4 w g off v0 v1 v2 v3) B0 s A n c t B m d q :=
  ⟨(((h.1.putA ha.1 _ _).putA ha.1 _ _).putA ha.1 _ _).putA ha.1 _ _, (((h.2.putA ha.2 _ _).putA ha.2 _ _).putA ha.2 _ _).putA ha.2 _ _⟩
theorem Cell4.of_blk {w : World} {g : Nat} {t : TypeId} {v0 v1 v2 v3 : Value} (h : w.heap[g]? = some (.cells #[v0, v1, v2, v3] t (0, 0))) : Cell4 w g v0 v1 v2 v3 := by
  have hb : Blk w g t #[v0, v1, v2, v3] := h
  exact ⟨⟨by rw [hb.cell]; rfl, by rw [hb.cell]; rfl, by rw [hb.cell]; rfl, by rw [hb.cell]; rfl⟩, ⟨hb.frozen 0, hb.frozen 1, hb.frozen 2, hb.frozen 3⟩, hb.lt⟩
/-- Block g holds this rational, in its least form, in words that lie outside the blocks gl and from block B on. -/
def VarQ (w : World) (B : Nat) (gl : List Nat) (g : Nat) (q : Rat) : Prop := ∃ s A n c t B' m d, Cell4 w g (.bool s) (.slice A n c) (.bool t) (.slice B' m d) ∧ QCan w B s A n c t B' m d q ∧ ∀ x ∈ gl, Away x (x + 1) A n ∧ Away x (x + 1) B' m
theorem VarQ.ext {w w' : World} {B : Nat} {gl : List Nat} {g : Nat} {q : Rat} (h : VarQ w B gl g q) (hb : Ext w w') : VarQ w' B gl g q := by
  obtain ⟨s, A, n, c, t, B', m, d, h1, h2, h3⟩ := h
  exact ⟨s, A, n, c, t, B', m, d, h1.ext hb, h2.ext hb, h3⟩
/-- Another variable is stored into. -/
theorem VarQ.far {w : World} {B : Nat} {gl : List Nat} {g : Nat} {q : Rat} (h : VarQ w B gl g q) {g' : Nat} (hne : g' ≠ g) (hg : g' ∈ gl) (v0 v1 v2 v3 : Value) : VarQ (put4 w g' 0 v0 v1 v2 v3) B gl g q := by
  obtain ⟨s, A, n, c, t, B', m, d, h1, h2, h3⟩ := h
  exact ⟨s, A, n, c, t, B', m, d, h1.far4 hne _ _ _ _, h2.put4A (h3 g' hg) 0 _ _ _ _, h3⟩
/-- What Op.alloc of a rational does. -/
theorem alloc_q (o : Oper) (ho : o.op = .alloc 33) (a : Act) (w : World) : (execOp a.eval o).run Try.prog w = .ok (.value (.pointer (some ⟨w.heap.size, 0, none⟩))) (w.alloc (.cells #[.bool false, .slice none 0 0, .bool false, .slice none 0 0] 33)) := by
  obtain ⟨dst, op, type, pos, after, guard⟩ := o
  simp only at ho
  subst ho
  kernel_rfl
theorem makes_q {l : List Oper} {f : Nat} {o : Oper} (h : l[f]? = some o) (ho : o.op = .alloc 33) : Makes Try.prog l.toArray (fun _ => .cells #[.bool false, .slice none 0 0, .bool false, .slice none 0 0] 33) f := ⟨o, by simpa using h, fun a w => alloc_q o ho a w⟩
end Go.Proofs.Ytppcpklnnbgcjaa
