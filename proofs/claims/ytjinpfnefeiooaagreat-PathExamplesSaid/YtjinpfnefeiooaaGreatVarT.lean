/- A part of the proof. -/
import Derived.Deep.MidRow
import Derived.Test.YtjinpfnefeiooaaGreatLexes
import Derived.Test.YtjinpfnefeiooaaGreatStepX
namespace Go.Proofs.YtjinpfnefeiooaaGreat
open Go.RowKit

theorem QCan.span {w w' : World} {s : Bool} {A : Option Addr} {n c : Nat} {t : Bool} {B : Option Addr} {m d : Nat} {q : Rat} (h : QCan w' w.heap.size s A n c t B m d q) {g : Nat} (hg : g < w.heap.size ∨ w'.heap.size ≤ g) : Away g (g + 1) A n ∧ Away g (g + 1) B m := by
 have h1 := h.away g
 have h2 := h.is.away (g + 1)
 refine ⟨fun hn ad ha => ?_, fun hn ad ha => ?_⟩
 ·have := h1.1 hn ad ha
  have := h2.1 hn ad ha
  omega
 ·have := h1.2 hn ad ha
  have := h2.2 hn ad ha
  omega
theorem Fresh.putA {w : World} {B : Nat} {A : Option Addr} (h : Fresh w B A) (p : Addr) (v : Value) : Fresh (w.setCell p v) B A := fun ad ha => by
 obtain ⟨b, off, e, h1, h2, h3⟩ := h ad ha
 exact ⟨b, off, e, h1, by simpa [World.setCell] using h2, fun i => by rw [World.frozen?_setCell]; exact h3 i⟩
theorem ZCan.putA {w : World} {B : Nat} {b : Bool} {A : Option Addr} {n c : Nat} {z : Int} (h : ZCan w B b A n c z) {g : Nat} (ha : Away g (g + 1) A n) (off : Nat) (v : Value) : ZCan (w.setCell ⟨g, off, none⟩ v) B b A n c z :=
 ⟨h.1, h.2.1.putAway ha (Nat.le_refl _) (Nat.lt_succ_self _) v, h.2.2.1, h.2.2.2.1, h.2.2.2.2.putA _ _⟩
theorem QCan.put4A {w : World} {B0 : Nat} {s : Bool} {A : Option Addr} {n c : Nat} {t : Bool} {B : Option Addr} {m d : Nat} {q : Rat} (h : QCan w B0 s A n c t B m d q) {g : Nat} (ha : Away g (g + 1) A n ∧ Away g (g + 1) B m) (off : Nat) (v0 v1 v2 v3 : Value) : QCan (Go.Proofs.YtjinpfnefeiooaaGreat.put4 w g off v0 v1 v2 v3) B0 s A n c t B m d q :=
 ⟨(((h.1.putA ha.1 _ _).putA ha.1 _ _).putA ha.1 _ _).putA ha.1 _ _, (((h.2.putA ha.2 _ _).putA ha.2 _ _).putA ha.2 _ _).putA ha.2 _ _⟩
theorem Cell4.of_blk {w : World} {g : Nat} {t : TypeId} {v0 v1 v2 v3 : Value} (h : w.heap[g]? = some (.cells #[v0, v1, v2, v3] t (0, 0))) : Cell4 w g v0 v1 v2 v3 := by
 have hb : Blk w g t #[v0, v1, v2, v3] := h
 exact ⟨⟨by rw [hb.cell]; rfl, by rw [hb.cell]; rfl, by rw [hb.cell]; rfl, by rw [hb.cell]; rfl⟩, ⟨hb.frozen 0, hb.frozen 1, hb.frozen 2, hb.frozen 3⟩, hb.lt⟩
def VarQ (w : World) (B : Nat) (gl : List Nat) (g : Nat) (q : Rat) : Prop := ∃ s A n c t B' m d, Cell4 w g (.bool s) (.slice A n c) (.bool t) (.slice B' m d) ∧ QCan w B s A n c t B' m d q ∧ ∀ x ∈ gl, Away x (x + 1) A n ∧ Away x (x + 1) B' m
theorem VarQ.ext {w w' : World} {B : Nat} {gl : List Nat} {g : Nat} {q : Rat} (h : VarQ w B gl g q) (hb : Ext w w') : VarQ w' B gl g q := by
 obtain ⟨s, A, n, c, t, B', m, d, h1, h2, h3⟩ := h
 exact ⟨s, A, n, c, t, B', m, d, h1.ext hb, h2.ext hb, h3⟩
theorem VarQ.far {w : World} {B : Nat} {gl : List Nat} {g : Nat} {q : Rat} (h : VarQ w B gl g q) {g' : Nat} (hne : g' ≠ g) (hg : g' ∈ gl) (v0 v1 v2 v3 : Value) : VarQ (put4 w g' 0 v0 v1 v2 v3) B gl g q := by
 obtain ⟨s, A, n, c, t, B', m, d, h1, h2, h3⟩ := h
 exact ⟨s, A, n, c, t, B', m, d, h1.far4 hne _ _ _ _, h2.put4A (h3 g' hg) 0 _ _ _ _, h3⟩
theorem alloc_q (o : Oper) (ho : o.op = .alloc 29) (a : Act) (w : World) : (execOp a.eval o).run Tryz.prog w = .ok (.value (.pointer (some ⟨w.heap.size, 0, none⟩))) (w.alloc (.cells #[.bool false, .slice none 0 0, .bool false, .slice none 0 0] 29)) := by
 obtain ⟨dst, op, type, pos, after, guard⟩ := o
 simp only at ho
 subst ho
 kernel_rfl
theorem makes_q {l : List Oper} {f : Nat} {o : Oper} (h : l[f]? = some o) (ho : o.op = .alloc 29) : Makes Tryz.prog l.toArray (fun _ => .cells #[.bool false, .slice none 0 0, .bool false, .slice none 0 0] 29) f := ⟨o, by simpa using h, fun a w => alloc_q o ho a w⟩
end Go.Proofs.YtjinpfnefeiooaaGreat
namespace Go.Proofs.YtjinpfnefeiooaaGreat
open Go.RowKit

structure Touch (g : Nat) (w w' : World) : Prop where
 ext : ∀ w0, Ext w0 w → w0.heap.size ≤ g → Ext w0 w'
 size : w'.heap.size = w.heap.size
 block : ∀ b, b ≠ g → w'.heap[b]? = w.heap[b]?
 frozen : ∀ p, w'.frozen? p = w.frozen? p
theorem Touch.refl (g : Nat) (w : World) : Touch g w w := ⟨fun _ h _ => h, rfl, fun _ _ => rfl, fun _ => rfl⟩
theorem Touch.set {g : Nat} {w w' : World} (h : Touch g w w') (off : Nat) (v : Value) : Touch g w (w'.setCell ⟨g, off, none⟩ v) :=
 ⟨fun w0 h0 hg => Below.setCell (h.ext w0 h0 hg) (p := ⟨g, off, none⟩) hg v, by rw [← h.size]; simp [World.setCell], fun b hb => (Below.heap_setCell w' ⟨g, off, none⟩ v b hb).trans (h.block b hb), fun p => by rw [World.frozen?_setCell]; exact h.frozen p⟩
theorem Touch.trans {g : Nat} {a b c : World} (h : Touch g a b) (k : Touch g b c) : Touch g a c :=
 ⟨fun w0 h0 hg => k.ext w0 (h.ext w0 h0 hg) hg, k.size.trans h.size, fun x hx => (k.block x hx).trans (h.block x hx), fun p => (k.frozen p).trans (h.frozen p)⟩
theorem Touch.cell {g : Nat} {w w' : World} (h : Touch g w w') {p : Addr} (hp : p.block ≠ g) : w'.cell? p = w.cell? p := World.cell?_of_block (h.block p.block hp)
theorem WordsAt.touch {g : Nat} {w w' : World} (h : Touch g w w') {A : Option Addr} {n : Nat} {xs : List Nat} (hw : WordsAt w A n xs) (ha : Away g (g + 1) A n) : WordsAt w' A n xs := by
 refine ⟨hw.1, hw.2.1, fun hn => ?_⟩
 obtain ⟨b, off, e, hl, hc⟩ := hw.2.2 hn
 have hb : b ≠ g := by
  have := ha hn _ e
  simp only at this
  omega
 exact ⟨b, off, e, by rw [h.size]; exact hl, fun i hi => by rw [h.cell (p := ⟨b, off + i, none⟩) hb]; exact hc i hi⟩
theorem Fresh.touch {g : Nat} {w w' : World} (h : Touch g w w') {B : Nat} {A : Option Addr} (hf : Fresh w B A) : Fresh w' B A := fun ad ha => by
 obtain ⟨b, off, e, h1, h2, h3⟩ := hf ad ha
 exact ⟨b, off, e, h1, by rw [h.size]; exact h2, fun i => by rw [h.frozen]; exact h3 i⟩
theorem ZCan.touch {g : Nat} {w w' : World} (h : Touch g w w') {B : Nat} {b : Bool} {A : Option Addr} {n c : Nat} {z : Int} (hz : ZCan w B b A n c z) (ha : Away g (g + 1) A n) : ZCan w' B b A n c z :=
 ⟨hz.1, hz.2.1.touch h ha, hz.2.2.1, hz.2.2.2.1, hz.2.2.2.2.touch h⟩
theorem QCan.touch {g : Nat} {w w' : World} (h : Touch g w w') {B0 : Nat} {s : Bool} {A : Option Addr} {n c : Nat} {t : Bool} {B : Option Addr} {m d : Nat} {q : Rat} (hq : QCan w B0 s A n c t B m d q) (ha : Away g (g + 1) A n ∧ Away g (g + 1) B m) : QCan w' B0 s A n c t B m d q :=
 ⟨hq.1.touch h ha.1, hq.2.touch h ha.2⟩
theorem QIs.touch {g : Nat} {w w' : World} (h : Touch g w w') {s : Bool} {A : Option Addr} {n c : Nat} {t : Bool} {B : Option Addr} {m d : Nat} {q : Rat} (hq : QIs w s A n c t B m d q) (ha : Away g (g + 1) A n ∧ Away g (g + 1) B m) : QIs w' s A n c t B m d q := by
 obtain ⟨z, y, ⟨xs, h1, h2⟩, ⟨ys, h3, h4⟩, h5⟩ := hq
 exact ⟨z, y, ⟨xs, h1.touch h ha.1, h2⟩, ⟨ys, h3.touch h ha.2, h4⟩, h5⟩
theorem Cell4.touch {g : Nat} {w w' : World} (h : Touch g w w') {r : Nat} {v0 v1 v2 v3 : Value} (hc : Cell4 w r v0 v1 v2 v3) (hr : r ≠ g) : Cell4 w' r v0 v1 v2 v3 := by
 refine ⟨⟨?_, ?_, ?_, ?_⟩, ⟨?_, ?_, ?_, ?_⟩, by rw [h.size]; exact hc.2.2⟩
 ·rw [h.cell (p := ⟨r, 0, none⟩) hr]; exact hc.1.1
 ·rw [h.cell (p := ⟨r, 1, none⟩) hr]; exact hc.1.2.1
 ·rw [h.cell (p := ⟨r, 2, none⟩) hr]; exact hc.1.2.2.1
 ·rw [h.cell (p := ⟨r, 3, none⟩) hr]; exact hc.1.2.2.2
 ·rw [h.frozen]; exact hc.2.1.1
 ·rw [h.frozen]; exact hc.2.1.2.1
 ·rw [h.frozen]; exact hc.2.1.2.2.1
 ·rw [h.frozen]; exact hc.2.1.2.2.2
structure PutVs (g off : Nat) (vs : List Value) (w w' : World) : Prop where
 touch : Touch g w w'
 here : ∀ j v, vs[j]? = some v → w'.cell? ⟨g, off + j, none⟩ = some v
 far : ∀ o, (o < off ∨ off + vs.length ≤ o) → w'.cell? ⟨g, o, none⟩ = w.cell? ⟨g, o, none⟩
theorem PutVs.nil (g off : Nat) (w : World) : PutVs g off [] w w := ⟨Touch.refl _ _, fun j v h => by simp at h, fun _ _ => rfl⟩
def RowN (w : World) (g n : Nat) : Prop := g < w.heap.size ∧ (∀ j, j < n → ∃ v, w.cell? ⟨g, j, none⟩ = some v) ∧ ∀ j, w.frozen? ⟨g, j, none⟩ = false
theorem RowN.ext {w w' : World} {g n : Nat} (h : RowN w g n) (hb : Ext w w') : RowN w' g n :=
 ⟨Nat.lt_of_lt_of_le h.1 hb.size, fun j hj => (h.2.1 j hj).imp fun _ hv => Ext.cellOf hb hv, fun j => (hb.frozen (p := ⟨g, j, none⟩) h.1).trans (h.2.2 j)⟩
theorem RowN.touch {g : Nat} {w w' : World} (h : Touch g w w') {r n : Nat} (hr : RowN w r n) (hne : r ≠ g) : RowN w' r n :=
 ⟨by rw [h.size]; exact hr.1, fun j hj => (hr.2.1 j hj).imp fun _ hv => by rw [h.cell (p := ⟨r, j, none⟩) hne]; exact hv, fun j => by rw [h.frozen]; exact hr.2.2 j⟩
theorem RowN.putVs {g n off : Nat} {vs : List Value} {w w' : World} (hr : RowN w g n) (h : PutVs g off vs w w') : RowN w' g n := by
 refine ⟨by rw [h.touch.size]; exact hr.1, fun j hj => ?_, fun j => by rw [h.touch.frozen]; exact hr.2.2 j⟩
 by_cases hh : j < off ∨ off + vs.length ≤ j
 ·rw [h.far j hh]; exact hr.2.1 j hj
 ·have hlt : j - off < vs.length := by omega
  have := h.here (j - off) vs[j - off] (List.getElem?_eq_getElem hlt)
  rw [show off + (j - off) = j by omega] at this
  exact ⟨_, this⟩
theorem rowN_made (w : World) (k : Nat) (zs : Array Value) (t : TypeId) : RowN (w.alloc (.cells (madeCells zs k) t)) w.heap.size k := by
 have hb : Blk (w.alloc (.cells (madeCells zs k) t)) w.heap.size t (madeCells zs k) := Blk.new w t _
 refine ⟨by simp, fun j hj => ?_, fun j => hb.frozen j⟩
 rw [hb.cell j]
 have : j < (madeCells zs k).size := by rw [size_madeCells]; exact hj
 exact ⟨_, Array.getElem?_eq_getElem this⟩
theorem touch_setCells (g : Nat) : ∀ (vs : List Value) (o : Nat) (w : World), Touch g w (w.setCells g o vs)
 | [], _, w => Touch.refl g w
 | v :: vs, o, w => ((Touch.refl g w).set o v).trans (touch_setCells g vs (o + 1) _)
theorem putVs_set {w : World} {g o : Nat} {vs : List Value} (ht : w.there g o vs.length) : PutVs g o vs w (w.setCells g o vs) :=
 ⟨touch_setCells g vs o w, fun j v hj => World.rangeAt_setCells_same w g o vs ht j v hj, fun x hx => World.cell?_setCells_out g vs o w ⟨g, x, none⟩ (fun _ _ => hx)⟩
theorem RowN.there {w : World} {g n : Nat} (h : RowN w g n) {o k : Nat} (hk : o + k ≤ n) : w.there g o k := fun j hj => by
 obtain ⟨v, hv⟩ := h.2.1 (o + j) (by omega)
 exact ⟨by rw [hv]; rfl, h.2.2 _⟩
theorem wpList_storeV {P : Program} {ops : Array Oper} {rest : List Oper} {op : Oper} {a : Act} {w : World} {Q : Exit → Act → World → Prop} (hgd : op.guard = none) (ty : TypeId) (x y : Operand) (ho : op.op = .store ty x y)
  (b o : Nat) (cells : List Value) (hx : a.eval x = .pointer (some ⟨b, o, none⟩)) (hy : a.eval y = .agg cells.toArray)
  (ht : w.there b o cells.length) (hi : (P.info? ty).map (·.size) = some cells.length) (h1 : cells.all (·.oneCell') = true)
  (h : ∀ w', PutVs b o cells w w' → wpList P ops Q rest (a.put op.dst undef) w') : wpList P ops Q (op :: rest) a w :=
 wpList_store_mid hgd ty x y ho b o cells.toArray hx hy (by simpa using ht) (by simpa using hi) (by simpa using h1) (h _ (putVs_set ht))
theorem run_storeVar_v {P : Program} (w : World) (b o : Nat) (ty : TypeId) (v : Value) (hv : v.cells = #[v]) (ht : w.there b o 1) (hi : (P.info? ty).map (·.size) = some 1) (h1 : v.oneCell' = true) :
  (storeVar ty ⟨b, o, none⟩ v).run P w = .ok () (w.setCells b o [v]) := by
 have := run_storeCells_cells (P := P) b o [v] 0 w (fun j hj => by simpa using (ht j (by simpa using hj)).1) (fun j hj => by simpa using (ht j (by simpa using hj)).2)
  (fun x hx => by simp only [List.mem_cons, List.not_mem_nil, or_false] at hx; subst hx; exact h1)
 cases hq : P.info? ty with
 | none => simp [hq] at hi
 | some i =>
  have hs : 1 = i.size := by simp [hq] at hi; omega
  simp only [Nat.add_zero] at this
  simp [storeVar, sizeOf, typeInfo, hq, hv, ← hs, this]
theorem wpList_storeS {P : Program} {ops : Array Oper} {rest : List Oper} {op : Oper} {a : Act} {w : World} {Q : Exit → Act → World → Prop} (hgd : op.guard = none) (ty : TypeId) (x y : Operand) (ho : op.op = .store ty x y)
  (b o : Nat) (v : Value) (hx : a.eval x = .pointer (some ⟨b, o, none⟩)) (hy : a.eval y = v) (hv : v.cells = #[v])
  (ht : w.there b o 1) (hi : (P.info? ty).map (·.size) = some 1) (h1 : v.oneCell' = true)
  (h : ∀ w', PutVs b o [v] w w' → wpList P ops Q rest (a.put op.dst undef) w') : wpList P ops Q (op :: rest) a w :=
 wpList_plain hgd fun _ hK => by
  unfold Oper.wp execOp
  simp only [ho, hx, hy, Instr.storeAt, Instr.sureAddr, Sem.run_bind, Sem.run_pure, Result.andThen_ok, run_storeVar_v w b o ty v hv ht hi h1]
  exact hK _ _ (h _ (putVs_set ht))
theorem wpList_makeV {P : Program} {ops : Array Oper} {rest : List Oper} {op : Oper} {a : Act} {w : World} {Q : Exit → Act → World → Prop} (hgd : op.guard = none) (t e : TypeId) (x y : Operand) (ho : op.op = .makeSlice t x y)
  (z : Value) (sz bs : Nat) (hu : P.underlying t = some (.slice e)) (hi : (P.info? e).map (fun i => (i.zero, i.size, i.bytes)) = some (some z, sz, bs)) (l : Int) (n : Nat)
  (hx : a.eval x = .int .i64 l) (hy : a.eval y = .int .i64 l) (hn : l = n) (hb : bs * n ≤ 281474976710656) (h63 : n ≤ 9223372036854775807)
  (h : ∀ w', w.alloc (.cells (madeCells z.cells (n * sz)) e) = w' → wpList P ops Q rest (a.put op.dst (.slice (some ⟨w.heap.size, 0, none⟩) n n)) w') : wpList P ops Q (op :: rest) a w := by
 obtain ⟨i0, h1, h2, h3, h4⟩ := info_parts hi
 have hr := run_make (P := P) w t e i0 z hu h1 h2 .i64 .i64 n n (by omega) (by omega) (by rw [h4]; omega) (by omega)
 simp only [Int.toNat_natCast, h3] at hr
 subst hn
 refine wpList_plain hgd fun K hK' => ?_
 unfold Oper.wp
 simp [execOp, ho, hx, hy, hr, Result.andThen]
 exact hK' _ _ (h _ rfl)
theorem touch_put4 (w : World) (g off : Nat) (v0 v1 v2 v3 : Value) : Touch g w (put4 w g off v0 v1 v2 v3) := ((((Touch.refl g w).set _ v0).set _ v1).set _ v2).set _ v3
theorem RowN.of_blk {w : World} {g : Nat} {t : TypeId} {cs : Array Value} (h : w.heap[g]? = some (.cells cs t (0, 0))) : RowN w g cs.size := by
 have hb : Blk w g t cs := h
 refine ⟨hb.lt, fun j hj => ?_, fun j => hb.frozen j⟩
 rw [hb.cell]
 exact ⟨_, Array.getElem?_eq_getElem hj⟩
def AwayO (r : Option Nat) (A : Option Addr) (n : Nat) : Prop := ∀ g, r = some g → Away g (g + 1) A n
theorem WordsAt.grown {w w' : World} {row : Option Nat} (hg : w.grownBy w' row) {A : Option Addr} {n : Nat} {xs : List Nat} (h : WordsAt w A n xs) (ha : AwayO row A n) : WordsAt w' A n xs := by
 refine ⟨h.1, h.2.1, fun hn => ?_⟩
 obtain ⟨b, off, e, hl, hc⟩ := h.2.2 hn
 refine ⟨b, off, e, Nat.lt_of_lt_of_le hl hg.size, fun i hi => ?_⟩
 rw [← hc i hi]
 refine World.cell?_of_block (hg.block b hl ?_)
 intro hb
 have := ha b hb.symm hn _ e
 simp only at this
 omega
end Go.Proofs.YtjinpfnefeiooaaGreat
