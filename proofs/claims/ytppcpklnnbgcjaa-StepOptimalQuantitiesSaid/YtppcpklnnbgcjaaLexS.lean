/- The walks of Lex and LexH behind a structure, so that no reduction runs through operations that are passed over. -/
import Derived.Test.YtppcpklnnbgcjaaLexH
namespace Go.Proofs.Ytppcpklnnbgcjaa
open Go.RowKit

structure LexAt (P : Program) (md : Region.Mode) (ops : Array Oper) (C : World → Prop) (Q : Exit → Act → World → Prop) (l : List Oper) (a : Act) (w : World) : Prop where
  out : wpLex P md ops C Q l a w
structure IdxAt (P : Program) (md : Region.Mode) (ops : Array Oper) (C : World → Prop) (Q : Exit → Act → World → Prop) (l : List Nat) (a : Act) (w : World) : Prop where
  out : wpLexI P md ops C Q l a w
structure HavAt (P : Program) (md : Region.Mode) (ops : Array Oper) (C : World → Prop) (Q : Exit → Act → World → Prop) (fl post : List Nat) (obj : Nat → Obj) (B : Nat) (l : List Nat) (iv : List (Nat × Nat)) (a : Act) (w : World) : Prop where
  out : wpHav P md ops C Q fl post obj B l iv a w
section
variable {P : Program} {ops : Array Oper} {md : Region.Mode} {C : World → Prop} {Q : Exit → Act → World → Prop} {fl post : List Nat} {obj : Nat → Obj} {B : Nat}
theorem lexAt_eq (l : List Oper) : LexAt P md ops C Q l = wpLex P md ops C Q l := by
  funext a w
  exact propext ⟨fun h => h.out, fun h => ⟨h⟩⟩
theorem idxAt_eq (l : List Nat) : IdxAt P md ops C Q l = wpLexI P md ops C Q l := by
  funext a w
  exact propext ⟨fun h => h.out, fun h => ⟨h⟩⟩
theorem havAt_eq (l : List Nat) (iv : List (Nat × Nat)) : HavAt P md ops C Q fl post obj B l iv = wpHav P md ops C Q fl post obj B l iv := by
  funext a w
  exact propext ⟨fun h => h.out, fun h => ⟨h⟩⟩
theorem lexAt_nil {a : Act} {w : World} (h : Q .normal a w) : LexAt P md ops C Q [] a w := ⟨h⟩
theorem lexAt_still {o : Oper} {rest : List Oper} {a : Act} {w : World} (hs : stillOp o = true) (h : wpQuiet P ops C (fun a' => LexAt P md ops C Q rest a' w) [o] a) : LexAt P md ops C Q (o :: rest) a w := by
  rw [lexAt_eq] at h ⊢
  exact wpLex_still hs h
theorem lexAt_move {o : Oper} {rest : List Oper} {a : Act} {w : World} (hs : stillOp o = false) (hw : Region.wanted o (yielded ops a.tmps) = true) (h : wpList P ops (LexPost C (LexAt P md ops C Q rest)) [o] a w) : LexAt P md ops C Q (o :: rest) a w := by
  rw [lexAt_eq] at h ⊢
  exact wpLex_move hs hw h
theorem lexAt_last {o : Oper} {rest : List Oper} {a : Act} {w : World} (hs : stillOp o = false) (hl : lastB md ops o = true) (hw : Region.wanted o (yielded ops a.tmps) = true) (h : wpList P ops (LexPost (fun _ => True) (LexAt P md ops C Q rest)) [o] a w) : LexAt P md ops C Q (o :: rest) a w := by
  rw [lexAt_eq] at h ⊢
  exact wpLex_last hs hl hw h
theorem lexAt_skip {o : Oper} {rest : List Oper} {a : Act} {w : World} (hw : Region.wanted o (yielded ops a.tmps) = false) (h : LexAt P md ops C Q rest (a.put o.dst undef) w) : LexAt P md ops C Q (o :: rest) a w := ⟨wpLex_skip hw h.out⟩
theorem wp_region_lexS {id : Nat} {a : Act} {w : World} {l : List Oper} (hm : P.follows .mixedOrders = true) (hB : lexMB .any l.toArray = true) (hC : C w.drew)
    (h : LexAt P .any l.toArray C Q l a w.drew) : (Code.region id l.toArray true).wp P Q a w := wp_region_lex hm hB hC h.out
theorem idxAt_nil {a : Act} {w : World} (h : Q .normal a w) : IdxAt P md ops C Q [] a w := ⟨h⟩
theorem idxAt_still {i : Nat} {is : List Nat} {o : Oper} {a : Act} {w : World} (ho' : ops.toList[i]? = some o) (hs : stillOp o = true) (h : wpQuiet P ops C (fun a' => IdxAt P md ops C Q is a' w) [o] a) : IdxAt P md ops C Q (i :: is) a w := by
  rw [idxAt_eq] at h ⊢
  exact wpLexI_still ho' hs h
theorem idxAt_move {i : Nat} {is : List Nat} {o : Oper} {a : Act} {w : World} (ho' : ops.toList[i]? = some o) (hs : stillOp o = false) (hw : Region.wanted o (yielded ops a.tmps) = true) (h : wpList P ops (LexPost C (IdxAt P md ops C Q is)) [o] a w) : IdxAt P md ops C Q (i :: is) a w := by
  rw [idxAt_eq] at h ⊢
  exact wpLexI_move ho' hs hw h
theorem havAt_still {i : Nat} {is : List Nat} {iv : List (Nat × Nat)} {o : Oper} {a : Act} {w : World} (ho' : ops.toList[i]? = some o) (hs : stillOp o = true) (h : wpQuiet P ops C (fun a' => HavAt P md ops C Q fl post obj B is iv a' w) [o] a) : HavAt P md ops C Q fl post obj B (i :: is) iv a w := by
  rw [havAt_eq] at h ⊢
  exact wpHav_still ho' hs h
theorem havAt_move {i : Nat} {is : List Nat} {iv : List (Nat × Nat)} {o : Oper} {a : Act} {w : World} (ho' : ops.toList[i]? = some o) (hs : stillOp o = false) (hw : Region.wanted o (yielded ops a.tmps) = true)
    (h : wpList P ops (HavPost fun a' w' => Ext w w' ∧ ∀ w'', Ext w' w'' → HavAt P md ops C Q fl post obj B is (iv ++ [(w.heap.size, w'.heap.size)]) a' w'') [o] a w) : HavAt P md ops C Q fl post obj B (i :: is) iv a w := by
  rw [havAt_eq]
  simp only [havAt_eq] at h
  exact wpHav_move ho' hs hw h
theorem havAt_skip {i : Nat} {is : List Nat} {iv : List (Nat × Nat)} {o : Oper} {a : Act} {w : World} (ho' : ops.toList[i]? = some o) (hw : Region.wanted o (yielded ops a.tmps) = false) (h : HavAt P md ops C Q fl post obj B is iv (a.put o.dst undef) w) : HavAt P md ops C Q fl post obj B (i :: is) iv a w := ⟨wpHav_skip ho' hw h.out⟩
theorem havAt_end {iv : List (Nat × Nat)} {a : Act} {w : World} (h : ∀ gs : Nat → Nat, (∀ f ∈ fl, Placed w (obj f) iv B (gs f)) → (∀ f ∈ fl, ∀ f' ∈ fl, f ≠ f' → gs f ≠ gs f') → IdxAt P md ops C Q post (putFl ops gs fl a) w) : HavAt P md ops C Q fl post obj B [] iv a w := ⟨fun gs h1 h2 => (h gs h1 h2).out⟩
theorem wp_region_havS {id : Nat} {a : Act} {w : World} {l : List Oper} (fl pre post : List Nat) (obj : Nat → Obj) (hm : P.follows .mixedOrders = true) (hB : havB .any l.toArray fl pre post = true) (hmk : ∀ f ∈ fl, Makes P l.toArray obj f)
    (h : ∀ w'', Ext w.drew w'' → HavAt P .any l.toArray (InX w.drew []) Q fl post obj w.drew.heap.size pre [] a w'') : (Code.region id l.toArray true).wp P Q a w := wp_region_hav fl pre post obj hm hB hmk fun w'' hw => (h w'' hw).out
end
end Go.Proofs.Ytppcpklnnbgcjaa
