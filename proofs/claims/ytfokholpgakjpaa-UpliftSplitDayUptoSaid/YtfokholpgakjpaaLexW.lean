/- As wp_region_lexS, where a moving operation may wait for another through a long chain. Printed by gen_lexw.py. -/
import Derived.Test.YtfokholpgakjpaaLexes
namespace Go.Proofs.Ytfokholpgakjpaa
open Go.RowKit

section
variable {P : Program} {ops : Array Oper} {md : Region.Mode} {C : World → Prop} {Q : Exit → Act → World → Prop}

/-- Every other moving operation that has not come up waits for a moving one that has not come up. -/
def blockedW (md : Region.Mode) (ops : Array Oper) (listed : Array Bool) (i : Nat) : Bool :=
  (List.range ops.size).all fun m => m == i || listed.getD m true || (match ops[m]? with
    | some om => stillOp om || waitsB md ops listed 90 m
    | none => true)
theorem blockedW_spec {i : Nat} {listed : Array Bool} (h : blockedW md ops listed i = true) (m : Nat) (om : Oper) (hm : ops[m]? = some om) (hne : m ≠ i) (hun : listed.getD m true = false) (hs : stillOp om = false) :
    Waits md ops listed m := by
  simp only [blockedW, List.all_eq_true, List.mem_range] at h
  have h1 := h m (Array.getElem?_eq_some_iff.1 hm).1
  simp only [hm, Bool.or_eq_true, beq_iff_eq, hne, false_or, hun, Bool.false_eq_true, hs] at h1
  exact waits_spec h1

def lexWFrom (md : Region.Mode) (ops : Array Oper) : Nat → Nat → Array Bool → Bool
  | 0, _, listed => (Region.ready md ops listed).isEmpty
  | fuel + 1, k, listed => (Region.ready md ops listed).contains k && Region.free md ops listed k && ((match ops[k]? with | some o => stillOp o | none => false) || blockedW md ops listed k) && lexWFrom md ops fuel (k + 1) (listed.setIfInBounds k true)
def lexWB (md : Region.Mode) (ops : Array Oper) : Bool := Region.noSelect ops && lexWFrom md ops ops.size 0 (Array.replicate ops.size false)

theorem wpAnyL_lexW (hsl : Region.noSelect ops = true) : ∀ (l : List Oper) (k : Nat) (listed : Array Bool) (a : Act) (w : World), Closed md ops listed → (∀ j, l[j]? = ops[k + j]?) →
    lexWFrom md ops l.length k listed = true → wpLex P md ops C Q l a w → wpAnyL P md ops C Q l.length listed a w
  | [], _, _, _, _, _, _, hB, h => ⟨by simpa [lexWFrom] using hB, h⟩
  | o :: l, k, listed, a, w, hcl, hl, hB, h => by
    have h0 : ops[k]? = some o := by simpa using (hl 0).symm
    simp only [List.length_cons, lexWFrom, Bool.and_eq_true] at hB
    obtain ⟨⟨⟨hr, hf⟩, hb⟩, hB'⟩ := hB
    have ih := fun a w => wpAnyL_lexW hsl l (k + 1) (listed.setIfInBounds k true) a w (hcl.set (by simpa using hr)) (fun j => by have := hl (j + 1); simpa [Nat.add_assoc, Nat.add_comm 1 j] using this) hB'
    have hr' : k ∈ Region.ready md ops listed := by simpa using hr
    unfold wpLex at h
    by_cases hw : Region.wanted o (yielded ops a.tmps) = true
    · simp only [hw, if_true] at h
      by_cases hs : stillOp o = true
      · simp only [hs, if_true] at h
        obtain ⟨v, hy, hK⟩ := h
        exact wpAnyL_still h0 (Region.noSelect_spec hsl) l.length listed a w (Region.free_spec h0 hf) hr' (.inl ⟨hw, hs, hy⟩) (ih _ _ hK)
      · have hs' : stillOp o = false := by simpa using hs
        simp only [hs', Bool.false_eq_true, if_false] at h
        simp only [h0, hs', Bool.false_or] at hb
        exact wpAnyL_moves h0 hs' (Region.noSelect_spec hsl) l.length listed a w hcl (fun j oj hj hne hun hno => ⟨Region.free_spec h0 hf j oj hj hne hun hno, apart_symm (Region.free_spec h0 hf j oj hj hne hun hno)⟩)
          (fun m om hm hne hun hs2 => blockedW_spec hb m om hm hne hun hs2) hr' hw (Oper.wp_mono (fun a w ⟨h1, h2⟩ => ⟨h1, ih a w h2⟩) h)
    · have hw' : Region.wanted o (yielded ops a.tmps) = false := by simpa using hw
      simp only [hw', Bool.false_eq_true, if_false] at h
      exact wpAnyL_still h0 (Region.noSelect_spec hsl) l.length listed a w (Region.free_spec h0 hf) hr' (.inr ⟨hw', rfl⟩) (ih _ _ h)

/-- **One walk in the order of the text serves every order.** -/
theorem wp_region_lexW {id : Nat} {a : Act} {w : World} {l : List Oper} (hm : P.follows .mixedOrders = true) (hB : lexWB .any l.toArray = true) (hC : C w.drew)
    (h : wpLex P .any l.toArray C Q l a w.drew) : (Code.region id l.toArray true).wp P Q a w := by
  simp only [lexWB, Bool.and_eq_true] at hB
  refine wp_region_any hm (wpAny_of_L _ _ _ _ (closed_none _) (fun _ _ _ _ _ => hC) ?_)
  have := wpAnyL_lexW (C := C) (Q := Q) (md := .any) hB.1 l 0 (Array.replicate l.toArray.size false) a w.drew (closed_none _) (by simp) (by simpa using hB.2) h
  simpa using this
theorem wp_region_lexSW {id : Nat} {a : Act} {w : World} {l : List Oper} (hm : P.follows .mixedOrders = true) (hB : lexWB .any l.toArray = true) (hC : C w.drew)
    (h : LexAt P .any l.toArray C Q l a w.drew) : (Code.region id l.toArray true).wp P Q a w := wp_region_lexW hm hB hC h.out
end
/-- The operations of region i. -/
def regionOf (i : Nat) : Nat → Code → Option (Array Oper)
  | 0, _ => none
  | n + 1, c => match c with
    | .region j ops _ => if i = j then some ops else none
    | .seq a b => (regionOf i n a).or (regionOf i n b)
    | .cond _ a b => (regionOf i n a).or (regionOf i n b)
    | .block _ c => regionOf i n c
    | .loop c => regionOf i n c
    | .scope c => regionOf i n c
    | _ => none
end Go.Proofs.Ytfokholpgakjpaa
