/- Regions that draw their order and hold ONE making of memory that waits for nothing: a walk in the order of the text, with that one taken at each place where it may come up. -/
import Derived.Test.YtppcpklnnbgcjaaLex
namespace Go.Proofs.Ytppcpklnnbgcjaa
open Go.RowKit

section
variable {P : Program} {ops : Array Oper} {md : Region.Mode} {C : World → Prop} {Q : Exit → Act → World → Prop}

/-- A moving operation's walk, pushed behind one that only looks. -/
theorem moves_push {i : Nat} {oi : Oper} (hi : ops[i]? = some oi) (hsel : ∀ (j : Nat) (o : Oper) cs b, ops[j]? = some o → o.op ≠ .select cs b)
    {fuel : Nat} {listed : Array Bool} {a : Act} {w : World} {j : Nat} {oj : Oper} {v : Value} (hj : j ∈ Region.ready md ops listed) (hoj : ops[j]? = some oj) (hji : j ≠ i) (hsj : stillOp oj = true) (hjun : listed.getD j true = false)
    (hap1 : oi.apart ops oj = true) (hap2 : oj.apart ops oi = true) (hr : i ∈ Region.ready md ops listed) (hy : YlW P ops C oj v a)
    (H : oi.wp P a w (fun a' w' => (lastB md ops oi = false → C w') ∧ wpAnyL P md ops C Q (fuel + 1) (listed.setIfInBounds i true) a' w') noOut) :
    oi.wp P (a.put oj.dst v) w (fun a' w' => (lastB md ops oi = false → C w') ∧ wpAnyL P md ops C Q fuel ((listed.setIfInBounds j true).setIfInBounds i true) a' w') noOut := by
  obtain ⟨g1, g2, g3⟩ := Oper.apart_spec hap1
  have back : ∀ {a' : Act} {u : Value} {v : Value}, (a' = a.put oi.dst u ∨ ∃ d, a' = ({ a with defers := d :: a.defers } : Act).put oi.dst u) → YlW P ops C oj v a' → YlW P ops C oj v a := by
    rintro a' u v (rfl | ⟨d, rfl⟩) hy
    · exact hy.of_same (execOp_put oj (fun cs b => hsel j oj cs b hoj) a oi.dst u g1).symm (wanted_put oj a oi.dst u g1).symm
    · exact hy.of_same (execOp_put oj (fun cs b => hsel j oj cs b hoj) ({ a with defers := d :: a.defers } : Act) oi.dst u g1).symm (wanted_put oj ({ a with defers := d :: a.defers } : Act) oi.dst u g1).symm
  have hlst : lastB md ops oi = false := not_last hr hi hoj hsj hjun
  refine wp_behind hap2 (fun cs b => hsel i oi cs b hi) ?_
  have key : ∀ (a' : Act) (w' : World) (u : Value), (a' = a.put oi.dst u ∨ ∃ d, a' = ({ a with defers := d :: a.defers } : Act).put oi.dst u) → ((lastB md ops oi = false → C w') ∧ wpAnyL P md ops C Q (fuel + 1) (listed.setIfInBounds i true) a' w') →
      (lastB md ops oi = false → C w') ∧ wpAnyL P md ops C Q fuel ((listed.setIfInBounds j true).setIfInBounds i true) (a'.put oj.dst v) w' := by
    rintro a' w' u ha' ⟨hC', hN'⟩
    refine ⟨hC', ?_⟩
    obtain ⟨v', hy', hK'⟩ := ylW_of_lOp hoj hsj (hN'.2 j (ready_mono hj hji))
    have hy2 := back ha' hy'
    have hvv : v' = v := by
      rcases hy with ⟨hw1, _, hv1⟩ | ⟨hw1, rfl⟩
      · rcases hy2 with ⟨hw2, _, hv2⟩ | ⟨hw2, _⟩
        · have e1 := hv1 w' (hC' hlst)
          have e2 := hv2 w' (hC' hlst)
          rw [e1] at e2
          injection e2 with e2
          injection e2 with e2
          exact e2.symm
        · rw [hw1] at hw2; cases hw2
      · rcases hy2 with ⟨hw2, _⟩ | ⟨_, h2⟩
        · rw [hw1] at hw2; cases hw2
        · exact h2
    rw [← hvv, Array.setIfInBounds_comm _ _ hji]
    exact hK'
  unfold Oper.wp at H ⊢
  generalize (execOp a.eval oi).run P w = r at *
  cases r with
  | ok n w' =>
    cases n <;> simp only [Oper.upon] at H ⊢
    case value u => exact key _ _ u (.inl rfl) H
    case skip => exact key _ _ _ (.inl rfl) H
    case defer d => exact key _ _ _ (.inr ⟨d, rfl⟩) H
    case enter f args =>
      refine Calls.mono H fun e w'' he => ?_
      cases e with
      | returned u => exact key _ _ u (.inl rfl) he
      | panicked c => exact he
      | outgrown => exact he
    case row row args => exact Rows.mono H fun u w'' he => key _ _ u (.inl rfl) he
  | halt x w' => cases x <;> simp only [Oper.upon] at H ⊢ <;> exact H.elim

/-- What one that only looks yields behind a moving one it yields ahead of it. -/
theorem yield_back {i : Nat} {oi : Oper} (hsel : ∀ (j : Nat) (o : Oper) cs b, ops[j]? = some o → o.op ≠ .select cs b)
    {fuel : Nat} {listed : Array Bool} {a : Act} {w : World} {j : Nat} {oj : Oper} (hj : j ∈ Region.ready md ops listed) (hoj : ops[j]? = some oj) (hji : j ≠ i) (hsj : stillOp oj = true)
    (hap1 : oi.apart ops oj = true) (H : oi.wp P a w (fun a' w' => (lastB md ops oi = false → C w') ∧ wpAnyL P md ops C Q (fuel + 1) (listed.setIfInBounds i true) a' w') noOut) : ∃ v, YlW P ops C oj v a := by
  obtain ⟨g1, g2, g3⟩ := Oper.apart_spec hap1
  obtain ⟨a1, w1, ⟨_, hN1⟩, u1, ha1⟩ := wp_some H
  obtain ⟨v, hy1, _⟩ := ylW_of_lOp hoj hsj (hN1.2 j (ready_mono hj hji))
  refine ⟨v, ?_⟩
  rcases ha1 with rfl | ⟨d, rfl⟩
  · exact hy1.of_same (execOp_put oj (fun cs b => hsel j oj cs b hoj) a oi.dst u1 g1).symm (wanted_put oj a oi.dst u1 g1).symm
  · exact hy1.of_same (execOp_put oj (fun cs b => hsel j oj cs b hoj) ({ a with defers := d :: a.defers } : Act) oi.dst u1 g1).symm (wanted_put oj ({ a with defers := d :: a.defers } : Act) oi.dst u1 g1).symm

abbrev FreeOf (md : Region.Mode) (ops : Array Oper) (listed : Array Bool) (i : Nat) (oi : Oper) : Prop := ∀ j oj, ops[j]? = some oj → j ≠ i → listed.getD j true = false → (∀ e ∈ oj.after, Region.binds md e = true → e.on ≠ i) → oi.apart ops oj = true ∧ oj.apart ops oi = true
theorem FreeOf.set {listed : Array Bool} {i j : Nat} {oi : Oper} (h : FreeOf md ops listed i oi) (hjun : listed.getD j true = false) : FreeOf md ops (listed.setIfInBounds j true) i oi := by
  intro k ok hk hki hun hno
  refine h k ok hk hki ?_ hno
  by_cases hjk : j = k
  · subst hjk; exact hjun
  · rw [getD_set_ne true hjk] at hun; exact hun

/-- Two moving operations, either may come first; every other moving one waits. -/
theorem wpAnyL_moves2 {i k : Nat} {oi ok : Oper} (hik : i ≠ k) (hi : ops[i]? = some oi) (hk : ops[k]? = some ok) (hsti : stillOp oi = false) (hstk : stillOp ok = false) (hsel : ∀ (j : Nat) (o : Oper) cs b, ops[j]? = some o → o.op ≠ .select cs b) :
    ∀ (fuel : Nat) (listed : Array Bool) (a : Act) (w : World), FreeOf md ops listed i oi → FreeOf md ops listed k ok →
      (∀ m om, ops[m]? = some om → m ≠ i → m ≠ k → listed.getD m true = false → stillOp om = false → Waits md ops listed m) →
      i ∈ Region.ready md ops listed → k ∈ Region.ready md ops listed → Region.wanted oi (yielded ops a.tmps) = true → Region.wanted ok (yielded ops a.tmps) = true →
      oi.wp P a w (fun a' w' => (lastB md ops oi = false → C w') ∧ wpAnyL P md ops C Q fuel (listed.setIfInBounds i true) a' w') noOut →
      ok.wp P a w (fun a' w' => (lastB md ops ok = false → C w') ∧ wpAnyL P md ops C Q fuel (listed.setIfInBounds k true) a' w') noOut → wpAnyL P md ops C Q (fuel + 1) listed a w := by
  intro fuel
  induction fuel with
  | zero =>
    intro listed a w _ _ _ hri hrk _ _ Hi _
    have := ready_mono (i := i) hrk (Ne.symm hik)
    obtain ⟨a', w', ⟨_, h0⟩, _⟩ := wp_some Hi
    rw [h0.1] at this
    cases this
  | succ fuel ih =>
    intro listed a w hfi hfk hblk hri hrk hwi hwk Hi Hk
    refine ⟨fun h => (by rw [h] at hri; cases hri), fun j hj => ?_⟩
    by_cases hji : j = i
    · subst hji
      unfold lOp
      simp only [hi, hwi, hsti, if_true, Bool.false_eq_true, if_false]
      exact Hi
    by_cases hjk : j = k
    · subst hjk
      unfold lOp
      simp only [hk, hwk, hstk, if_true, Bool.false_eq_true, if_false]
      exact Hk
    obtain ⟨hjun, oj, hoj, hall⟩ := mem_ready.1 hj
    have hsj : stillOp oj = true := by
      cases hs : stillOp oj with
      | true => rfl
      | false =>
        obtain ⟨oj', ho', e, he, hb, hun⟩ := (hblk j oj hoj hji hjk hjun hs).unlisted
        rw [hoj] at ho'; cases ho'
        have := hall e he hb
        rw [hun] at this; cases this
    obtain ⟨i1, i2⟩ := hfi j oj hoj hji hjun (not_waits (mem_ready.1 hri).1 (_j := j) hall)
    obtain ⟨k1, k2⟩ := hfk j oj hoj hjk hjun (not_waits (mem_ready.1 hrk).1 (_j := j) hall)
    obtain ⟨v, hy⟩ := yield_back hsel hj hoj hji hsj i1 Hi
    refine hy.lOp hoj ?_
    refine ih (listed.setIfInBounds j true) (a.put oj.dst v) w (hfi.set hjun) (hfk.set hjun) ?_ (ready_mono hri (Ne.symm hji)) (ready_mono hrk (Ne.symm hjk)) ?_ ?_ (moves_push hi hsel hj hoj hji hsj hjun i1 i2 hri hy Hi) (moves_push hk hsel hj hoj hjk hsj hjun k1 k2 hrk hy Hk)
    · intro m om hm hmi hmk hun hs
      have hjm : j ≠ m := by
        rintro rfl
        rw [hoj] at hm; cases hm; rw [hsj] at hs; cases hs
      rw [getD_set_ne true hjm] at hun
      exact (hblk m om hm hmi hmk hun hs).set hoj hsj hall
    · rw [wanted_put oi a oj.dst v (Oper.apart_spec i2).1]; exact hwi
    · rw [wanted_put ok a oj.dst v (Oper.apart_spec k2).1]; exact hwk

/-- The walk of the listed operations, in the order of the list. -/
def wpLexI (P : Program) (md : Region.Mode) (ops : Array Oper) (C : World → Prop) (Q : Exit → Act → World → Prop) : List Nat → Act → World → Prop
  | [], a, w => Q .normal a w
  | i :: is, a, w => match ops[i]? with
    | none => False
    | some o =>
      if Region.wanted o (yielded ops a.tmps) then
        if stillOp o then ∃ v, Yl P C o v a ∧ wpLexI P md ops C Q is (a.put o.dst v) w
        else o.wp P a w (fun a' w' => (lastB md ops o = false → C w') ∧ wpLexI P md ops C Q is a' w') noOut
      else wpLexI P md ops C Q is (a.put o.dst undef) w
/-- .. while operation ja has not come up: it may, ahead of each moving one; behind pre it must. -/
def wpLexF (P : Program) (md : Region.Mode) (ops : Array Oper) (C : World → Prop) (Q : Exit → Act → World → Prop) (ja : Nat) (post : List Nat) : List Nat → Act → World → Prop
  | [], a, w => match ops[ja]? with
    | none => False
    | some oa => oa.wp P a w (fun a' w' => (lastB md ops oa = false → C w') ∧ wpLexI P md ops C Q post a' w') noOut
  | i :: is, a, w => match ops[i]?, ops[ja]? with
    | some o, some oa =>
      if Region.wanted o (yielded ops a.tmps) then
        if stillOp o then ∃ v, Yl P C o v a ∧ wpLexF P md ops C Q ja post is (a.put o.dst v) w
        else o.wp P a w (fun a' w' => (lastB md ops o = false → C w') ∧ wpLexF P md ops C Q ja post is a' w') noOut ∧
          oa.wp P a w (fun a' w' => (lastB md ops oa = false → C w') ∧ wpLexI P md ops C Q (i :: (is ++ post)) a' w') noOut
      else wpLexF P md ops C Q ja post is (a.put o.dst undef) w
    | _, _ => False

def stillAt (ops : Array Oper) (i : Nat) : Bool := match ops[i]? with | some o => stillOp o | none => false
def lexIB (md : Region.Mode) (ops : Array Oper) : List Nat → Array Bool → Bool
  | [], listed => (Region.ready md ops listed).isEmpty
  | i :: is, listed => (Region.ready md ops listed).contains i && Region.free md ops listed i && (stillAt ops i || blockedB md ops listed i) && lexIB md ops is (listed.setIfInBounds i true)
/-- Every moving one but two that has not come up waits. -/
def blocked2B (md : Region.Mode) (ops : Array Oper) (listed : Array Bool) (i k : Nat) : Bool :=
  (List.range ops.size).all fun m => m == i || m == k || listed.getD m true || (match ops[m]? with
    | some om => stillOp om || waitsB md ops listed 3 m
    | none => true)
def lexFB (md : Region.Mode) (ops : Array Oper) (ja : Nat) (post : List Nat) : List Nat → Array Bool → Bool
  | [], listed => (Region.ready md ops listed).contains ja && Region.free md ops listed ja && blockedB md ops listed ja && lexIB md ops post (listed.setIfInBounds ja true)
  | i :: is, listed => (Region.ready md ops listed).contains i && Region.free md ops listed i &&
      (stillAt ops i || (i != ja && (Region.ready md ops listed).contains ja && Region.free md ops listed ja && blocked2B md ops listed i ja && lexIB md ops (i :: (is ++ post)) (listed.setIfInBounds ja true))) &&
      lexFB md ops ja post is (listed.setIfInBounds i true)

theorem wpAnyL_lexI (hsl : Region.noSelect ops = true) : ∀ (is : List Nat) (listed : Array Bool) (a : Act) (w : World), lexIB md ops is listed = true → wpLexI P md ops C Q is a w → wpAnyL P md ops C Q is.length listed a w
  | [], _, _, _, hB, h => ⟨by simpa [lexIB] using hB, h⟩
  | i :: is, listed, a, w, hB, h => by
    simp only [lexIB, Bool.and_eq_true] at hB
    obtain ⟨⟨⟨hr, hf⟩, hb⟩, hB'⟩ := hB
    have hr' : i ∈ Region.ready md ops listed := by simpa using hr
    unfold wpLexI at h
    cases h0 : ops[i]? with
    | none => rw [h0] at h; exact h.elim
    | some o =>
      rw [h0] at h
      simp only at h
      have ih := fun a w => wpAnyL_lexI hsl is (listed.setIfInBounds i true) a w hB'
      by_cases hw : Region.wanted o (yielded ops a.tmps) = true
      · simp only [hw, if_true] at h
        by_cases hs : stillOp o = true
        · simp only [hs, if_true] at h
          obtain ⟨v, hy, hK⟩ := h
          exact wpAnyL_still h0 (Region.noSelect_spec hsl) is.length listed a w (Region.free_spec h0 hf) hr' (.inl ⟨hw, hs, hy⟩) (ih _ _ hK)
        · have hs' : stillOp o = false := by simpa using hs
          simp only [hs', Bool.false_eq_true, if_false] at h
          simp only [stillAt, h0, hs', Bool.false_or] at hb
          exact wpAnyL_moves h0 hs' (Region.noSelect_spec hsl) is.length listed a w (fun j oj hj hne hun hno => ⟨Region.free_spec h0 hf j oj hj hne hun hno, apart_symm (Region.free_spec h0 hf j oj hj hne hun hno)⟩)
            (fun m om hm hne hun hs2 => blocked_spec hb m om hm hne hun hs2) hr' hw (Oper.wp_mono (fun a w ⟨h1, h2⟩ => ⟨h1, ih a w h2⟩) h)
      · have hw' : Region.wanted o (yielded ops a.tmps) = false := by simpa using hw
        simp only [hw', Bool.false_eq_true, if_false] at h
        exact wpAnyL_still h0 (Region.noSelect_spec hsl) is.length listed a w (Region.free_spec h0 hf) hr' (.inr ⟨hw', rfl⟩) (ih _ _ h)

theorem wpAnyL_lexF (hsl : Region.noSelect ops = true) {ja : Nat} {oa : Oper} {post : List Nat} (hja : ops[ja]? = some oa) (hsa : stillOp oa = false) (hwa : ∀ ys, Region.wanted oa ys = true) : ∀ (is : List Nat) (listed : Array Bool) (a : Act) (w : World), lexFB md ops ja post is listed = true → wpLexF P md ops C Q ja post is a w → wpAnyL P md ops C Q (is.length + post.length + 1) listed a w
  | [], listed, a, w, hB, h => by
    simp only [lexFB, Bool.and_eq_true] at hB
    obtain ⟨⟨⟨hr, hf⟩, hb⟩, hB'⟩ := hB
    have hr' : ja ∈ Region.ready md ops listed := by simpa using hr
    unfold wpLexF at h
    rw [hja] at h
    simp only [List.length_nil, Nat.zero_add]
    exact wpAnyL_moves hja hsa (Region.noSelect_spec hsl) post.length listed a w (fun j oj hj hne hun hno => ⟨Region.free_spec hja hf j oj hj hne hun hno, apart_symm (Region.free_spec hja hf j oj hj hne hun hno)⟩)
      (fun m om hm hne hun hs2 => blocked_spec hb m om hm hne hun hs2) hr' (hwa _) (Oper.wp_mono (fun a w ⟨h1, h2⟩ => ⟨h1, wpAnyL_lexI hsl post _ a w hB' h2⟩) h)
  | i :: is, listed, a, w, hB, h => by
    simp only [lexFB, Bool.and_eq_true] at hB
    obtain ⟨⟨⟨hr, hf⟩, hb⟩, hB'⟩ := hB
    have hr' : i ∈ Region.ready md ops listed := by simpa using hr
    unfold wpLexF at h
    cases h0 : ops[i]? with
    | none => rw [h0] at h; exact h.elim
    | some o =>
      rw [h0, hja] at h
      simp only at h
      have ih := fun a w => wpAnyL_lexF hsl hja hsa hwa is (listed.setIfInBounds i true) a w hB'
      have e : (i :: is).length + post.length + 1 = is.length + post.length + 1 + 1 := by simp; omega
      rw [e]
      by_cases hw : Region.wanted o (yielded ops a.tmps) = true
      · simp only [hw, if_true] at h
        by_cases hs : stillOp o = true
        · simp only [hs, if_true] at h
          obtain ⟨v, hy, hK⟩ := h
          exact wpAnyL_still h0 (Region.noSelect_spec hsl) _ listed a w (Region.free_spec h0 hf) hr' (.inl ⟨hw, hs, hy⟩) (ih _ _ hK)
        · have hs' : stillOp o = false := by simpa using hs
          simp only [hs', Bool.false_eq_true, if_false] at h
          simp only [stillAt, h0, hs', Bool.false_or, Bool.and_eq_true, bne_iff_ne] at hb
          obtain ⟨⟨⟨⟨hne, hra⟩, hfa⟩, hb2⟩, hBI⟩ := hb
          have hra' : ja ∈ Region.ready md ops listed := by simpa using hra
          refine wpAnyL_moves2 hne h0 hja hs' hsa (Region.noSelect_spec hsl) _ listed a w (fun j oj hj hne hun hno => ⟨Region.free_spec h0 hf j oj hj hne hun hno, apart_symm (Region.free_spec h0 hf j oj hj hne hun hno)⟩) (fun j oj hj hne hun hno => ⟨Region.free_spec hja hfa j oj hj hne hun hno, apart_symm (Region.free_spec hja hfa j oj hj hne hun hno)⟩) ?_ hr' hra' hw (hwa _) (Oper.wp_mono (fun a w ⟨h1, h2⟩ => ⟨h1, ih a w h2⟩) h.1) (Oper.wp_mono (fun a w ⟨h1, h2⟩ => ⟨h1, ?_⟩) h.2)
          · intro m om hm hmi hmk hun hs2
            simp only [blocked2B, List.all_eq_true, List.mem_range] at hb2
            have h1 := hb2 m (Array.getElem?_eq_some_iff.1 hm).1
            simp only [hm, Bool.or_eq_true, beq_iff_eq, hmi, hmk, false_or, hun, Bool.false_eq_true, hs2] at h1
            exact waits_spec h1
          · have := wpAnyL_lexI hsl (i :: (is ++ post)) (listed.setIfInBounds ja true) a w hBI h2
            rw [show (i :: (is ++ post)).length = is.length + post.length + 1 by simp] at this
            exact this
      · have hw' : Region.wanted o (yielded ops a.tmps) = false := by simpa using hw
        simp only [hw', Bool.false_eq_true, if_false] at h
        exact wpAnyL_still h0 (Region.noSelect_spec hsl) _ listed a w (Region.free_spec h0 hf) hr' (.inr ⟨hw', rfl⟩) (ih _ _ h)

theorem wanted_plain {o : Oper} (hg : o.guard = none) (ys : Nat → Option Bool) : Region.wanted o ys = true := by
  unfold Region.wanted
  rw [hg]
def lexFTop (md : Region.Mode) (ops : Array Oper) (ja : Nat) (pre post : List Nat) : Bool := Region.noSelect ops && (pre.length + post.length + 1 == ops.size) && lexFB md ops ja post pre (Array.replicate ops.size false)
theorem wp_region_lexF {id : Nat} {a : Act} {w : World} {l : List Oper} (ja : Nat) (pre post : List Nat) {oa : Oper} (hm : P.follows .mixedOrders = true) (hja' : l[ja]? = some oa) (hsa : stillOp oa = false) (hg : oa.guard = none) (hB : lexFTop .any l.toArray ja pre post = true) (hC : C w.drew)
    (h : wpLexF P .any l.toArray C Q ja post pre a w.drew) : (Code.region id l.toArray true).wp P Q a w := by
  have hja : l.toArray[ja]? = some oa := by simpa using hja'
  simp only [lexFTop, Bool.and_eq_true, beq_iff_eq] at hB
  refine wp_region_any hm (wpAny_of_L _ _ _ _ (fun _ _ _ _ _ => hC) ?_)
  have := wpAnyL_lexF (C := C) (Q := Q) (md := .any) hB.1.1 hja hsa (fun ys => wanted_plain hg ys) pre (Array.replicate l.toArray.size false) a w.drew hB.2 h
  rw [hB.1.2] at this
  exact this
theorem quiet_yl {o : Oper} {a : Act} {K : Act → Prop} (hs : stillOp o = true) (h : wpQuiet P ops C K [o] a) : if Region.wanted o (yielded ops a.tmps) then ∃ v, Yl P C o v a ∧ K (a.put o.dst v) else K (a.put o.dst undef) := by
  unfold wpQuiet at h
  by_cases hw : Region.wanted o (yielded ops a.tmps) = true
  · simp only [hw, if_true] at h ⊢
    obtain ⟨v, h1, h2⟩ := h
    refine ⟨v, fun w' hw' => ?_, h2⟩
    have h3 := h1 w' hw'
    unfold Oper.quietAt at h3
    cases hr : (execOp a.eval o).run P w' with
    | ok n w1 =>
      rw [hr] at h3
      obtain ⟨u, rfl⟩ := still_value hs hr
      obtain ⟨e1, e2⟩ := h3
      rw [e1, e2]
    | halt x w1 => rw [hr] at h3; exact h3.elim
  · simp only [hw] at h ⊢; exact h
theorem list_move {o : Oper} {a : Act} {w : World} {K : Act → World → Prop} (hw : Region.wanted o (yielded ops a.tmps) = true) (h : wpList P ops (LexPost C K) [o] a w) : o.wp P a w (fun a' w' => (lastB md ops o = false → C w') ∧ K a' w') noOut := by
  unfold wpList at h
  simp only [hw, if_true] at h
  rcases h with h | ⟨_, h⟩
  · refine wp_noOut' (fun e a w hne => ?_) (fun a w h => ⟨fun _ => h.1, h.2⟩) h
    cases e <;> simp_all [LexPost]
  · obtain ⟨_, _, h⟩ := h; exact h.elim
theorem list_last {o : Oper} {a : Act} {w : World} {K : Act → World → Prop} (hl : lastB md ops o = true) (hw : Region.wanted o (yielded ops a.tmps) = true) (h : wpList P ops (LexPost (fun _ => True) K) [o] a w) : o.wp P a w (fun a' w' => (lastB md ops o = false → C w') ∧ K a' w') noOut := by
  unfold wpList at h
  simp only [hw, if_true] at h
  rcases h with h | ⟨_, h⟩
  · refine wp_noOut' (fun e a w hne => ?_) (fun a w h => ⟨fun hf => (by rw [hl] at hf; cases hf), h.2⟩) h
    cases e <;> simp_all [LexPost]
  · obtain ⟨_, _, h⟩ := h; exact h.elim
theorem wpLexI_nil {a : Act} {w : World} (h : Q .normal a w) : wpLexI P md ops C Q [] a w := h
theorem wpLexI_still {i : Nat} {is : List Nat} {o : Oper} {a : Act} {w : World} (ho' : ops.toList[i]? = some o) (hs : stillOp o = true) (h : wpQuiet P ops C (fun a' => wpLexI P md ops C Q is a' w) [o] a) : wpLexI P md ops C Q (i :: is) a w := by
  have ho : ops[i]? = some o := by simpa using ho'
  have h1 := quiet_yl hs h
  unfold wpLexI
  rw [ho]
  simp only
  by_cases hw : Region.wanted o (yielded ops a.tmps) = true
  · simp only [hw, if_true, hs] at h1 ⊢; exact h1
  · simp only [hw] at h1 ⊢; exact h1
theorem wpLexI_move {i : Nat} {is : List Nat} {o : Oper} {a : Act} {w : World} (ho' : ops.toList[i]? = some o) (hs : stillOp o = false) (hw : Region.wanted o (yielded ops a.tmps) = true) (h : wpList P ops (LexPost C (wpLexI P md ops C Q is)) [o] a w) : wpLexI P md ops C Q (i :: is) a w := by
  have ho : ops[i]? = some o := by simpa using ho'
  unfold wpLexI
  rw [ho]
  simp only [hw, if_true, hs, Bool.false_eq_true, if_false]
  exact list_move hw h
theorem wpLexI_last {i : Nat} {is : List Nat} {o : Oper} {a : Act} {w : World} (ho' : ops.toList[i]? = some o) (hs : stillOp o = false) (hl : lastB md ops o = true) (hw : Region.wanted o (yielded ops a.tmps) = true) (h : wpList P ops (LexPost (fun _ => True) (wpLexI P md ops C Q is)) [o] a w) : wpLexI P md ops C Q (i :: is) a w := by
  have ho : ops[i]? = some o := by simpa using ho'
  unfold wpLexI
  rw [ho]
  simp only [hw, if_true, hs, Bool.false_eq_true, if_false]
  exact list_last hl hw h
theorem wpLexF_still {ja : Nat} {post : List Nat} {oa : Oper} {i : Nat} {is : List Nat} {o : Oper} {a : Act} {w : World} (hja' : ops.toList[ja]? = some oa) (ho' : ops.toList[i]? = some o) (hs : stillOp o = true) (h : wpQuiet P ops C (fun a' => wpLexF P md ops C Q ja post is a' w) [o] a) : wpLexF P md ops C Q ja post (i :: is) a w := by
  have ho : ops[i]? = some o := by simpa using ho'
  have hja : ops[ja]? = some oa := by simpa using hja'
  have h1 := quiet_yl hs h
  unfold wpLexF
  rw [ho, hja]
  simp only
  by_cases hw : Region.wanted o (yielded ops a.tmps) = true
  · simp only [hw, if_true, hs] at h1 ⊢; exact h1
  · simp only [hw] at h1 ⊢; exact h1
theorem wpLexF_both {ja : Nat} {post : List Nat} {oa : Oper} {i : Nat} {is : List Nat} {o : Oper} {a : Act} {w : World} (hja' : ops.toList[ja]? = some oa) (hg : oa.guard = none) (ho' : ops.toList[i]? = some o) (hs : stillOp o = false) (hw : Region.wanted o (yielded ops a.tmps) = true)
    (h1 : wpList P ops (LexPost C (wpLexI P md ops C Q (i :: (is ++ post)))) [oa] a w) (h2 : wpList P ops (LexPost C (wpLexF P md ops C Q ja post is)) [o] a w) : wpLexF P md ops C Q ja post (i :: is) a w := by
  have ho : ops[i]? = some o := by simpa using ho'
  have hja : ops[ja]? = some oa := by simpa using hja'
  unfold wpLexF
  rw [ho, hja]
  simp only [hw, if_true, hs, Bool.false_eq_true, if_false]
  exact ⟨list_move hw h2, list_move (wanted_plain hg _) h1⟩
theorem wpLexF_end {ja : Nat} {post : List Nat} {oa : Oper} {a : Act} {w : World} (hja' : ops.toList[ja]? = some oa) (hg : oa.guard = none) (h : wpList P ops (LexPost C (wpLexI P md ops C Q post)) [oa] a w) : wpLexF P md ops C Q ja post [] a w := by
  have hja : ops[ja]? = some oa := by simpa using hja'
  unfold wpLexF
  rw [hja]
  exact list_move (wanted_plain hg _) h
end
end Go.Proofs.Ytppcpklnnbgcjaa
