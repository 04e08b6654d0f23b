/- A region that draws its order, whose calls and stores wait for one another: ONE walk in the order of the text serves every order, if what it loads stands in every world of a class that the calls never leave. -/
import Derived.Deep.Quiet
import Derived.Test.YtppcpklnnbgcjaaBase
namespace Go.Proofs.Ytppcpklnnbgcjaa
open Go.RowKit

/-- The operations that leave the world alone and only look. -/
def stillOp (o : Oper) : Bool := match o.op with
  | .move _ | .assign _ | .pick .. | .load .. | .binOp .. | .unOp .. | .convert .. | .slice .. | .fieldAddr .. | .field .. | .indexAddr .. | .index .. | .extract .. | .build .. | .makeFunc .. => true
  | .call { callee := .builtin .len, .. } | .call { callee := .builtin .max, .. } | .call { callee := .builtin .min, .. } => true
  | _ => false

theorem run_value_of {P : Program} {s : Sem Value} {w w' : World} {n : Next} (h : (do pure (Next.value (← s)) : Sem Next).run P w = .ok n w') : ∃ u, n = .value u := by
  simp only [Sem.run_bind] at h
  cases hs : s.run P w with
  | ok v w1 =>
    rw [hs] at h
    simp at h
    exact ⟨v, h.1.symm⟩
  | halt x w1 => rw [hs] at h; simp at h

theorem run_value_then {r : Result Value} {w' : World} {n : Next} (h : (r.andThen fun a w' => Result.ok (Next.value a) w') = .ok n w') : ∃ u, n = .value u := by
  cases r with
  | ok v w1 => simp at h; exact ⟨v, h.1.symm⟩
  | halt x w1 => simp at h

theorem still_value {P : Program} {o : Oper} (ho : stillOp o = true) {ρ : Operand → Value} {w w' : World} {n : Next} (h : (execOp ρ o).run P w = .ok n w') : ∃ u, n = .value u := by
  obtain ⟨dst, op, type, pos, after, guard⟩ := o
  unfold execOp at h
  cases op <;> simp only [stillOp, Bool.false_eq_true] at ho <;> simp only at h
  case move x => simp at h; exact ⟨_, h.1.symm⟩
  case assign x => simp at h; exact ⟨_, h.1.symm⟩
  case pick c a b =>
    simp only [Sem.run_bind] at h
    cases hs : (asBool (ρ c)).run P w with
    | ok v w1 => rw [hs] at h; simp at h; exact ⟨_, h.1.symm⟩
    | halt x w1 => rw [hs] at h; simp at h
  case call c =>
    obtain ⟨callee, args, argTypes⟩ := c
    cases callee with
    | builtin b =>
      cases b <;> simp only [Bool.false_eq_true] at ho <;> simp only [resolve, invoke, Sem.run_bind, Sem.run_pure, Result.andThen_ok, builtin] at h
      all_goals exact run_value_then h
    | value f => simp at ho
    | invoke r m => simp at ho
  all_goals exact run_value_of h

section
variable {P : Program} {ops : Array Oper} {md : Region.Mode} {C : World → Prop} {Q : Exit → Act → World → Prop}

/-- No way out but the next operation. -/
abbrev noOut : Exit → Act → World → Prop := fun _ _ _ => False
/-- In state a, in every world of the class, the operation yields v and leaves the world as it is. -/
def Yl (P : Program) (C : World → Prop) (o : Oper) (v : Value) (a : Act) : Prop := ∀ w, C w → (execOp a.eval o).run P w = .ok (.value v) w

/-- Operation o waits for every operation that only looks. -/
def lastB (md : Region.Mode) (ops : Array Oper) (o : Oper) : Bool :=
  (List.range ops.size).all fun k => match ops[k]? with
    | some ok => !stillOp ok || o.after.any (fun e => Region.binds md e && e.on == k)
    | none => true
theorem last_spec {o ok : Oper} {k : Nat} (h : lastB md ops o = true) (hk : ops[k]? = some ok) (hs : stillOp ok = true) : ∃ e ∈ o.after, Region.binds md e = true ∧ e.on = k := by
  simp only [lastB, List.all_eq_true, List.mem_range] at h
  have h1 := h k (Array.getElem?_eq_some_iff.1 hk).1
  simp only [hk, hs, Bool.not_true, Bool.false_or] at h1
  obtain ⟨e, he, hb⟩ := Array.any_eq_true'.1 h1
  simp only [Bool.and_eq_true, beq_iff_eq] at hb
  exact ⟨e, he, hb.1, hb.2⟩
/-- It is not the last where one that only looks has not come up. -/
theorem not_last {o ok : Oper} {j k : Nat} {listed : Array Bool} (hj : j ∈ Region.ready md ops listed) (ho : ops[j]? = some o) (hk : ops[k]? = some ok) (hs : stillOp ok = true) (hun : listed.getD k true = false) : lastB md ops o = false := by
  cases h : lastB md ops o with
  | false => rfl
  | true =>
    obtain ⟨e, he, hb, hon⟩ := last_spec h hk hs
    obtain ⟨_, o', ho', hall⟩ := mem_ready.1 hj
    rw [ho] at ho'
    cases ho'
    have := hall e he hb
    rw [hon] at this
    rcases Nat.lt_or_ge k listed.size with h' | h'
    · simp [h'] at hun this; rw [hun] at this; cases this
    · simp [Array.getElem?_eq_none h'] at this

/-- The walk in the order of the text. -/
def wpLex (P : Program) (md : Region.Mode) (ops : Array Oper) (C : World → Prop) (Q : Exit → Act → World → Prop) : List Oper → Act → World → Prop
  | [], a, w => Q .normal a w
  | o :: rest, a, w =>
    if Region.wanted o (yielded ops a.tmps) then
      if stillOp o then ∃ v, Yl P C o v a ∧ wpLex P md ops C Q rest (a.put o.dst v) w
      else o.wp P a w (fun a' w' => (lastB md ops o = false → C w') ∧ wpLex P md ops C Q rest a' w') noOut
    else wpLex P md ops C Q rest (a.put o.dst undef) w

/-- Operation i comes up. -/
def lOp (P : Program) (md : Region.Mode) (ops : Array Oper) (C : World → Prop) (i : Nat) (K : Act → World → Prop) (a : Act) (w : World) : Prop :=
  match ops[i]? with
  | none => K a w
  | some o =>
    if Region.wanted o (yielded ops a.tmps) then
      if stillOp o then ∃ v, Yl P C o v a ∧ K (a.put o.dst v) w
      else o.wp P a w (fun a' w' => (lastB md ops o = false → C w') ∧ K a' w') noOut
    else K (a.put o.dst undef) w

def wpAnyL (P : Program) (md : Region.Mode) (ops : Array Oper) (C : World → Prop) (Q : Exit → Act → World → Prop) : Nat → Array Bool → Act → World → Prop
  | 0, listed, a, w => Region.ready md ops listed = [] ∧ Q .normal a w
  | fuel + 1, listed, a, w =>
    (Region.ready md ops listed = [] → Q .normal a w) ∧
    ∀ i ∈ Region.ready md ops listed, lOp P md ops C i (wpAnyL P md ops C Q fuel (listed.setIfInBounds i true)) a w

theorem lOp_mono {i : Nat} {K K' : Act → World → Prop} {a : Act} {w : World} (h : ∀ a w, K a w → K' a w) (hh : lOp P md ops C i K a w) : lOp P md ops C i K' a w := by
  unfold lOp at *
  split
  · exact h _ _ (by simpa [*] using hh)
  · rename_i o ho
    simp only [ho] at hh
    by_cases hw : Region.wanted o (yielded ops a.tmps) = true
    · simp only [hw, if_true] at hh ⊢
      by_cases hs : stillOp o = true
      · simp only [hs, if_true] at hh ⊢
        obtain ⟨v, h1, h2⟩ := hh
        exact ⟨v, h1, h _ _ h2⟩
      · simp only [hs] at hh ⊢
        exact Oper.wp_mono (fun a w ⟨h1, h2⟩ => ⟨h1, h a w h2⟩) hh
    · simp only [hw] at hh ⊢; exact h _ _ hh

theorem wp_noOut {o : Oper} {a : Act} {w : World} {K K' : Act → World → Prop} (h : ∀ a w, K a w → K' a w) (hh : o.wp P a w K noOut) : o.wp P a w K' Q := by
  unfold Oper.wp at *
  generalize (execOp a.eval o).run P w = r at *
  cases r with
  | ok n w' =>
    cases n <;> simp only [Oper.upon] at hh ⊢ <;>
      first
        | exact h _ _ hh
        | exact Calls.mono hh (fun e w'' he => by
            cases e
            · exact h _ _ he
            · exact he.elim
            · obtain ⟨_, _, hf⟩ := he; exact hf.elim)
        | exact Rows.mono hh (fun _ _ he => h _ _ he)
  | halt x w' => cases x <;> simp only [Oper.upon] at hh ⊢ <;> exact hh.elim

theorem wp_noOut' {o : Oper} {a : Act} {w : World} {K K' : Act → World → Prop} (hQ : ∀ (e : Exit) (a : Act) (w : World), e ≠ .normal → ¬ Q e a w) (h : ∀ a w, K a w → K' a w) (hh : o.wp P a w K Q) : o.wp P a w K' noOut := by
  unfold Oper.wp at *
  generalize (execOp a.eval o).run P w = r at *
  cases r with
  | ok n w' =>
    cases n <;> simp only [Oper.upon] at hh ⊢ <;>
      first
        | exact h _ _ hh
        | exact Calls.mono hh (fun e w'' he => by
            cases e
            · exact h _ _ he
            · exact (hQ _ _ _ (by simp) he).elim
            · obtain ⟨_, _, hf⟩ := he; exact (hQ _ _ _ (by simp) hf).elim)
        | exact Rows.mono hh (fun _ _ he => h _ _ he)
  | halt x w' => cases x <;> simp only [Oper.upon] at hh ⊢ <;> exact (hQ _ _ _ (by simp) hh).elim

theorem wpAny_of_L : ∀ (fuel : Nat) (listed : Array Bool) (a : Act) (w : World), (∀ k ok, ops[k]? = some ok → stillOp ok = true → listed.getD k true = false → C w) → wpAnyL P md ops C Q fuel listed a w → wpAny P md ops Q fuel listed a w
  | 0, _, _, _, _, h => h
  | fuel + 1, listed, a, w, hC, h => ⟨h.1, fun i hi => by
      have h2 := h.2 i hi
      have hun : ∀ {k : Nat}, (listed.setIfInBounds i true).getD k true = false → listed.getD k true = false := fun {k} hk => by
        by_cases hik : i = k
        · subst hik; exact (mem_ready.1 hi).1
        · rwa [getD_set_ne true hik] at hk
      unfold lOp at h2
      unfold wpOp
      split
      · rename_i ho; simp only [ho] at h2; exact wpAny_of_L fuel _ _ _ (fun k ok hk hs hu => hC k ok hk hs (hun hu)) h2
      · rename_i o ho
        simp only [ho] at h2
        by_cases hw : Region.wanted o (yielded ops a.tmps) = true
        · simp only [hw, if_true] at h2 ⊢
          refine .inl ?_
          by_cases hs : stillOp o = true
          · simp only [hs, if_true] at h2
            obtain ⟨v, h3, h4⟩ := h2
            unfold Oper.wp
            rw [h3 w (hC i o ho hs (mem_ready.1 hi).1)]
            exact wpAny_of_L fuel _ _ _ (fun k ok hk hs hu => hC k ok hk hs (hun hu)) h4
          · simp only [hs] at h2
            exact wp_noOut (fun a w ⟨h1, h3⟩ => wpAny_of_L fuel _ a w (fun k ok hk hs hu => h1 (not_last hi ho hk hs (hun hu))) h3) h2
        · simp only [hw] at h2 ⊢; exact wpAny_of_L fuel _ _ _ (fun k ok hk hs hu => hC k ok hk hs (hun hu)) h2⟩

theorem Yl.of_same {o : Oper} {v : Value} {a a' : Act} (hy : Yl P C o v a) (he : execOp a'.eval o = execOp a.eval o) : Yl P C o v a' := by
  unfold Yl at *; rw [he]; exact hy

/-- What a state says of a still operation: wanted and it yields v, or passed over. -/
def YlW (P : Program) (ops : Array Oper) (C : World → Prop) (o : Oper) (v : Value) (a : Act) : Prop :=
  (Region.wanted o (yielded ops a.tmps) = true ∧ stillOp o = true ∧ Yl P C o v a) ∨ (Region.wanted o (yielded ops a.tmps) = false ∧ v = undef)
theorem YlW.of_same {o : Oper} {v : Value} {a a' : Act} (hy : YlW P ops C o v a) (he : execOp a'.eval o = execOp a.eval o)
    (hw : Region.wanted o (yielded ops a'.tmps) = Region.wanted o (yielded ops a.tmps)) : YlW P ops C o v a' := by
  unfold YlW at *
  rw [hw]
  exact hy.imp (fun ⟨h1, h0, h2⟩ => ⟨h1, h0, h2.of_same he⟩) id
theorem YlW.lOp {i : Nat} {o : Oper} {v : Value} {a : Act} {w : World} (hi : ops[i]? = some o) (hy : YlW P ops C o v a) {K : Act → World → Prop} (h : K (a.put o.dst v) w) : lOp P md ops C i K a w := by
  unfold Ytppcpklnnbgcjaa.lOp
  simp only [hi]
  rcases hy with ⟨hw, hs, hv⟩ | ⟨hw, rfl⟩
  · simp only [hw, if_true, hs]; exact ⟨v, hv, h⟩
  · simp only [hw, Bool.false_eq_true, if_false]; exact h
theorem ylW_of_lOp {i : Nat} {o : Oper} {a : Act} {w : World} {K : Act → World → Prop} (hi : ops[i]? = some o) (hs : stillOp o = true) (h : lOp P md ops C i K a w) : ∃ v, YlW P ops C o v a ∧ K (a.put o.dst v) w := by
  unfold lOp at h
  simp only [hi] at h
  by_cases hw : Region.wanted o (yielded ops a.tmps) = true
  · simp only [hw, if_true, hs] at h
    obtain ⟨v, h1, h2⟩ := h
    exact ⟨v, .inl ⟨hw, hs, h1⟩, h2⟩
  · simp only [hw] at h
    exact ⟨undef, .inr ⟨by simpa using hw, rfl⟩, h⟩

/-- A still operation oi whose value is already there makes no difference to oj. -/
theorem lOp_put {j : Nat} {oi oj : Oper} {v : Value} (hj : ops[j]? = some oj) (hap : oi.apart ops oj = true)
    (hsi : ∀ cs b, oi.op ≠ .select cs b) (hsj : ∀ cs b, oj.op ≠ .select cs b) {K : Act → World → Prop} {a : Act} {w : World}
    (hy : YlW P ops C oi v a) (h : lOp P md ops C j K (a.put oi.dst v) w) :
    lOp P md ops C j (fun a' w' => YlW P ops C oi v a' ∧ K (a'.put oi.dst v) w') a w := by
  obtain ⟨h1, h2, h3⟩ := Oper.apart_spec hap
  have keep : ∀ (a : Act), YlW P ops C oi v a → ∀ u, YlW P ops C oi v (a.put oj.dst u) := fun a hy u =>
    hy.of_same (execOp_put oi hsi a oj.dst u h3) (wanted_put oi a oj.dst u h3)
  have keepD : ∀ d, YlW P ops C oi v { a with defers := d :: a.defers } := fun d => hy.of_same rfl rfl
  unfold lOp at *
  simp only [hj] at *
  rw [wanted_put oj a oi.dst v h1] at h
  by_cases hw : Region.wanted oj (yielded ops a.tmps) = true
  · simp only [hw, if_true] at h ⊢
    by_cases hs : stillOp oj = true
    · simp only [hs, if_true] at h ⊢
      obtain ⟨u, hu, hn⟩ := h
      exact ⟨u, hu.of_same (execOp_put oj hsj a oi.dst v h1).symm, keep a hy u, by rw [← Act.put_comm a v u h2]; exact hn⟩
    · simp only [hs] at h ⊢
      simp only [Bool.false_eq_true, if_false] at h ⊢
      unfold Oper.wp at *
      rw [execOp_put oj hsj a oi.dst v h1] at h
      generalize (execOp a.eval oj).run P w = r at *
      cases r with
      | ok n w' =>
        cases n <;> simp only [Oper.upon] at h ⊢
        case value u => exact ⟨h.1, keep a hy u, by rw [← Act.put_comm a v u h2]; exact h.2⟩
        case skip => exact ⟨h.1, keep a hy _, by rw [← Act.put_comm a v undef h2]; exact h.2⟩
        case defer d =>
          refine ⟨h.1, keep _ (keepD d) _, ?_⟩
          rw [← Act.put_comm _ v undef h2, ← Act.put_defers]
          exact h.2
        case enter f args =>
          refine Calls.mono h fun e w'' he => ?_
          cases e with
          | returned u => exact ⟨he.1, keep a hy u, by rw [← Act.put_comm a v u h2]; exact he.2⟩
          | panicked c => exact he
          | outgrown => exact he
        case row row args => exact Rows.mono h fun u w'' he => ⟨he.1, keep a hy u, by rw [← Act.put_comm a v u h2]; exact he.2⟩
      | halt x w' => cases x <;> simp only [Oper.upon] at h ⊢ <;> exact h.elim
  · simp only [hw] at h ⊢
    simp only [Bool.false_eq_true, if_false] at h ⊢
    exact ⟨keep a hy _, by rw [← Act.put_comm a v undef h2]; exact h⟩

/-- What a moving operation oi leaves, somewhere: a state and a world. -/
theorem wp_some {o : Oper} {a : Act} {w : World} {K : Act → World → Prop} (h : o.wp P a w K noOut) : ∃ a' w', K a' w' ∧ (∃ u, a' = a.put o.dst u ∨ ∃ d, a' = ({ a with defers := d :: a.defers } : Act).put o.dst u) := by
  unfold Oper.wp at h
  generalize (execOp a.eval o).run P w = r at *
  cases r with
  | ok n w' =>
    cases n <;> simp only [Oper.upon] at h
    case value u => exact ⟨_, _, h, u, .inl rfl⟩
    case skip => exact ⟨_, _, h, _, .inl rfl⟩
    case defer d => exact ⟨_, _, h, _, .inr ⟨d, rfl⟩⟩
    case enter f args =>
      obtain ⟨e, w1, fr, he, _⟩ := h []
      cases e with
      | returned u => exact ⟨_, _, he, u, .inl rfl⟩
      | panicked c => exact he.elim
      | outgrown => obtain ⟨_, _, hf⟩ := he; exact hf.elim
    case row row args =>
      obtain ⟨v, w1, he, _⟩ := h default []
      exact ⟨_, _, he, v, .inl rfl⟩
  | halt x w' => cases x <;> simp only [Oper.upon] at h <;> exact h.elim

/-- A moving operation oi behind a still one oj that is apart from it. -/
theorem wp_behind {oi oj : Oper} {v : Value} (hap : oj.apart ops oi = true) (hsi : ∀ cs b, oi.op ≠ .select cs b) {K : Act → World → Prop} {a : Act} {w : World}
    (h : oi.wp P a w (fun a' w' => K (a'.put oj.dst v) w') noOut) : oi.wp P (a.put oj.dst v) w K noOut := by
  obtain ⟨h1, h2, h3⟩ := Oper.apart_spec hap
  unfold Oper.wp at *
  rw [execOp_put oi hsi a oj.dst v h1]
  generalize (execOp a.eval oi).run P w = r at *
  cases r with
  | ok n w' =>
    cases n <;> simp only [Oper.upon] at h ⊢
    case value u => rw [Act.put_comm a v u h2]; exact h
    case skip => rw [Act.put_comm a v undef h2]; exact h
    case defer d =>
      rw [Act.put_defers, Act.put_comm _ v undef h2]
      exact h
    case enter f args =>
      refine Calls.mono h fun e w'' he => ?_
      cases e with
      | returned u => simp only at he ⊢; rw [Act.put_comm a v u h2]; exact he
      | panicked c => exact he
      | outgrown => exact he
    case row row args => exact Rows.mono h fun u w'' he => by rw [Act.put_comm a v u h2]; exact he
  | halt x w' => cases x <;> simp only [Oper.upon] at h ⊢ <;> exact h.elim

theorem not_waits {i _j : Nat} {listed : Array Bool} {oj : Oper} (hr : listed.getD i true = false) (hall : ∀ e ∈ oj.after, Region.binds md e = true → listed.getD e.on false = true) : ∀ e ∈ oj.after, Region.binds md e = true → e.on ≠ i := fun e he hb heq => by
  have h1 := hall e he hb
  rw [heq] at h1
  rcases Nat.lt_or_ge i listed.size with h' | h'
  · simp [h'] at hr h1; rw [hr] at h1; cases h1
  · simp [Array.getElem?_eq_none h'] at h1

/-- A still operation may be taken first. -/
theorem wpAnyL_still {i : Nat} {oi : Oper} {v : Value} (hi : ops[i]? = some oi) (hsel : ∀ (j : Nat) (o : Oper) cs b, ops[j]? = some o → o.op ≠ .select cs b) :
    ∀ (fuel : Nat) (listed : Array Bool) (a : Act) (w : World),
      (∀ j oj, ops[j]? = some oj → j ≠ i → listed.getD j true = false → (∀ e ∈ oj.after, Region.binds md e = true → e.on ≠ i) → oi.apart ops oj = true) →
      i ∈ Region.ready md ops listed → YlW P ops C oi v a →
      wpAnyL P md ops C Q fuel (listed.setIfInBounds i true) (a.put oi.dst v) w → wpAnyL P md ops C Q (fuel + 1) listed a w := by
  intro fuel
  induction fuel with
  | zero =>
    intro listed a w _ hr hy H
    refine ⟨fun h => (by rw [h] at hr; cases hr), fun j hj => ?_⟩
    by_cases hji : j = i
    · subst hji; exact hy.lOp hi H
    · have := ready_mono hj hji
      rw [H.1] at this
      cases this
  | succ fuel ih =>
    intro listed a w hfree hr hy H
    refine ⟨fun h => (by rw [h] at hr; cases hr), fun j hj => ?_⟩
    by_cases hji : j = i
    · subst hji; exact hy.lOp hi H
    · have h1 := H.2 j (ready_mono hj hji)
      obtain ⟨hjun, oj, hoj, hall⟩ := mem_ready.1 hj
      have hnot := not_waits (mem_ready.1 hr).1 (_j := j) hall
      have h2 := lOp_put hoj (hfree j oj hoj hji hjun hnot) (fun cs b => hsel i oi cs b hi) (fun cs b => hsel j oj cs b hoj) hy h1
      have hfree' : ∀ k ok, ops[k]? = some ok → k ≠ i → (listed.setIfInBounds j true).getD k true = false →
          (∀ e ∈ ok.after, Region.binds md e = true → e.on ≠ i) → oi.apart ops ok = true := fun k ok hk hki hun hno => by
        refine hfree k ok hk hki ?_ hno
        by_cases hjk : j = k
        · subst hjk; exact hjun
        · rw [getD_set_ne true hjk] at hun; exact hun
      refine lOp_mono (fun a' w' h3 => ih (listed.setIfInBounds j true) a' w' hfree' (ready_mono hr (Ne.symm hji)) h3.1 ?_) h2
      rw [Array.setIfInBounds_comm _ _ hji]
      exact h3.2

/-- It waits, through operations that have not come up, for a moving one that has not come up. -/
inductive Waits (md : Region.Mode) (ops : Array Oper) (listed : Array Bool) : Nat → Prop where
  | last {m : Nat} {om oe : Oper} {e : Edge} (hm : ops[m]? = some om) (he : e ∈ om.after) (hb : Region.binds md e = true) (hun : listed.getD e.on false = false) (hoe : ops[e.on]? = some oe) (hse : stillOp oe = false) : Waits md ops listed m
  | step {m : Nat} {om : Oper} {e : Edge} (hm : ops[m]? = some om) (he : e ∈ om.after) (hb : Region.binds md e = true) (hun : listed.getD e.on false = false) (hw : Waits md ops listed e.on) : Waits md ops listed m
theorem Waits.unlisted {listed : Array Bool} {m : Nat} (h : Waits md ops listed m) : ∃ om, ops[m]? = some om ∧ ∃ e ∈ om.after, Region.binds md e = true ∧ listed.getD e.on false = false := by
  cases h with
  | last hm he hb hun _ _ => exact ⟨_, hm, _, he, hb, hun⟩
  | step hm he hb hun _ => exact ⟨_, hm, _, he, hb, hun⟩
theorem Waits.set {listed : Array Bool} {m j : Nat} {oj : Oper} (h : Waits md ops listed m) (hoj : ops[j]? = some oj) (hsj : stillOp oj = true) (hall : ∀ e ∈ oj.after, Region.binds md e = true → listed.getD e.on false = true) : Waits md ops (listed.setIfInBounds j true) m := by
  induction h with
  | last hm he hb hun hoe hse =>
    refine .last hm he hb ?_ hoe hse
    rw [getD_set_ne false]
    · exact hun
    · rintro rfl
      rw [hoj] at hoe; cases hoe; rw [hsj] at hse; cases hse
  | step hm he hb hun hw ih =>
    refine .step hm he hb ?_ ih
    rw [getD_set_ne false]
    · exact hun
    · rintro rfl
      obtain ⟨om, ho, e, he', hb', hun'⟩ := hw.unlisted
      rw [hoj] at ho; cases ho
      have := hall e he' hb'
      rw [hun'] at this; cases this
/-- A moving operation may be taken first, where every other moving one waits for a moving one that has not come up. -/
theorem wpAnyL_moves {i : Nat} {oi : Oper} (hi : ops[i]? = some oi) (hst : stillOp oi = false) (hsel : ∀ (j : Nat) (o : Oper) cs b, ops[j]? = some o → o.op ≠ .select cs b) :
    ∀ (fuel : Nat) (listed : Array Bool) (a : Act) (w : World),
      (∀ j oj, ops[j]? = some oj → j ≠ i → listed.getD j true = false → (∀ e ∈ oj.after, Region.binds md e = true → e.on ≠ i) → oi.apart ops oj = true ∧ oj.apart ops oi = true) →
      (∀ m om, ops[m]? = some om → m ≠ i → listed.getD m true = false → stillOp om = false → Waits md ops listed m) →
      i ∈ Region.ready md ops listed → Region.wanted oi (yielded ops a.tmps) = true →
      oi.wp P a w (fun a' w' => (lastB md ops oi = false → C w') ∧ wpAnyL P md ops C Q fuel (listed.setIfInBounds i true) a' w') noOut → wpAnyL P md ops C Q (fuel + 1) listed a w := by
  intro fuel
  induction fuel with
  | zero =>
    intro listed a w _ _ hr hw H
    refine ⟨fun h => (by rw [h] at hr; cases hr), fun j hj => ?_⟩
    by_cases hji : j = i
    · subst hji
      unfold lOp
      simp only [hi, hw, hst, if_true, Bool.false_eq_true, if_false]
      exact H
    · have := ready_mono (i := i) hj hji
      obtain ⟨a', w', ⟨_, h0⟩, _⟩ := wp_some H
      rw [h0.1] at this
      cases this
  | succ fuel ih =>
    intro listed a w hfree hblk hr hw H
    refine ⟨fun h => (by rw [h] at hr; cases hr), fun j hj => ?_⟩
    by_cases hji : j = i
    · subst hji
      unfold lOp
      simp only [hi, hw, hst, if_true, Bool.false_eq_true, if_false]
      exact H
    · obtain ⟨hjun, oj, hoj, hall⟩ := mem_ready.1 hj
      have hsj : stillOp oj = true := by
        cases hs : stillOp oj with
        | true => rfl
        | false =>
          obtain ⟨oj', ho', e, he, hb, hun⟩ := (hblk j oj hoj hji hjun hs).unlisted
          rw [hoj] at ho'; cases ho'
          have := hall e he hb
          rw [hun] at this; cases this
      have hnot := not_waits (mem_ready.1 hr).1 (_j := j) hall
      obtain ⟨hap1, hap2⟩ := hfree j oj hoj hji hjun hnot
      obtain ⟨g1, g2, g3⟩ := Oper.apart_spec hap1
      obtain ⟨k1, k2, k3⟩ := Oper.apart_spec hap2
      -- what j yields, from the state behind i
      have back : ∀ {a' : Act} {u : Value} {v : Value}, (a' = a.put oi.dst u ∨ ∃ d, a' = ({ a with defers := d :: a.defers } : Act).put oi.dst u) → YlW P ops C oj v a' → YlW P ops C oj v a := by
        rintro a' u v (rfl | ⟨d, rfl⟩) hy
        · exact hy.of_same (execOp_put oj (fun cs b => hsel j oj cs b hoj) a oi.dst u g1).symm (wanted_put oj a oi.dst u g1).symm
        · exact hy.of_same (execOp_put oj (fun cs b => hsel j oj cs b hoj) ({ a with defers := d :: a.defers } : Act) oi.dst u g1).symm (wanted_put oj ({ a with defers := d :: a.defers } : Act) oi.dst u g1).symm
      have hlst : lastB md ops oi = false := not_last hr hi hoj hsj hjun
      obtain ⟨a1, w1, ⟨hC1, hN1⟩, u1, ha1⟩ := wp_some H
      obtain ⟨v, hy1, _⟩ := ylW_of_lOp hoj hsj (hN1.2 j (ready_mono hj hji))
      have hy := back ha1 hy1
      refine hy.lOp hoj ?_
      refine ih (listed.setIfInBounds j true) (a.put oj.dst v) w ?_ ?_ (ready_mono hr (Ne.symm hji)) ?_ ?_
      · intro k ok hk hki hun hno
        refine hfree k ok hk hki ?_ hno
        by_cases hjk : j = k
        · subst hjk; exact hjun
        · rw [getD_set_ne true hjk] at hun; exact hun
      · intro m om hm hmi hun hs
        have hjm : j ≠ m := by
          rintro rfl
          rw [hoj] at hm; cases hm; rw [hsj] at hs; cases hs
        rw [getD_set_ne true hjm] at hun
        exact (hblk m om hm hmi hun hs).set hoj hsj hall
      · rw [wanted_put oi a oj.dst v k1]; exact hw
      · refine wp_behind hap2 (fun cs b => hsel i oi cs b hi) ?_
        -- every state behind i: j yields the same v there
        have key : ∀ (a' : Act) (w' : World) (u : Value), (a' = a.put oi.dst u ∨ ∃ d, a' = ({ a with defers := d :: a.defers } : Act).put oi.dst u) → ((lastB md ops oi = false → C w') ∧ wpAnyL P md ops C Q (fuel + 1) (listed.setIfInBounds i true) a' w') →
            (lastB md ops oi = false → C w') ∧ wpAnyL P md ops C Q fuel ((listed.setIfInBounds j true).setIfInBounds i true) (a'.put oj.dst v) w' := by
          rintro a' w' u ha' ⟨hC', hN'⟩
          refine ⟨hC', ?_⟩
          obtain ⟨v', hy', hK'⟩ := ylW_of_lOp hoj hsj (hN'.2 j (ready_mono hj hji))
          have hy2 := back ha' hy'
          have hvv : v' = v := by
            rcases hy with ⟨hw1, _, hv1⟩ | ⟨hw1, rfl⟩
            · rcases hy2 with ⟨hw2, _, hv2⟩ | ⟨hw2, _⟩
              · have e1 := hv1 w' (hC' hlst)
                have e2 := hv2 w' (hC' hlst)
                rw [e1] at e2
                injection e2 with e2
                injection e2 with e2
                exact e2.symm
              · rw [hw1] at hw2; cases hw2
            · rcases hy2 with ⟨hw2, _⟩ | ⟨_, h2⟩
              · rw [hw1] at hw2; cases hw2
              · exact h2
          rw [← hvv, Array.setIfInBounds_comm _ _ hji]
          exact hK'
        unfold Oper.wp at H ⊢
        generalize (execOp a.eval oi).run P w = r at *
        cases r with
        | ok n w' =>
          cases n <;> simp only [Oper.upon] at H ⊢
          case value u => exact key _ _ u (.inl rfl) H
          case skip => exact key _ _ _ (.inl rfl) H
          case defer d => exact key _ _ _ (.inr ⟨d, rfl⟩) H
          case enter f args =>
            refine Calls.mono H fun e w'' he => ?_
            cases e with
            | returned u => exact key _ _ u (.inl rfl) he
            | panicked c => exact he
            | outgrown => exact he
          case row row args => exact Rows.mono H fun u w'' he => key _ _ u (.inl rfl) he
        | halt x w' => cases x <;> simp only [Oper.upon] at H ⊢ <;> exact H.elim

theorem apart_symm {x y : Oper} (h : x.apart ops y = true) : y.apart ops x = true := by
  obtain ⟨h1, h2, h3⟩ := Oper.apart_spec h
  unfold Oper.apart
  rw [Bool.and_eq_true]
  constructor
  · cases hy : y.dst with
    | none => rfl
    | some d =>
      simp only [Bool.and_eq_true, bne_iff_ne, Bool.not_eq_true']
      refine ⟨?_, fun e => h2 d e hy⟩
      have := h3 d hy
      simpa using this
  · cases hx : x.dst with
    | none => rfl
    | some d =>
      have := h1 d hx
      simpa using this

def waitsB (md : Region.Mode) (ops : Array Oper) (listed : Array Bool) : Nat → Nat → Bool
  | 0, _ => false
  | fuel + 1, m => match ops[m]? with
    | some om => om.after.any (fun e => Region.binds md e && !listed.getD e.on false && ((match ops[e.on]? with | some oe => !stillOp oe | none => false) || waitsB md ops listed fuel e.on))
    | none => false
theorem waits_spec {listed : Array Bool} : ∀ {fuel m : Nat}, waitsB md ops listed fuel m = true → Waits md ops listed m
  | 0, _, h => by simp [waitsB] at h
  | fuel + 1, m, h => by
    unfold waitsB at h
    cases hm : ops[m]? with
    | none => rw [hm] at h; simp at h
    | some om =>
      rw [hm] at h
      obtain ⟨e, he, hb⟩ := Array.any_eq_true'.1 h
      simp only [Bool.and_eq_true, Bool.not_eq_true', Bool.or_eq_true] at hb
      rcases hb.2 with h2 | h2
      · cases ho : ops[e.on]? with
        | none => rw [ho] at h2; simp at h2
        | some oe => rw [ho] at h2; exact .last hm he hb.1.1 hb.1.2 ho (by simpa using h2)
      · exact .step hm he hb.1.1 hb.1.2 (waits_spec h2)
/-- Every other moving operation that has not come up waits for a moving one that has not come up. -/
def blockedB (md : Region.Mode) (ops : Array Oper) (listed : Array Bool) (i : Nat) : Bool :=
  (List.range ops.size).all fun m => m == i || listed.getD m true || (match ops[m]? with
    | some om => stillOp om || waitsB md ops listed 3 m
    | none => true)
theorem blocked_spec {i : Nat} {listed : Array Bool} (h : blockedB md ops listed i = true) (m : Nat) (om : Oper) (hm : ops[m]? = some om) (hne : m ≠ i) (hun : listed.getD m true = false) (hs : stillOp om = false) :
    Waits md ops listed m := by
  simp only [blockedB, List.all_eq_true, List.mem_range] at h
  have h1 := h m (Array.getElem?_eq_some_iff.1 hm).1
  simp only [hm, Bool.or_eq_true, beq_iff_eq, hne, false_or, hun, Bool.false_eq_true, hs] at h1
  exact waits_spec h1

def lexMFrom (md : Region.Mode) (ops : Array Oper) : Nat → Nat → Array Bool → Bool
  | 0, _, listed => (Region.ready md ops listed).isEmpty
  | fuel + 1, k, listed => (Region.ready md ops listed).contains k && Region.free md ops listed k && ((match ops[k]? with | some o => stillOp o | none => false) || blockedB md ops listed k) && lexMFrom md ops fuel (k + 1) (listed.setIfInBounds k true)
def lexMB (md : Region.Mode) (ops : Array Oper) : Bool := Region.noSelect ops && lexMFrom md ops ops.size 0 (Array.replicate ops.size false)

theorem wpAnyL_lex (hsl : Region.noSelect ops = true) : ∀ (l : List Oper) (k : Nat) (listed : Array Bool) (a : Act) (w : World), (∀ j, l[j]? = ops[k + j]?) →
    lexMFrom md ops l.length k listed = true → wpLex P md ops C Q l a w → wpAnyL P md ops C Q l.length listed a w
  | [], _, _, _, _, _, hB, h => ⟨by simpa [lexMFrom] using hB, h⟩
  | o :: l, k, listed, a, w, hl, hB, h => by
    have h0 : ops[k]? = some o := by simpa using (hl 0).symm
    simp only [List.length_cons, lexMFrom, Bool.and_eq_true] at hB
    obtain ⟨⟨⟨hr, hf⟩, hb⟩, hB'⟩ := hB
    have ih := fun a w => wpAnyL_lex hsl l (k + 1) (listed.setIfInBounds k true) a w (fun j => by have := hl (j + 1); simpa [Nat.add_assoc, Nat.add_comm 1 j] using this) hB'
    have hr' : k ∈ Region.ready md ops listed := by simpa using hr
    unfold wpLex at h
    by_cases hw : Region.wanted o (yielded ops a.tmps) = true
    · simp only [hw, if_true] at h
      by_cases hs : stillOp o = true
      · simp only [hs, if_true] at h
        obtain ⟨v, hy, hK⟩ := h
        exact wpAnyL_still h0 (Region.noSelect_spec hsl) l.length listed a w (Region.free_spec h0 hf) hr' (.inl ⟨hw, hs, hy⟩) (ih _ _ hK)
      · have hs' : stillOp o = false := by simpa using hs
        simp only [hs', Bool.false_eq_true, if_false] at h
        simp only [h0, hs', Bool.false_or] at hb
        exact wpAnyL_moves h0 hs' (Region.noSelect_spec hsl) l.length listed a w (fun j oj hj hne hun hno => ⟨Region.free_spec h0 hf j oj hj hne hun hno, apart_symm (Region.free_spec h0 hf j oj hj hne hun hno)⟩)
          (fun m om hm hne hun hs2 => blocked_spec hb m om hm hne hun hs2) hr' hw (Oper.wp_mono (fun a w ⟨h1, h2⟩ => ⟨h1, ih a w h2⟩) h)
    · have hw' : Region.wanted o (yielded ops a.tmps) = false := by simpa using hw
      simp only [hw', Bool.false_eq_true, if_false] at h
      exact wpAnyL_still h0 (Region.noSelect_spec hsl) l.length listed a w (Region.free_spec h0 hf) hr' (.inr ⟨hw', rfl⟩) (ih _ _ h)

/-- **One walk in the order of the text serves every order.** -/
theorem wp_region_lex {id : Nat} {a : Act} {w : World} {l : List Oper} (hm : P.follows .mixedOrders = true) (hB : lexMB .any l.toArray = true) (hC : C w.drew)
    (h : wpLex P .any l.toArray C Q l a w.drew) : (Code.region id l.toArray true).wp P Q a w := by
  simp only [lexMB, Bool.and_eq_true] at hB
  refine wp_region_any hm (wpAny_of_L _ _ _ _ (fun _ _ _ _ _ => hC) ?_)
  have := wpAnyL_lex (C := C) (Q := Q) (md := .any) hB.1 l 0 (Array.replicate l.toArray.size false) a w.drew (by simp) (by simpa using hB.2) h
  simpa using this

/-- What stands behind one moving operation. -/
def LexPost (C : World → Prop) (K : Act → World → Prop) : Exit → Act → World → Prop
  | .normal, a, w => C w ∧ K a w
  | _, _, _ => False
theorem wpLex_nil {a : Act} {w : World} (h : Q .normal a w) : wpLex P md ops C Q [] a w := h
theorem wpLex_still {o : Oper} {rest : List Oper} {a : Act} {w : World} (hs : stillOp o = true) (h : wpQuiet P ops C (fun a' => wpLex P md ops C Q rest a' w) [o] a) : wpLex P md ops C Q (o :: rest) a w := by
  unfold wpQuiet at h
  unfold wpLex
  by_cases hw : Region.wanted o (yielded ops a.tmps) = true
  · simp only [hw, if_true, hs] at h ⊢
    obtain ⟨v, h1, h2⟩ := h
    refine ⟨v, fun w' hw' => ?_, h2⟩
    have h3 := h1 w' hw'
    unfold Oper.quietAt at h3
    cases hr : (execOp a.eval o).run P w' with
    | ok n w1 =>
      rw [hr] at h3
      obtain ⟨u, rfl⟩ := still_value hs hr
      obtain ⟨e1, e2⟩ := h3
      rw [e1, e2]
    | halt x w1 => rw [hr] at h3; exact h3.elim
  · simp only [hw] at h ⊢; exact h
theorem wpLex_move {o : Oper} {rest : List Oper} {a : Act} {w : World} (hs : stillOp o = false) (hw : Region.wanted o (yielded ops a.tmps) = true) (h : wpList P ops (LexPost C (wpLex P md ops C Q rest)) [o] a w) : wpLex P md ops C Q (o :: rest) a w := by
  unfold wpList at h
  unfold wpLex
  simp only [hw, if_true, hs, Bool.false_eq_true, if_false] at h ⊢
  rcases h with h | ⟨_, h⟩
  · refine wp_noOut' (fun e a w hne => ?_) (fun a w h => ⟨fun _ => h.1, h.2⟩) h
    cases e <;> simp_all [LexPost]
  · obtain ⟨_, _, h⟩ := h; exact h.elim
/-- The last that moves: nothing is asked of the world behind it. -/
theorem wpLex_last {o : Oper} {rest : List Oper} {a : Act} {w : World} (hs : stillOp o = false) (hl : lastB md ops o = true) (hw : Region.wanted o (yielded ops a.tmps) = true) (h : wpList P ops (LexPost (fun _ => True) (wpLex P md ops C Q rest)) [o] a w) : wpLex P md ops C Q (o :: rest) a w := by
  unfold wpList at h
  unfold wpLex
  simp only [hw, if_true, hs, Bool.false_eq_true, if_false] at h ⊢
  rcases h with h | ⟨_, h⟩
  · refine wp_noOut' (fun e a w hne => ?_) (fun a w h => ⟨fun hf => (by rw [hl] at hf; cases hf), h.2⟩) h
    cases e <;> simp_all [LexPost]
  · obtain ⟨_, _, h⟩ := h; exact h.elim
theorem wpLex_skip {o : Oper} {rest : List Oper} {a : Act} {w : World} (hw : Region.wanted o (yielded ops a.tmps) = false) (h : wpLex P md ops C Q rest (a.put o.dst undef) w) : wpLex P md ops C Q (o :: rest) a w := by
  unfold wpLex
  simp only [hw, Bool.false_eq_true, if_false]
  exact h
end

/-- The worlds that are as w0 was, but for new blocks and the blocks X. -/
structure ExtX (w0 : World) (X : List Nat) where
  w : World
  size : w0.heap.size ≤ w.heap.size
  same : ∀ k, k < w0.heap.size → k ∉ X → w.heap[k]? = w0.heap[k]?
instance (w0 : World) (X : List Nat) : Nonempty (ExtX w0 X) := ⟨⟨w0, Nat.le_refl _, fun _ _ _ => rfl⟩⟩
/-- The class of these worlds. -/
abbrev InX (w0 : World) (X : List Nat) : World → Prop := fun w' => ∃ x : ExtX w0 X, w' = x.w
theorem ExtX.cell {w0 : World} {X : List Nat} (x : ExtX w0 X) {p : Addr} {v : Value} (hc : w0.cell? p = some v) (hp : p.block ∉ X) : x.w.cell? p = some v :=
  (World.cell?_of_block (x.same p.block (World.block_lt_of_cell? w0 p hc) hp)).trans hc
theorem inX_ext {w0 w1 w2 : World} {X : List Nat} (h : InX w0 X w1) (hb : Ext w1 w2) : InX w0 X w2 := by
  obtain ⟨x, rfl⟩ := h
  exact ⟨⟨w2, Nat.le_trans x.size hb.size, fun k hk hX => (hb.block k (Nat.lt_of_lt_of_le hk x.size)).trans (x.same k hk hX)⟩, rfl⟩
theorem inX_self (w0 : World) (X : List Nat) : InX w0 X w0 := ⟨⟨w0, Nat.le_refl _, fun _ _ _ => rfl⟩, rfl⟩
theorem inX_of_ext {w0 w1 : World} (X : List Nat) (hb : Ext w0 w1) : InX w0 X w1 := inX_ext (inX_self w0 X) hb
theorem inX_put {w0 w1 : World} {X : List Nat} (h : InX w0 X w1) {p : Addr} (hp : p.block ∈ X ∨ w0.heap.size ≤ p.block) (v : Value) : InX w0 X (w1.setCell p v) := by
  obtain ⟨x, rfl⟩ := h
  refine ⟨⟨x.w.setCell p v, by simpa [World.setCell] using x.size, fun k hk hX => (Below.heap_setCell x.w p v k ?_).trans (x.same k hk hX)⟩, rfl⟩
  rintro rfl
  rcases hp with hp | hp
  · exact hX hp
  · omega
end Go.Proofs.Ytppcpklnnbgcjaa
