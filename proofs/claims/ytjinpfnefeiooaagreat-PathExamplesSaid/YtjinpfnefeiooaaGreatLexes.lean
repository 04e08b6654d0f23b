/- A part of the proof. -/
import Derived.Deep.Quiet
import Derived.Test.YtjinpfnefeiooaaGreatBase
namespace Go.Proofs.YtjinpfnefeiooaaGreat
open Go.RowKit

def stillOp (o : Oper) : Bool := match o.op with
 | .move _ | .assign _ | .pick .. | .load .. | .binOp .. | .unOp .. | .convert .. | .slice .. | .fieldAddr .. | .field .. | .indexAddr .. | .index .. | .extract .. | .build .. | .makeFunc .. | .nilCheck .. => true
 | .call { callee := .builtin .len, .. } | .call { callee := .builtin .max, .. } | .call { callee := .builtin .min, .. } => true
 | _ => false
theorem run_value_of {P : Program} {s : Sem Value} {w w' : World} {n : Next} (h : (do pure (Next.value (← s)) : Sem Next).run P w = .ok n w') : ∃ u, n = .value u := by
 simp only [Sem.run_bind] at h
 cases hs : s.run P w with
 | ok v w1 =>
  rw [hs] at h
  simp at h
  exact ⟨v, h.1.symm⟩
 | halt x w1 => rw [hs] at h; simp at h
theorem run_value_then {r : Result Value} {w' : World} {n : Next} (h : (r.andThen fun a w' => Result.ok (Next.value a) w') = .ok n w') : ∃ u, n = .value u := by
 cases r with
 | ok v w1 => simp at h; exact ⟨v, h.1.symm⟩
 | halt x w1 => simp at h
theorem still_value {P : Program} {o : Oper} (ho : stillOp o = true) {ρ : Operand → Value} {w w' : World} {n : Next} (h : (execOp ρ o).run P w = .ok n w') : ∃ u, n = .value u := by
 obtain ⟨dst, op, type, pos, after, guard⟩ := o
 unfold execOp at h
 cases op <;> simp only [stillOp, Bool.false_eq_true] at ho <;> simp only at h
 case move x => simp at h; exact ⟨_, h.1.symm⟩
 case assign x => simp at h; exact ⟨_, h.1.symm⟩
 case pick c a b =>
  simp only [Sem.run_bind] at h
  cases hs : (asBool (ρ c)).run P w with
  | ok v w1 => rw [hs] at h; simp at h; exact ⟨_, h.1.symm⟩
  | halt x w1 => rw [hs] at h; simp at h
 case call c =>
  obtain ⟨callee, args, argTypes⟩ := c
  cases callee with
  | builtin b =>
   cases b <;> simp only [Bool.false_eq_true] at ho <;> simp only [resolve, invoke, Sem.run_bind, Sem.run_pure, Result.andThen_ok, builtin] at h
   all_goals exact run_value_then h
  | value f => simp at ho
  | invoke r m => simp at ho
 case nilCheck x =>
  have hgood : ∀ {s : Sem Next}, (∀ w1 n1 w2, s.run P w1 = .ok n1 w2 → ∃ u, n1 = .value u) → ∀ {w n w'}, s.run P w = .ok n w' → ∃ u, n = .value u := fun hs _ _ _ hh => hs _ _ _ hh
  have hpure : ∀ {u : Value} {w n w'}, (pure (Next.value u) : Sem Next).run P w = .ok n w' → ∃ u, n = .value u := fun hh => by simp at hh; exact ⟨_, hh.1.symm⟩
  have hbind : ∀ {α : Type} {s : Sem α} {f : α → Sem Next}, (∀ a w1 n1 w2, (f a).run P w1 = .ok n1 w2 → ∃ u, n1 = .value u) → ∀ {w n w'}, (s >>= f).run P w = .ok n w' → ∃ u, n = .value u := fun {α} {s} {f} hf {w} {n} {w'} hh => by
   simp only [Sem.run_bind] at hh
   cases hs : s.run P w with
   | ok v w1 => rw [hs] at hh; exact hf _ _ _ _ hh
   | halt x w1 => rw [hs] at hh; simp at hh
  have hpanic : ∀ {w n w'}, (runtimePanic RuntimeError.nilDeref : Sem Next).run P w = .ok n w' → ∃ u, n = .value u := fun {w} {n} {w'} hh => by
   unfold runtimePanic at hh
   refine hbind (fun p w1 n1 w2 h1 => ?_) hh
   cases (show (Result.halt _ _ : Result Next) = Result.ok n1 w2 from h1)
  split at h
  ·exact hpanic h
  ·exact hpanic h
  ·exact hpanic h
  ·split at h
   ·exact hpanic h
   ·refine hbind (fun _ _ _ _ h1 => hbind (fun _ _ _ _ h2 => ?_) h1) h
    split at h2
    ·exact hbind (fun _ _ _ _ h3 => hpure h3) h2
    ·exact hpure h2
   ·exact hpure h
  ·exact hpure h
 all_goals exact run_value_of h
section
variable {P : Program} {ops : Array Oper} {md : Region.Mode} {C : World → Prop} {Q : Exit → Act → World → Prop}

abbrev noOut : Exit → Act → World → Prop := fun _ _ _ => False
def Yl (P : Program) (C : World → Prop) (o : Oper) (v : Value) (a : Act) : Prop := ∀ w, C w → (execOp a.eval o).run P w = .ok (.value v) w
def reachB (md : Region.Mode) (ops : Array Oper) : Nat → Nat → Oper → Bool
 | 0, _, _ => false
 | f + 1, k, o => o.after.any (fun e => Region.binds md e && (e.on == k || (match ops[e.on]? with | some oe => reachB md ops f k oe | none => false)))
def lastB (md : Region.Mode) (ops : Array Oper) (o : Oper) : Bool :=
 (List.range ops.size).all fun k => match ops[k]? with
  | some ok => !stillOp ok || reachB md ops 2 k o
  | none => true
def Closed (md : Region.Mode) (ops : Array Oper) (listed : Array Bool) : Prop := ∀ j oj, ops[j]? = some oj → listed.getD j false = true → ∀ e ∈ oj.after, Region.binds md e = true → listed.getD e.on false = true
theorem Closed.set {listed : Array Bool} {j : Nat} (h : Closed md ops listed) (hr : j ∈ Region.ready md ops listed) : Closed md ops (listed.setIfInBounds j true) := by
 intro i oi hi hl e he hb
 by_cases hij : j = i
 ·subst hij
  obtain ⟨_, o, ho, hall⟩ := mem_ready.1 hr
  rw [hi] at ho
  cases ho
  exact getD_set_true (hall e he hb)
 ·rw [getD_set_ne false hij] at hl
  exact getD_set_true (h i oi hi hl e he hb)
theorem closed_none (n : Nat) : Closed md ops (Array.replicate n false) := by
 intro i oi _ hl
 rcases Nat.lt_or_ge i n with h | h
 ·simp [h] at hl
 ·simp [Nat.not_lt.2 h] at hl
theorem reach_listed {listed : Array Bool} {k : Nat} (hcl : Closed md ops listed) : ∀ {f : Nat} {o : Oper}, (∀ e ∈ o.after, Region.binds md e = true → listed.getD e.on false = true) → reachB md ops f k o = true → listed.getD k false = true
 | 0, _, _, h => by simp [reachB] at h
 | f + 1, o, hall, h => by
  unfold reachB at h
  obtain ⟨e, he, hb⟩ := Array.any_eq_true'.1 h
  simp only [Bool.and_eq_true, Bool.or_eq_true, beq_iff_eq] at hb
  rcases hb.2 with h2 | h2
  ·rw [← h2]; exact hall e he hb.1
  ·cases ho : ops[e.on]? with
   | none => rw [ho] at h2; simp at h2
   | some oe =>
    rw [ho] at h2
    exact reach_listed hcl (hcl e.on oe ho (hall e he hb.1)) h2
theorem not_last {o ok : Oper} {j k : Nat} {listed : Array Bool} (hcl : Closed md ops listed) (hj : j ∈ Region.ready md ops listed) (ho : ops[j]? = some o) (hk : ops[k]? = some ok) (hs : stillOp ok = true) (hun : listed.getD k true = false) : lastB md ops o = false := by
 cases h : lastB md ops o with
 | false => rfl
 | true =>
  simp only [lastB, List.all_eq_true, List.mem_range] at h
  have h1 := h k (Array.getElem?_eq_some_iff.1 hk).1
  simp only [hk, hs, Bool.not_true, Bool.false_or] at h1
  obtain ⟨_, o', ho', hall⟩ := mem_ready.1 hj
  rw [ho] at ho'
  cases ho'
  have := reach_listed hcl hall h1
  rcases Nat.lt_or_ge k listed.size with h' | h'
  ·simp [h'] at hun this; rw [hun] at this; cases this
  ·simp [Array.getElem?_eq_none h'] at this
def wpLex (P : Program) (md : Region.Mode) (ops : Array Oper) (C : World → Prop) (Q : Exit → Act → World → Prop) : List Oper → Act → World → Prop
 | [], a, w => Q .normal a w
 | o :: rest, a, w =>
  if Region.wanted o (yielded ops a.tmps) then
   if stillOp o then ∃ v, Yl P C o v a ∧ wpLex P md ops C Q rest (a.put o.dst v) w
   else o.wp P a w (fun a' w' => (lastB md ops o = false → C w') ∧ wpLex P md ops C Q rest a' w') noOut
  else wpLex P md ops C Q rest (a.put o.dst undef) w
def lOp (P : Program) (md : Region.Mode) (ops : Array Oper) (C : World → Prop) (i : Nat) (K : Act → World → Prop) (a : Act) (w : World) : Prop :=
 match ops[i]? with
 | none => K a w
 | some o =>
  if Region.wanted o (yielded ops a.tmps) then
   if stillOp o then ∃ v, Yl P C o v a ∧ K (a.put o.dst v) w
   else o.wp P a w (fun a' w' => (lastB md ops o = false → C w') ∧ K a' w') noOut
  else K (a.put o.dst undef) w
def wpAnyL (P : Program) (md : Region.Mode) (ops : Array Oper) (C : World → Prop) (Q : Exit → Act → World → Prop) : Nat → Array Bool → Act → World → Prop
 | 0, listed, a, w => Region.ready md ops listed = [] ∧ Q .normal a w
 | fuel + 1, listed, a, w =>
  (Region.ready md ops listed = [] → Q .normal a w) ∧
  ∀ i ∈ Region.ready md ops listed, lOp P md ops C i (wpAnyL P md ops C Q fuel (listed.setIfInBounds i true)) a w
theorem lOp_mono {i : Nat} {K K' : Act → World → Prop} {a : Act} {w : World} (h : ∀ a w, K a w → K' a w) (hh : lOp P md ops C i K a w) : lOp P md ops C i K' a w := by
 unfold lOp at *
 split
 ·exact h _ _ (by simpa [*] using hh)
 ·rename_i o ho
  simp only [ho] at hh
  by_cases hw : Region.wanted o (yielded ops a.tmps) = true
  ·simp only [hw, if_true] at hh ⊢
   by_cases hs : stillOp o = true
   ·simp only [hs, if_true] at hh ⊢
    obtain ⟨v, h1, h2⟩ := hh
    exact ⟨v, h1, h _ _ h2⟩
   ·simp only [hs] at hh ⊢
    exact Oper.wp_mono (fun a w ⟨h1, h2⟩ => ⟨h1, h a w h2⟩) hh
  ·simp only [hw] at hh ⊢; exact h _ _ hh
theorem wp_noOut {o : Oper} {a : Act} {w : World} {K K' : Act → World → Prop} (h : ∀ a w, K a w → K' a w) (hh : o.wp P a w K noOut) : o.wp P a w K' Q := by
 unfold Oper.wp at *
 generalize (execOp a.eval o).run P w = r at *
 cases r with
 | ok n w' =>
  cases n <;> simp only [Oper.upon] at hh ⊢ <;>
   first
    | exact h _ _ hh
    | exact Calls.mono hh (fun e w'' he => by
      cases e
      ·exact h _ _ he
      ·exact he.elim
      ·obtain ⟨_, _, hf⟩ := he; exact hf.elim)
    | exact Rows.mono hh (fun _ _ he => h _ _ he)
 | halt x w' => cases x <;> simp only [Oper.upon] at hh ⊢ <;> exact hh.elim
theorem wp_noOut' {o : Oper} {a : Act} {w : World} {K K' : Act → World → Prop} (hQ : ∀ (e : Exit) (a : Act) (w : World), e ≠ .normal → ¬ Q e a w) (h : ∀ a w, K a w → K' a w) (hh : o.wp P a w K Q) : o.wp P a w K' noOut := by
 unfold Oper.wp at *
 generalize (execOp a.eval o).run P w = r at *
 cases r with
 | ok n w' =>
  cases n <;> simp only [Oper.upon] at hh ⊢ <;>
   first
    | exact h _ _ hh
    | exact Calls.mono hh (fun e w'' he => by
      cases e
      ·exact h _ _ he
      ·exact (hQ _ _ _ (by simp) he).elim
      ·obtain ⟨_, _, hf⟩ := he; exact (hQ _ _ _ (by simp) hf).elim)
    | exact Rows.mono hh (fun _ _ he => h _ _ he)
 | halt x w' => cases x <;> simp only [Oper.upon] at hh ⊢ <;> exact (hQ _ _ _ (by simp) hh).elim
theorem wpAny_of_L : ∀ (fuel : Nat) (listed : Array Bool) (a : Act) (w : World), Closed md ops listed → (∀ k ok, ops[k]? = some ok → stillOp ok = true → listed.getD k true = false → C w) → wpAnyL P md ops C Q fuel listed a w → wpAny P md ops Q fuel listed a w
 | 0, _, _, _, _, _, h => h
 | fuel + 1, listed, a, w, hcl, hC, h => ⟨h.1, fun i hi => by
   have h2 := h.2 i hi
   have hun : ∀ {k : Nat}, (listed.setIfInBounds i true).getD k true = false → listed.getD k true = false := fun {k} hk => by
    by_cases hik : i = k
    ·subst hik; exact (mem_ready.1 hi).1
    ·rwa [getD_set_ne true hik] at hk
   unfold lOp at h2
   unfold wpOp
   split
   ·rename_i ho; simp only [ho] at h2; exact wpAny_of_L fuel _ _ _ (hcl.set hi) (fun k ok hk hs hu => hC k ok hk hs (hun hu)) h2
   ·rename_i o ho
    simp only [ho] at h2
    by_cases hw : Region.wanted o (yielded ops a.tmps) = true
    ·simp only [hw, if_true] at h2 ⊢
     refine .inl ?_
     by_cases hs : stillOp o = true
     ·simp only [hs, if_true] at h2
      obtain ⟨v, h3, h4⟩ := h2
      unfold Oper.wp
      rw [h3 w (hC i o ho hs (mem_ready.1 hi).1)]
      exact wpAny_of_L fuel _ _ _ (hcl.set hi) (fun k ok hk hs hu => hC k ok hk hs (hun hu)) h4
     ·simp only [hs] at h2
      exact wp_noOut (fun a w ⟨h1, h3⟩ => wpAny_of_L fuel _ a w (hcl.set hi) (fun k ok hk hs hu => h1 (not_last hcl hi ho hk hs (hun hu))) h3) h2
    ·simp only [hw] at h2 ⊢; exact wpAny_of_L fuel _ _ _ (hcl.set hi) (fun k ok hk hs hu => hC k ok hk hs (hun hu)) h2⟩
theorem Yl.of_same {o : Oper} {v : Value} {a a' : Act} (hy : Yl P C o v a) (he : execOp a'.eval o = execOp a.eval o) : Yl P C o v a' := by
 unfold Yl at *; rw [he]; exact hy
def YlW (P : Program) (ops : Array Oper) (C : World → Prop) (o : Oper) (v : Value) (a : Act) : Prop :=
 (Region.wanted o (yielded ops a.tmps) = true ∧ stillOp o = true ∧ Yl P C o v a) ∨ (Region.wanted o (yielded ops a.tmps) = false ∧ v = undef)
theorem YlW.of_same {o : Oper} {v : Value} {a a' : Act} (hy : YlW P ops C o v a) (he : execOp a'.eval o = execOp a.eval o)
  (hw : Region.wanted o (yielded ops a'.tmps) = Region.wanted o (yielded ops a.tmps)) : YlW P ops C o v a' := by
 unfold YlW at *
 rw [hw]
 exact hy.imp (fun ⟨h1, h0, h2⟩ => ⟨h1, h0, h2.of_same he⟩) id
theorem YlW.lOp {i : Nat} {o : Oper} {v : Value} {a : Act} {w : World} (hi : ops[i]? = some o) (hy : YlW P ops C o v a) {K : Act → World → Prop} (h : K (a.put o.dst v) w) : lOp P md ops C i K a w := by
 unfold YtjinpfnefeiooaaGreat.lOp
 simp only [hi]
 rcases hy with ⟨hw, hs, hv⟩ | ⟨hw, rfl⟩
 ·simp only [hw, if_true, hs]; exact ⟨v, hv, h⟩
 ·simp only [hw, Bool.false_eq_true, if_false]; exact h
theorem ylW_of_lOp {i : Nat} {o : Oper} {a : Act} {w : World} {K : Act → World → Prop} (hi : ops[i]? = some o) (hs : stillOp o = true) (h : lOp P md ops C i K a w) : ∃ v, YlW P ops C o v a ∧ K (a.put o.dst v) w := by
 unfold lOp at h
 simp only [hi] at h
 by_cases hw : Region.wanted o (yielded ops a.tmps) = true
 ·simp only [hw, if_true, hs] at h
  obtain ⟨v, h1, h2⟩ := h
  exact ⟨v, .inl ⟨hw, hs, h1⟩, h2⟩
 ·simp only [hw] at h
  exact ⟨undef, .inr ⟨by simpa using hw, rfl⟩, h⟩
theorem lOp_put {j : Nat} {oi oj : Oper} {v : Value} (hj : ops[j]? = some oj) (hap : oi.apart ops oj = true)
  (hsi : ∀ cs b, oi.op ≠ .select cs b) (hsj : ∀ cs b, oj.op ≠ .select cs b) {K : Act → World → Prop} {a : Act} {w : World}
  (hy : YlW P ops C oi v a) (h : lOp P md ops C j K (a.put oi.dst v) w) :
  lOp P md ops C j (fun a' w' => YlW P ops C oi v a' ∧ K (a'.put oi.dst v) w') a w := by
 obtain ⟨h1, h2, h3⟩ := Oper.apart_spec hap
 have keep : ∀ (a : Act), YlW P ops C oi v a → ∀ u, YlW P ops C oi v (a.put oj.dst u) := fun a hy u =>
  hy.of_same (execOp_put oi hsi a oj.dst u h3) (wanted_put oi a oj.dst u h3)
 have keepD : ∀ d, YlW P ops C oi v { a with defers := d :: a.defers } := fun d => hy.of_same rfl rfl
 unfold lOp at *
 simp only [hj] at *
 rw [wanted_put oj a oi.dst v h1] at h
 by_cases hw : Region.wanted oj (yielded ops a.tmps) = true
 ·simp only [hw, if_true] at h ⊢
  by_cases hs : stillOp oj = true
  ·simp only [hs, if_true] at h ⊢
   obtain ⟨u, hu, hn⟩ := h
   exact ⟨u, hu.of_same (execOp_put oj hsj a oi.dst v h1).symm, keep a hy u, by rw [← Act.put_comm a v u h2]; exact hn⟩
  ·simp only [hs] at h ⊢
   simp only [Bool.false_eq_true, if_false] at h ⊢
   unfold Oper.wp at *
   rw [execOp_put oj hsj a oi.dst v h1] at h
   generalize (execOp a.eval oj).run P w = r at *
   cases r with
   | ok n w' =>
    cases n <;> simp only [Oper.upon] at h ⊢
    case value u => exact ⟨h.1, keep a hy u, by rw [← Act.put_comm a v u h2]; exact h.2⟩
    case skip => exact ⟨h.1, keep a hy _, by rw [← Act.put_comm a v undef h2]; exact h.2⟩
    case defer d =>
     refine ⟨h.1, keep _ (keepD d) _, ?_⟩
     rw [← Act.put_comm _ v undef h2, ← Act.put_defers]
     exact h.2
    case enter f args =>
     refine Calls.mono h fun e w'' he => ?_
     cases e with
     | returned u => exact ⟨he.1, keep a hy u, by rw [← Act.put_comm a v u h2]; exact he.2⟩
     | panicked c => exact he
     | outgrown => exact he
    case row row args => exact Rows.mono h fun u w'' he => ⟨he.1, keep a hy u, by rw [← Act.put_comm a v u h2]; exact he.2⟩
   | halt x w' => cases x <;> simp only [Oper.upon] at h ⊢ <;> exact h.elim
 ·simp only [hw] at h ⊢
  simp only [Bool.false_eq_true, if_false] at h ⊢
  exact ⟨keep a hy _, by rw [← Act.put_comm a v undef h2]; exact h⟩
theorem wp_some {o : Oper} {a : Act} {w : World} {K : Act → World → Prop} (h : o.wp P a w K noOut) : ∃ a' w', K a' w' ∧ (∃ u, a' = a.put o.dst u ∨ ∃ d, a' = ({ a with defers := d :: a.defers } : Act).put o.dst u) := by
 unfold Oper.wp at h
 generalize (execOp a.eval o).run P w = r at *
 cases r with
 | ok n w' =>
  cases n <;> simp only [Oper.upon] at h
  case value u => exact ⟨_, _, h, u, .inl rfl⟩
  case skip => exact ⟨_, _, h, _, .inl rfl⟩
  case defer d => exact ⟨_, _, h, _, .inr ⟨d, rfl⟩⟩
  case enter f args =>
   obtain ⟨e, w1, fr, he, _⟩ := h []
   cases e with
   | returned u => exact ⟨_, _, he, u, .inl rfl⟩
   | panicked c => exact he.elim
   | outgrown => obtain ⟨_, _, hf⟩ := he; exact hf.elim
  case row row args =>
   obtain ⟨v, w1, he, _⟩ := h default []
   exact ⟨_, _, he, v, .inl rfl⟩
 | halt x w' => cases x <;> simp only [Oper.upon] at h <;> exact h.elim
theorem wp_behind {oi oj : Oper} {v : Value} (hap : oj.apart ops oi = true) (hsi : ∀ cs b, oi.op ≠ .select cs b) {K : Act → World → Prop} {a : Act} {w : World}
  (h : oi.wp P a w (fun a' w' => K (a'.put oj.dst v) w') noOut) : oi.wp P (a.put oj.dst v) w K noOut := by
 obtain ⟨h1, h2, h3⟩ := Oper.apart_spec hap
 unfold Oper.wp at *
 rw [execOp_put oi hsi a oj.dst v h1]
 generalize (execOp a.eval oi).run P w = r at *
 cases r with
 | ok n w' =>
  cases n <;> simp only [Oper.upon] at h ⊢
  case value u => rw [Act.put_comm a v u h2]; exact h
  case skip => rw [Act.put_comm a v undef h2]; exact h
  case defer d =>
   rw [Act.put_defers, Act.put_comm _ v undef h2]
   exact h
  case enter f args =>
   refine Calls.mono h fun e w'' he => ?_
   cases e with
   | returned u => simp only at he ⊢; rw [Act.put_comm a v u h2]; exact he
   | panicked c => exact he
   | outgrown => exact he
  case row row args => exact Rows.mono h fun u w'' he => by rw [Act.put_comm a v u h2]; exact he
 | halt x w' => cases x <;> simp only [Oper.upon] at h ⊢ <;> exact h.elim
theorem not_waits {i _j : Nat} {listed : Array Bool} {oj : Oper} (hr : listed.getD i true = false) (hall : ∀ e ∈ oj.after, Region.binds md e = true → listed.getD e.on false = true) : ∀ e ∈ oj.after, Region.binds md e = true → e.on ≠ i := fun e he hb heq => by
 have h1 := hall e he hb
 rw [heq] at h1
 rcases Nat.lt_or_ge i listed.size with h' | h'
 ·simp [h'] at hr h1; rw [hr] at h1; cases h1
 ·simp [Array.getElem?_eq_none h'] at h1
theorem wpAnyL_still {i : Nat} {oi : Oper} {v : Value} (hi : ops[i]? = some oi) (hsel : ∀ (j : Nat) (o : Oper) cs b, ops[j]? = some o → o.op ≠ .select cs b) :
  ∀ (fuel : Nat) (listed : Array Bool) (a : Act) (w : World),
   (∀ j oj, ops[j]? = some oj → j ≠ i → listed.getD j true = false → (∀ e ∈ oj.after, Region.binds md e = true → e.on ≠ i) → oi.apart ops oj = true) →
   i ∈ Region.ready md ops listed → YlW P ops C oi v a →
   wpAnyL P md ops C Q fuel (listed.setIfInBounds i true) (a.put oi.dst v) w → wpAnyL P md ops C Q (fuel + 1) listed a w := by
 intro fuel
 induction fuel with
 | zero =>
  intro listed a w _ hr hy H
  refine ⟨fun h => (by rw [h] at hr; cases hr), fun j hj => ?_⟩
  by_cases hji : j = i
  ·subst hji; exact hy.lOp hi H
  ·have := ready_mono hj hji
   rw [H.1] at this
   cases this
 | succ fuel ih =>
  intro listed a w hfree hr hy H
  refine ⟨fun h => (by rw [h] at hr; cases hr), fun j hj => ?_⟩
  by_cases hji : j = i
  ·subst hji; exact hy.lOp hi H
  ·have h1 := H.2 j (ready_mono hj hji)
   obtain ⟨hjun, oj, hoj, hall⟩ := mem_ready.1 hj
   have hnot := not_waits (mem_ready.1 hr).1 (_j := j) hall
   have h2 := lOp_put hoj (hfree j oj hoj hji hjun hnot) (fun cs b => hsel i oi cs b hi) (fun cs b => hsel j oj cs b hoj) hy h1
   have hfree' : ∀ k ok, ops[k]? = some ok → k ≠ i → (listed.setIfInBounds j true).getD k true = false →
     (∀ e ∈ ok.after, Region.binds md e = true → e.on ≠ i) → oi.apart ops ok = true := fun k ok hk hki hun hno => by
    refine hfree k ok hk hki ?_ hno
    by_cases hjk : j = k
    ·subst hjk; exact hjun
    ·rw [getD_set_ne true hjk] at hun; exact hun
   refine lOp_mono (fun a' w' h3 => ih (listed.setIfInBounds j true) a' w' hfree' (ready_mono hr (Ne.symm hji)) h3.1 ?_) h2
   rw [Array.setIfInBounds_comm _ _ hji]
   exact h3.2
inductive Waits (md : Region.Mode) (ops : Array Oper) (listed : Array Bool) : Nat → Prop where
 | last {m : Nat} {om oe : Oper} {e : Edge} (hm : ops[m]? = some om) (he : e ∈ om.after) (hb : Region.binds md e = true) (hun : listed.getD e.on false = false) (hoe : ops[e.on]? = some oe) (hse : stillOp oe = false) : Waits md ops listed m
 | step {m : Nat} {om : Oper} {e : Edge} (hm : ops[m]? = some om) (he : e ∈ om.after) (hb : Region.binds md e = true) (hun : listed.getD e.on false = false) (hw : Waits md ops listed e.on) : Waits md ops listed m
theorem Waits.unlisted {listed : Array Bool} {m : Nat} (h : Waits md ops listed m) : ∃ om, ops[m]? = some om ∧ ∃ e ∈ om.after, Region.binds md e = true ∧ listed.getD e.on false = false := by
 cases h with
 | last hm he hb hun _ _ => exact ⟨_, hm, _, he, hb, hun⟩
 | step hm he hb hun _ => exact ⟨_, hm, _, he, hb, hun⟩
theorem Waits.set {listed : Array Bool} {m j : Nat} {oj : Oper} (h : Waits md ops listed m) (hoj : ops[j]? = some oj) (hsj : stillOp oj = true) (hall : ∀ e ∈ oj.after, Region.binds md e = true → listed.getD e.on false = true) : Waits md ops (listed.setIfInBounds j true) m := by
 induction h with
 | last hm he hb hun hoe hse =>
  refine .last hm he hb ?_ hoe hse
  rw [getD_set_ne false]
  ·exact hun
  ·rintro rfl
   rw [hoj] at hoe; cases hoe; rw [hsj] at hse; cases hse
 | step hm he hb hun hw ih =>
  refine .step hm he hb ?_ ih
  rw [getD_set_ne false]
  ·exact hun
  ·rintro rfl
   obtain ⟨om, ho, e, he', hb', hun'⟩ := hw.unlisted
   rw [hoj] at ho; cases ho
   have := hall e he' hb'
   rw [hun'] at this; cases this
theorem wpAnyL_moves {i : Nat} {oi : Oper} (hi : ops[i]? = some oi) (hst : stillOp oi = false) (hsel : ∀ (j : Nat) (o : Oper) cs b, ops[j]? = some o → o.op ≠ .select cs b) :
  ∀ (fuel : Nat) (listed : Array Bool) (a : Act) (w : World), Closed md ops listed →
   (∀ j oj, ops[j]? = some oj → j ≠ i → listed.getD j true = false → (∀ e ∈ oj.after, Region.binds md e = true → e.on ≠ i) → oi.apart ops oj = true ∧ oj.apart ops oi = true) →
   (∀ m om, ops[m]? = some om → m ≠ i → listed.getD m true = false → stillOp om = false → Waits md ops listed m) →
   i ∈ Region.ready md ops listed → Region.wanted oi (yielded ops a.tmps) = true →
   oi.wp P a w (fun a' w' => (lastB md ops oi = false → C w') ∧ wpAnyL P md ops C Q fuel (listed.setIfInBounds i true) a' w') noOut → wpAnyL P md ops C Q (fuel + 1) listed a w := by
 intro fuel
 induction fuel with
 | zero =>
  intro listed a w _ _ _ hr hw H
  refine ⟨fun h => (by rw [h] at hr; cases hr), fun j hj => ?_⟩
  by_cases hji : j = i
  ·subst hji
   unfold lOp
   simp only [hi, hw, hst, if_true, Bool.false_eq_true, if_false]
   exact H
  ·have := ready_mono (i := i) hj hji
   obtain ⟨a', w', ⟨_, h0⟩, _⟩ := wp_some H
   rw [h0.1] at this
   cases this
 | succ fuel ih =>
  intro listed a w hcl hfree hblk hr hw H
  refine ⟨fun h => (by rw [h] at hr; cases hr), fun j hj => ?_⟩
  by_cases hji : j = i
  ·subst hji
   unfold lOp
   simp only [hi, hw, hst, if_true, Bool.false_eq_true, if_false]
   exact H
  ·obtain ⟨hjun, oj, hoj, hall⟩ := mem_ready.1 hj
   have hsj : stillOp oj = true := by
    cases hs : stillOp oj with
    | true => rfl
    | false =>
     obtain ⟨oj', ho', e, he, hb, hun⟩ := (hblk j oj hoj hji hjun hs).unlisted
     rw [hoj] at ho'; cases ho'
     have := hall e he hb
     rw [hun] at this; cases this
   have hnot := not_waits (mem_ready.1 hr).1 (_j := j) hall
   obtain ⟨hap1, hap2⟩ := hfree j oj hoj hji hjun hnot
   obtain ⟨g1, g2, g3⟩ := Oper.apart_spec hap1
   obtain ⟨k1, k2, k3⟩ := Oper.apart_spec hap2
   -- what j yields, from the state behind i
   have back : ∀ {a' : Act} {u : Value} {v : Value}, (a' = a.put oi.dst u ∨ ∃ d, a' = ({ a with defers := d :: a.defers } : Act).put oi.dst u) → YlW P ops C oj v a' → YlW P ops C oj v a := by
    rintro a' u v (rfl | ⟨d, rfl⟩) hy
    ·exact hy.of_same (execOp_put oj (fun cs b => hsel j oj cs b hoj) a oi.dst u g1).symm (wanted_put oj a oi.dst u g1).symm
    ·exact hy.of_same (execOp_put oj (fun cs b => hsel j oj cs b hoj) ({ a with defers := d :: a.defers } : Act) oi.dst u g1).symm (wanted_put oj ({ a with defers := d :: a.defers } : Act) oi.dst u g1).symm
   have hlst : lastB md ops oi = false := not_last hcl hr hi hoj hsj hjun
   obtain ⟨a1, w1, ⟨hC1, hN1⟩, u1, ha1⟩ := wp_some H
   obtain ⟨v, hy1, _⟩ := ylW_of_lOp hoj hsj (hN1.2 j (ready_mono hj hji))
   have hy := back ha1 hy1
   refine hy.lOp hoj ?_
   refine ih (listed.setIfInBounds j true) (a.put oj.dst v) w (hcl.set hj) ?_ ?_ (ready_mono hr (Ne.symm hji)) ?_ ?_
   ·intro k ok hk hki hun hno
    refine hfree k ok hk hki ?_ hno
    by_cases hjk : j = k
    ·subst hjk; exact hjun
    ·rw [getD_set_ne true hjk] at hun; exact hun
   ·intro m om hm hmi hun hs
    have hjm : j ≠ m := by
     rintro rfl
     rw [hoj] at hm; cases hm; rw [hsj] at hs; cases hs
    rw [getD_set_ne true hjm] at hun
    exact (hblk m om hm hmi hun hs).set hoj hsj hall
   ·rw [wanted_put oi a oj.dst v k1]; exact hw
   ·refine wp_behind hap2 (fun cs b => hsel i oi cs b hi) ?_
    -- every state behind i: j yields the same v there
    have key : ∀ (a' : Act) (w' : World) (u : Value), (a' = a.put oi.dst u ∨ ∃ d, a' = ({ a with defers := d :: a.defers } : Act).put oi.dst u) → ((lastB md ops oi = false → C w') ∧ wpAnyL P md ops C Q (fuel + 1) (listed.setIfInBounds i true) a' w') →
      (lastB md ops oi = false → C w') ∧ wpAnyL P md ops C Q fuel ((listed.setIfInBounds j true).setIfInBounds i true) (a'.put oj.dst v) w' := by
     rintro a' w' u ha' ⟨hC', hN'⟩
     refine ⟨hC', ?_⟩
     obtain ⟨v', hy', hK'⟩ := ylW_of_lOp hoj hsj (hN'.2 j (ready_mono hj hji))
     have hy2 := back ha' hy'
     have hvv : v' = v := by
      rcases hy with ⟨hw1, _, hv1⟩ | ⟨hw1, rfl⟩
      ·rcases hy2 with ⟨hw2, _, hv2⟩ | ⟨hw2, _⟩
       ·have e1 := hv1 w' (hC' hlst)
        have e2 := hv2 w' (hC' hlst)
        rw [e1] at e2
        injection e2 with e2
        injection e2 with e2
        exact e2.symm
       ·rw [hw1] at hw2; cases hw2
      ·rcases hy2 with ⟨hw2, _⟩ | ⟨_, h2⟩
       ·rw [hw1] at hw2; cases hw2
       ·exact h2
     rw [← hvv, Array.setIfInBounds_comm _ _ hji]
     exact hK'
    unfold Oper.wp at H ⊢
    generalize (execOp a.eval oi).run P w = r at *
    cases r with
    | ok n w' =>
     cases n <;> simp only [Oper.upon] at H ⊢
     case value u => exact key _ _ u (.inl rfl) H
     case skip => exact key _ _ _ (.inl rfl) H
     case defer d => exact key _ _ _ (.inr ⟨d, rfl⟩) H
     case enter f args =>
      refine Calls.mono H fun e w'' he => ?_
      cases e with
      | returned u => exact key _ _ u (.inl rfl) he
      | panicked c => exact he
      | outgrown => exact he
     case row row args => exact Rows.mono H fun u w'' he => key _ _ u (.inl rfl) he
    | halt x w' => cases x <;> simp only [Oper.upon] at H ⊢ <;> exact H.elim
theorem apart_symm {x y : Oper} (h : x.apart ops y = true) : y.apart ops x = true := by
 obtain ⟨h1, h2, h3⟩ := Oper.apart_spec h
 unfold Oper.apart
 rw [Bool.and_eq_true]
 constructor
 ·cases hy : y.dst with
  | none => rfl
  | some d =>
   simp only [Bool.and_eq_true, bne_iff_ne, Bool.not_eq_true']
   refine ⟨?_, fun e => h2 d e hy⟩
   have := h3 d hy
   simpa using this
 ·cases hx : x.dst with
  | none => rfl
  | some d =>
   have := h1 d hx
   simpa using this
def waitsB (md : Region.Mode) (ops : Array Oper) (listed : Array Bool) : Nat → Nat → Bool
 | 0, _ => false
 | fuel + 1, m => match ops[m]? with
  | some om => om.after.any (fun e => Region.binds md e && !listed.getD e.on false && ((match ops[e.on]? with | some oe => !stillOp oe | none => false) || waitsB md ops listed fuel e.on))
  | none => false
theorem waits_spec {listed : Array Bool} : ∀ {fuel m : Nat}, waitsB md ops listed fuel m = true → Waits md ops listed m
 | 0, _, h => by simp [waitsB] at h
 | fuel + 1, m, h => by
  unfold waitsB at h
  cases hm : ops[m]? with
  | none => rw [hm] at h; simp at h
  | some om =>
   rw [hm] at h
   obtain ⟨e, he, hb⟩ := Array.any_eq_true'.1 h
   simp only [Bool.and_eq_true, Bool.not_eq_true', Bool.or_eq_true] at hb
   rcases hb.2 with h2 | h2
   ·cases ho : ops[e.on]? with
    | none => rw [ho] at h2; simp at h2
    | some oe => rw [ho] at h2; exact .last hm he hb.1.1 hb.1.2 ho (by simpa using h2)
   ·exact .step hm he hb.1.1 hb.1.2 (waits_spec h2)
def blockedB (md : Region.Mode) (ops : Array Oper) (listed : Array Bool) (i : Nat) : Bool :=
 (List.range ops.size).all fun m => m == i || listed.getD m true || (match ops[m]? with
  | some om => stillOp om || waitsB md ops listed 3 m
  | none => true)
theorem blocked_spec {i : Nat} {listed : Array Bool} (h : blockedB md ops listed i = true) (m : Nat) (om : Oper) (hm : ops[m]? = some om) (hne : m ≠ i) (hun : listed.getD m true = false) (hs : stillOp om = false) :
  Waits md ops listed m := by
 simp only [blockedB, List.all_eq_true, List.mem_range] at h
 have h1 := h m (Array.getElem?_eq_some_iff.1 hm).1
 simp only [hm, Bool.or_eq_true, beq_iff_eq, hne, false_or, hun, Bool.false_eq_true, hs] at h1
 exact waits_spec h1
def lexMFrom (md : Region.Mode) (ops : Array Oper) : Nat → Nat → Array Bool → Bool
 | 0, _, listed => (Region.ready md ops listed).isEmpty
 | fuel + 1, k, listed => (Region.ready md ops listed).contains k && Region.free md ops listed k && ((match ops[k]? with | some o => stillOp o | none => false) || blockedB md ops listed k) && lexMFrom md ops fuel (k + 1) (listed.setIfInBounds k true)
def lexMB (md : Region.Mode) (ops : Array Oper) : Bool := Region.noSelect ops && lexMFrom md ops ops.size 0 (Array.replicate ops.size false)
theorem wpAnyL_lex (hsl : Region.noSelect ops = true) : ∀ (l : List Oper) (k : Nat) (listed : Array Bool) (a : Act) (w : World), Closed md ops listed → (∀ j, l[j]? = ops[k + j]?) →
  lexMFrom md ops l.length k listed = true → wpLex P md ops C Q l a w → wpAnyL P md ops C Q l.length listed a w
 | [], _, _, _, _, _, _, hB, h => ⟨by simpa [lexMFrom] using hB, h⟩
 | o :: l, k, listed, a, w, hcl, hl, hB, h => by
  have h0 : ops[k]? = some o := by simpa using (hl 0).symm
  simp only [List.length_cons, lexMFrom, Bool.and_eq_true] at hB
  obtain ⟨⟨⟨hr, hf⟩, hb⟩, hB'⟩ := hB
  have ih := fun a w => wpAnyL_lex hsl l (k + 1) (listed.setIfInBounds k true) a w (hcl.set (by simpa using hr)) (fun j => by have := hl (j + 1); simpa [Nat.add_assoc, Nat.add_comm 1 j] using this) hB'
  have hr' : k ∈ Region.ready md ops listed := by simpa using hr
  unfold wpLex at h
  by_cases hw : Region.wanted o (yielded ops a.tmps) = true
  ·simp only [hw, if_true] at h
   by_cases hs : stillOp o = true
   ·simp only [hs, if_true] at h
    obtain ⟨v, hy, hK⟩ := h
    exact wpAnyL_still h0 (Region.noSelect_spec hsl) l.length listed a w (Region.free_spec h0 hf) hr' (.inl ⟨hw, hs, hy⟩) (ih _ _ hK)
   ·have hs' : stillOp o = false := by simpa using hs
    simp only [hs', Bool.false_eq_true, if_false] at h
    simp only [h0, hs', Bool.false_or] at hb
    exact wpAnyL_moves h0 hs' (Region.noSelect_spec hsl) l.length listed a w hcl (fun j oj hj hne hun hno => ⟨Region.free_spec h0 hf j oj hj hne hun hno, apart_symm (Region.free_spec h0 hf j oj hj hne hun hno)⟩)
     (fun m om hm hne hun hs2 => blocked_spec hb m om hm hne hun hs2) hr' hw (Oper.wp_mono (fun a w ⟨h1, h2⟩ => ⟨h1, ih a w h2⟩) h)
  ·have hw' : Region.wanted o (yielded ops a.tmps) = false := by simpa using hw
   simp only [hw', Bool.false_eq_true, if_false] at h
   exact wpAnyL_still h0 (Region.noSelect_spec hsl) l.length listed a w (Region.free_spec h0 hf) hr' (.inr ⟨hw', rfl⟩) (ih _ _ h)
theorem wp_region_lex {id : Nat} {a : Act} {w : World} {l : List Oper} (hm : P.follows .mixedOrders = true) (hB : lexMB .any l.toArray = true) (hC : C w.drew)
  (h : wpLex P .any l.toArray C Q l a w.drew) : (Code.region id l.toArray true).wp P Q a w := by
 simp only [lexMB, Bool.and_eq_true] at hB
 refine wp_region_any hm (wpAny_of_L _ _ _ _ (closed_none _) (fun _ _ _ _ _ => hC) ?_)
 have := wpAnyL_lex (C := C) (Q := Q) (md := .any) hB.1 l 0 (Array.replicate l.toArray.size false) a w.drew (closed_none _) (by simp) (by simpa using hB.2) h
 simpa using this
def LexPost (C : World → Prop) (K : Act → World → Prop) : Exit → Act → World → Prop
 | .normal, a, w => C w ∧ K a w
 | _, _, _ => False
theorem wpLex_nil {a : Act} {w : World} (h : Q .normal a w) : wpLex P md ops C Q [] a w := h
theorem wpLex_still {o : Oper} {rest : List Oper} {a : Act} {w : World} (hs : stillOp o = true) (h : wpQuiet P ops C (fun a' => wpLex P md ops C Q rest a' w) [o] a) : wpLex P md ops C Q (o :: rest) a w := by
 unfold wpQuiet at h
 unfold wpLex
 by_cases hw : Region.wanted o (yielded ops a.tmps) = true
 ·simp only [hw, if_true, hs] at h ⊢
  obtain ⟨v, h1, h2⟩ := h
  refine ⟨v, fun w' hw' => ?_, h2⟩
  have h3 := h1 w' hw'
  unfold Oper.quietAt at h3
  cases hr : (execOp a.eval o).run P w' with
  | ok n w1 =>
   rw [hr] at h3
   obtain ⟨u, rfl⟩ := still_value hs hr
   obtain ⟨e1, e2⟩ := h3
   rw [e1, e2]
  | halt x w1 => rw [hr] at h3; exact h3.elim
 ·simp only [hw] at h ⊢; exact h
theorem wpLex_move {o : Oper} {rest : List Oper} {a : Act} {w : World} (hs : stillOp o = false) (hw : Region.wanted o (yielded ops a.tmps) = true) (h : wpList P ops (LexPost C (wpLex P md ops C Q rest)) [o] a w) : wpLex P md ops C Q (o :: rest) a w := by
 unfold wpList at h
 unfold wpLex
 simp only [hw, if_true, hs, Bool.false_eq_true, if_false] at h ⊢
 rcases h with h | ⟨_, h⟩
 ·refine wp_noOut' (fun e a w hne => ?_) (fun a w h => ⟨fun _ => h.1, h.2⟩) h
  cases e <;> simp_all [LexPost]
 ·obtain ⟨_, _, h⟩ := h; exact h.elim
theorem wpLex_last {o : Oper} {rest : List Oper} {a : Act} {w : World} (hs : stillOp o = false) (hl : lastB md ops o = true) (hw : Region.wanted o (yielded ops a.tmps) = true) (h : wpList P ops (LexPost (fun _ => True) (wpLex P md ops C Q rest)) [o] a w) : wpLex P md ops C Q (o :: rest) a w := by
 unfold wpList at h
 unfold wpLex
 simp only [hw, if_true, hs, Bool.false_eq_true, if_false] at h ⊢
 rcases h with h | ⟨_, h⟩
 ·refine wp_noOut' (fun e a w hne => ?_) (fun a w h => ⟨fun hf => (by rw [hl] at hf; cases hf), h.2⟩) h
  cases e <;> simp_all [LexPost]
 ·obtain ⟨_, _, h⟩ := h; exact h.elim
theorem wpLex_skip {o : Oper} {rest : List Oper} {a : Act} {w : World} (hw : Region.wanted o (yielded ops a.tmps) = false) (h : wpLex P md ops C Q rest (a.put o.dst undef) w) : wpLex P md ops C Q (o :: rest) a w := by
 unfold wpLex
 simp only [hw, Bool.false_eq_true, if_false]
 exact h
end

structure ExtX (w0 : World) (X : List Nat) where
 w : World
 size : w0.heap.size ≤ w.heap.size
 same : ∀ k, k < w0.heap.size → k ∉ X → w.heap[k]? = w0.heap[k]?
instance (w0 : World) (X : List Nat) : Nonempty (ExtX w0 X) := ⟨⟨w0, Nat.le_refl _, fun _ _ _ => rfl⟩⟩
abbrev InX (w0 : World) (X : List Nat) : World → Prop := fun w' => ∃ x : ExtX w0 X, w' = x.w
theorem ExtX.cell {w0 : World} {X : List Nat} (x : ExtX w0 X) {p : Addr} {v : Value} (hc : w0.cell? p = some v) (hp : p.block ∉ X) : x.w.cell? p = some v :=
 (World.cell?_of_block (x.same p.block (World.block_lt_of_cell? w0 p hc) hp)).trans hc
theorem inX_ext {w0 w1 w2 : World} {X : List Nat} (h : InX w0 X w1) (hb : Ext w1 w2) : InX w0 X w2 := by
 obtain ⟨x, rfl⟩ := h
 exact ⟨⟨w2, Nat.le_trans x.size hb.size, fun k hk hX => (hb.block k (Nat.lt_of_lt_of_le hk x.size)).trans (x.same k hk hX)⟩, rfl⟩
theorem inX_self (w0 : World) (X : List Nat) : InX w0 X w0 := ⟨⟨w0, Nat.le_refl _, fun _ _ _ => rfl⟩, rfl⟩
theorem inX_of_ext {w0 w1 : World} (X : List Nat) (hb : Ext w0 w1) : InX w0 X w1 := inX_ext (inX_self w0 X) hb
theorem inX_put {w0 w1 : World} {X : List Nat} (h : InX w0 X w1) {p : Addr} (hp : p.block ∈ X ∨ w0.heap.size ≤ p.block) (v : Value) : InX w0 X (w1.setCell p v) := by
 obtain ⟨x, rfl⟩ := h
 refine ⟨⟨x.w.setCell p v, by simpa [World.setCell] using x.size, fun k hk hX => (Below.heap_setCell x.w p v k ?_).trans (x.same k hk hX)⟩, rfl⟩
 rintro rfl
 rcases hp with hp | hp
 ·exact hX hp
 ·omega
end Go.Proofs.YtjinpfnefeiooaaGreat
namespace Go.Proofs.YtjinpfnefeiooaaGreat
open Go.RowKit
section
variable {P : Program} {ops : Array Oper} {md : Region.Mode} {C : World → Prop} {Q : Exit → Act → World → Prop}

theorem moves_push {i : Nat} {oi : Oper} (hi : ops[i]? = some oi) (hsel : ∀ (j : Nat) (o : Oper) cs b, ops[j]? = some o → o.op ≠ .select cs b)
  {fuel : Nat} {listed : Array Bool} {a : Act} {w : World} {j : Nat} {oj : Oper} {v : Value} (hcl : Closed md ops listed) (hj : j ∈ Region.ready md ops listed) (hoj : ops[j]? = some oj) (hji : j ≠ i) (hsj : stillOp oj = true) (hjun : listed.getD j true = false)
  (hap1 : oi.apart ops oj = true) (hap2 : oj.apart ops oi = true) (hr : i ∈ Region.ready md ops listed) (hy : YlW P ops C oj v a)
  (H : oi.wp P a w (fun a' w' => (lastB md ops oi = false → C w') ∧ wpAnyL P md ops C Q (fuel + 1) (listed.setIfInBounds i true) a' w') noOut) :
  oi.wp P (a.put oj.dst v) w (fun a' w' => (lastB md ops oi = false → C w') ∧ wpAnyL P md ops C Q fuel ((listed.setIfInBounds j true).setIfInBounds i true) a' w') noOut := by
 obtain ⟨g1, g2, g3⟩ := Oper.apart_spec hap1
 have back : ∀ {a' : Act} {u : Value} {v : Value}, (a' = a.put oi.dst u ∨ ∃ d, a' = ({ a with defers := d :: a.defers } : Act).put oi.dst u) → YlW P ops C oj v a' → YlW P ops C oj v a := by
  rintro a' u v (rfl | ⟨d, rfl⟩) hy
  ·exact hy.of_same (execOp_put oj (fun cs b => hsel j oj cs b hoj) a oi.dst u g1).symm (wanted_put oj a oi.dst u g1).symm
  ·exact hy.of_same (execOp_put oj (fun cs b => hsel j oj cs b hoj) ({ a with defers := d :: a.defers } : Act) oi.dst u g1).symm (wanted_put oj ({ a with defers := d :: a.defers } : Act) oi.dst u g1).symm
 have hlst : lastB md ops oi = false := not_last hcl hr hi hoj hsj hjun
 refine wp_behind hap2 (fun cs b => hsel i oi cs b hi) ?_
 have key : ∀ (a' : Act) (w' : World) (u : Value), (a' = a.put oi.dst u ∨ ∃ d, a' = ({ a with defers := d :: a.defers } : Act).put oi.dst u) → ((lastB md ops oi = false → C w') ∧ wpAnyL P md ops C Q (fuel + 1) (listed.setIfInBounds i true) a' w') →
   (lastB md ops oi = false → C w') ∧ wpAnyL P md ops C Q fuel ((listed.setIfInBounds j true).setIfInBounds i true) (a'.put oj.dst v) w' := by
  rintro a' w' u ha' ⟨hC', hN'⟩
  refine ⟨hC', ?_⟩
  obtain ⟨v', hy', hK'⟩ := ylW_of_lOp hoj hsj (hN'.2 j (ready_mono hj hji))
  have hy2 := back ha' hy'
  have hvv : v' = v := by
   rcases hy with ⟨hw1, _, hv1⟩ | ⟨hw1, rfl⟩
   ·rcases hy2 with ⟨hw2, _, hv2⟩ | ⟨hw2, _⟩
    ·have e1 := hv1 w' (hC' hlst)
     have e2 := hv2 w' (hC' hlst)
     rw [e1] at e2
     injection e2 with e2
     injection e2 with e2
     exact e2.symm
    ·rw [hw1] at hw2; cases hw2
   ·rcases hy2 with ⟨hw2, _⟩ | ⟨_, h2⟩
    ·rw [hw1] at hw2; cases hw2
    ·exact h2
  rw [← hvv, Array.setIfInBounds_comm _ _ hji]
  exact hK'
 unfold Oper.wp at H ⊢
 generalize (execOp a.eval oi).run P w = r at *
 cases r with
 | ok n w' =>
  cases n <;> simp only [Oper.upon] at H ⊢
  case value u => exact key _ _ u (.inl rfl) H
  case skip => exact key _ _ _ (.inl rfl) H
  case defer d => exact key _ _ _ (.inr ⟨d, rfl⟩) H
  case enter f args =>
   refine Calls.mono H fun e w'' he => ?_
   cases e with
   | returned u => exact key _ _ u (.inl rfl) he
   | panicked c => exact he
   | outgrown => exact he
  case row row args => exact Rows.mono H fun u w'' he => key _ _ u (.inl rfl) he
 | halt x w' => cases x <;> simp only [Oper.upon] at H ⊢ <;> exact H.elim
theorem yield_back {i : Nat} {oi : Oper} (hsel : ∀ (j : Nat) (o : Oper) cs b, ops[j]? = some o → o.op ≠ .select cs b)
  {fuel : Nat} {listed : Array Bool} {a : Act} {w : World} {j : Nat} {oj : Oper} (hj : j ∈ Region.ready md ops listed) (hoj : ops[j]? = some oj) (hji : j ≠ i) (hsj : stillOp oj = true)
  (hap1 : oi.apart ops oj = true) (H : oi.wp P a w (fun a' w' => (lastB md ops oi = false → C w') ∧ wpAnyL P md ops C Q (fuel + 1) (listed.setIfInBounds i true) a' w') noOut) : ∃ v, YlW P ops C oj v a := by
 obtain ⟨g1, g2, g3⟩ := Oper.apart_spec hap1
 obtain ⟨a1, w1, ⟨_, hN1⟩, u1, ha1⟩ := wp_some H
 obtain ⟨v, hy1, _⟩ := ylW_of_lOp hoj hsj (hN1.2 j (ready_mono hj hji))
 refine ⟨v, ?_⟩
 rcases ha1 with rfl | ⟨d, rfl⟩
 ·exact hy1.of_same (execOp_put oj (fun cs b => hsel j oj cs b hoj) a oi.dst u1 g1).symm (wanted_put oj a oi.dst u1 g1).symm
 ·exact hy1.of_same (execOp_put oj (fun cs b => hsel j oj cs b hoj) ({ a with defers := d :: a.defers } : Act) oi.dst u1 g1).symm (wanted_put oj ({ a with defers := d :: a.defers } : Act) oi.dst u1 g1).symm
abbrev FreeOf (md : Region.Mode) (ops : Array Oper) (listed : Array Bool) (i : Nat) (oi : Oper) : Prop := ∀ j oj, ops[j]? = some oj → j ≠ i → listed.getD j true = false → (∀ e ∈ oj.after, Region.binds md e = true → e.on ≠ i) → oi.apart ops oj = true ∧ oj.apart ops oi = true
theorem FreeOf.set {listed : Array Bool} {i j : Nat} {oi : Oper} (h : FreeOf md ops listed i oi) (hjun : listed.getD j true = false) : FreeOf md ops (listed.setIfInBounds j true) i oi := by
 intro k ok hk hki hun hno
 refine h k ok hk hki ?_ hno
 by_cases hjk : j = k
 ·subst hjk; exact hjun
 ·rw [getD_set_ne true hjk] at hun; exact hun
def wpLexI (P : Program) (md : Region.Mode) (ops : Array Oper) (C : World → Prop) (Q : Exit → Act → World → Prop) : List Nat → Act → World → Prop
 | [], a, w => Q .normal a w
 | i :: is, a, w => match ops[i]? with
  | none => False
  | some o =>
   if Region.wanted o (yielded ops a.tmps) then
    if stillOp o then ∃ v, Yl P C o v a ∧ wpLexI P md ops C Q is (a.put o.dst v) w
    else o.wp P a w (fun a' w' => (lastB md ops o = false → C w') ∧ wpLexI P md ops C Q is a' w') noOut
   else wpLexI P md ops C Q is (a.put o.dst undef) w
def stillAt (ops : Array Oper) (i : Nat) : Bool := match ops[i]? with | some o => stillOp o | none => false
def lexIB (md : Region.Mode) (ops : Array Oper) : List Nat → Array Bool → Bool
 | [], listed => (Region.ready md ops listed).isEmpty
 | i :: is, listed => (Region.ready md ops listed).contains i && Region.free md ops listed i && (stillAt ops i || blockedB md ops listed i) && lexIB md ops is (listed.setIfInBounds i true)
theorem wpAnyL_lexI (hsl : Region.noSelect ops = true) : ∀ (is : List Nat) (listed : Array Bool) (a : Act) (w : World), Closed md ops listed → lexIB md ops is listed = true → wpLexI P md ops C Q is a w → wpAnyL P md ops C Q is.length listed a w
 | [], _, _, _, _, hB, h => ⟨by simpa [lexIB] using hB, h⟩
 | i :: is, listed, a, w, hcl, hB, h => by
  simp only [lexIB, Bool.and_eq_true] at hB
  obtain ⟨⟨⟨hr, hf⟩, hb⟩, hB'⟩ := hB
  have hr' : i ∈ Region.ready md ops listed := by simpa using hr
  unfold wpLexI at h
  cases h0 : ops[i]? with
  | none => rw [h0] at h; exact h.elim
  | some o =>
   rw [h0] at h
   simp only at h
   have ih := fun a w => wpAnyL_lexI hsl is (listed.setIfInBounds i true) a w (hcl.set hr') hB'
   by_cases hw : Region.wanted o (yielded ops a.tmps) = true
   ·simp only [hw, if_true] at h
    by_cases hs : stillOp o = true
    ·simp only [hs, if_true] at h
     obtain ⟨v, hy, hK⟩ := h
     exact wpAnyL_still h0 (Region.noSelect_spec hsl) is.length listed a w (Region.free_spec h0 hf) hr' (.inl ⟨hw, hs, hy⟩) (ih _ _ hK)
    ·have hs' : stillOp o = false := by simpa using hs
     simp only [hs', Bool.false_eq_true, if_false] at h
     simp only [stillAt, h0, hs', Bool.false_or] at hb
     exact wpAnyL_moves h0 hs' (Region.noSelect_spec hsl) is.length listed a w hcl (fun j oj hj hne hun hno => ⟨Region.free_spec h0 hf j oj hj hne hun hno, apart_symm (Region.free_spec h0 hf j oj hj hne hun hno)⟩)
      (fun m om hm hne hun hs2 => blocked_spec hb m om hm hne hun hs2) hr' hw (Oper.wp_mono (fun a w ⟨h1, h2⟩ => ⟨h1, ih a w h2⟩) h)
   ·have hw' : Region.wanted o (yielded ops a.tmps) = false := by simpa using hw
    simp only [hw', Bool.false_eq_true, if_false] at h
    exact wpAnyL_still h0 (Region.noSelect_spec hsl) is.length listed a w (Region.free_spec h0 hf) hr' (.inr ⟨hw', rfl⟩) (ih _ _ h)
theorem wanted_plain {o : Oper} (hg : o.guard = none) (ys : Nat → Option Bool) : Region.wanted o ys = true := by
 unfold Region.wanted
 rw [hg]
theorem quiet_yl {o : Oper} {a : Act} {K : Act → Prop} (hs : stillOp o = true) (h : wpQuiet P ops C K [o] a) : if Region.wanted o (yielded ops a.tmps) then ∃ v, Yl P C o v a ∧ K (a.put o.dst v) else K (a.put o.dst undef) := by
 unfold wpQuiet at h
 by_cases hw : Region.wanted o (yielded ops a.tmps) = true
 ·simp only [hw, if_true] at h ⊢
  obtain ⟨v, h1, h2⟩ := h
  refine ⟨v, fun w' hw' => ?_, h2⟩
  have h3 := h1 w' hw'
  unfold Oper.quietAt at h3
  cases hr : (execOp a.eval o).run P w' with
  | ok n w1 =>
   rw [hr] at h3
   obtain ⟨u, rfl⟩ := still_value hs hr
   obtain ⟨e1, e2⟩ := h3
   rw [e1, e2]
  | halt x w1 => rw [hr] at h3; exact h3.elim
 ·simp only [hw] at h ⊢; exact h
theorem list_move {o : Oper} {a : Act} {w : World} {K : Act → World → Prop} (hw : Region.wanted o (yielded ops a.tmps) = true) (h : wpList P ops (LexPost C K) [o] a w) : o.wp P a w (fun a' w' => (lastB md ops o = false → C w') ∧ K a' w') noOut := by
 unfold wpList at h
 simp only [hw, if_true] at h
 rcases h with h | ⟨_, h⟩
 ·refine wp_noOut' (fun e a w hne => ?_) (fun a w h => ⟨fun _ => h.1, h.2⟩) h
  cases e <;> simp_all [LexPost]
 ·obtain ⟨_, _, h⟩ := h; exact h.elim
theorem wpLexI_still {i : Nat} {is : List Nat} {o : Oper} {a : Act} {w : World} (ho' : ops.toList[i]? = some o) (hs : stillOp o = true) (h : wpQuiet P ops C (fun a' => wpLexI P md ops C Q is a' w) [o] a) : wpLexI P md ops C Q (i :: is) a w := by
 have ho : ops[i]? = some o := by simpa using ho'
 have h1 := quiet_yl hs h
 unfold wpLexI
 rw [ho]
 simp only
 by_cases hw : Region.wanted o (yielded ops a.tmps) = true
 ·simp only [hw, if_true, hs] at h1 ⊢; exact h1
 ·simp only [hw] at h1 ⊢; exact h1
theorem wpLexI_move {i : Nat} {is : List Nat} {o : Oper} {a : Act} {w : World} (ho' : ops.toList[i]? = some o) (hs : stillOp o = false) (hw : Region.wanted o (yielded ops a.tmps) = true) (h : wpList P ops (LexPost C (wpLexI P md ops C Q is)) [o] a w) : wpLexI P md ops C Q (i :: is) a w := by
 have ho : ops[i]? = some o := by simpa using ho'
 unfold wpLexI
 rw [ho]
 simp only [hw, if_true, hs, Bool.false_eq_true, if_false]
 exact list_move hw h
end
end Go.Proofs.YtjinpfnefeiooaaGreat
namespace Go.Proofs.YtjinpfnefeiooaaGreat
open Go.RowKit
section
variable {P : Program} {ops : Array Oper} {md : Region.Mode} {C : World → Prop} {Q : Exit → Act → World → Prop}

theorem wpAnyL_movesN (hsel : ∀ (j : Nat) (o : Oper) cs b, ops[j]? = some o → o.op ≠ .select cs b) (cs : List Nat) (hne : cs ≠ []) :
  ∀ (fuel : Nat) (listed : Array Bool) (a : Act) (w : World), Closed md ops listed →
   (∀ i ∈ cs, ∃ oi, ops[i]? = some oi ∧ stillOp oi = false ∧ FreeOf md ops listed i oi ∧ i ∈ Region.ready md ops listed ∧ Region.wanted oi (yielded ops a.tmps) = true ∧ oi.wp P a w (fun a' w' => (lastB md ops oi = false → C w') ∧ wpAnyL P md ops C Q fuel (listed.setIfInBounds i true) a' w') noOut) →
   (∀ m om, ops[m]? = some om → m ∉ cs → listed.getD m true = false → stillOp om = false → Waits md ops listed m) → wpAnyL P md ops C Q (fuel + 1) listed a w := by
 obtain ⟨i0, hi0⟩ := List.exists_mem_of_ne_nil cs hne
 intro fuel
 induction fuel with
 | zero =>
  intro listed a w _ H _
  obtain ⟨o0, ho0, hs0, hf0, hr0, hw0, H0⟩ := H i0 hi0
  refine ⟨fun h => (by rw [h] at hr0; cases hr0), fun j hj => ?_⟩
  by_cases hjc : j ∈ cs
  ·obtain ⟨oj, hoj, hsj, _, _, hwj, Hj⟩ := H j hjc
   unfold lOp
   simp only [hoj, hwj, hsj, if_true, Bool.false_eq_true, if_false]
   exact Hj
  ·have hji : j ≠ i0 := fun e => hjc (e ▸ hi0)
   have := ready_mono (i := i0) hj hji
   obtain ⟨a', w', ⟨_, h0⟩, _⟩ := wp_some H0
   rw [h0.1] at this
   cases this
 | succ fuel ih =>
  intro listed a w hcl H hblk
  obtain ⟨o0, ho0, hs0, hf0, hr0, hw0, H0⟩ := H i0 hi0
  refine ⟨fun h => (by rw [h] at hr0; cases hr0), fun j hj => ?_⟩
  by_cases hjc : j ∈ cs
  ·obtain ⟨oj, hoj, hsj, _, _, hwj, Hj⟩ := H j hjc
   unfold lOp
   simp only [hoj, hwj, hsj, if_true, Bool.false_eq_true, if_false]
   exact Hj
  obtain ⟨hjun, oj, hoj, hall⟩ := mem_ready.1 hj
  have hji : j ≠ i0 := fun e => hjc (e ▸ hi0)
  have hsj : stillOp oj = true := by
   cases hs : stillOp oj with
   | true => rfl
   | false =>
    obtain ⟨oj', ho', e, he, hb, hun⟩ := (hblk j oj hoj hjc hjun hs).unlisted
    rw [hoj] at ho'; cases ho'
    have := hall e he hb
    rw [hun] at this; cases this
  obtain ⟨i1, i2⟩ := hf0 j oj hoj hji hjun (not_waits (mem_ready.1 hr0).1 (_j := j) hall)
  obtain ⟨v, hy⟩ := yield_back hsel hj hoj hji hsj i1 H0
  refine hy.lOp hoj ?_
  refine ih (listed.setIfInBounds j true) (a.put oj.dst v) w (hcl.set hj) ?_ ?_
  ·intro i hi
   obtain ⟨oi, hoi, hsi, hfi, hri, hwi, Hi⟩ := H i hi
   have hjn : j ≠ i := fun e => hjc (e ▸ hi)
   obtain ⟨k1, k2⟩ := hfi j oj hoj hjn hjun (not_waits (mem_ready.1 hri).1 (_j := j) hall)
   exact ⟨oi, hoi, hsi, hfi.set hjun, ready_mono hri (Ne.symm hjn), by rw [wanted_put oi a oj.dst v (Oper.apart_spec k2).1]; exact hwi, moves_push hoi hsel hcl hj hoj hjn hsj hjun k1 k2 hri hy Hi⟩
  ·intro m om hm hmc hun hs
   have hjm : j ≠ m := by
    rintro rfl
    rw [hoj] at hm; cases hm; rw [hsj] at hs; cases hs
   rw [getD_set_ne true hjm] at hun
   exact (hblk m om hm hmc hun hs).set hoj hsj hall
def Lis (n : Nat) (L : Array Bool) (D : Nat → Prop) : Prop := L.size = n ∧ ∀ x, x < n → (L[x]? = some true ↔ D x)
def mkL (n : Nat) (D : List Nat) : Array Bool := D.foldl (fun A i => A.setIfInBounds i true) (Array.replicate n false)
theorem Lis.set {n : Nat} {L : Array Bool} {D : Nat → Prop} (h : Lis n L D) (i : Nat) : Lis n (L.setIfInBounds i true) (fun x => D x ∨ x = i) := by
 refine ⟨by simp [h.1], fun x hx => ?_⟩
 by_cases e : i = x
 ·subst e
  have : i < L.size := by rw [h.1]; exact hx
  simp [this]
 ·rw [Array.getElem?_setIfInBounds_ne e, h.2 x hx]
  exact ⟨.inl, fun h => h.resolve_right (fun e' => e e'.symm)⟩
theorem Lis.congr {n : Nat} {L : Array Bool} {D D' : Nat → Prop} (h : Lis n L D) (hd : ∀ x, D x ↔ D' x) : Lis n L D' := ⟨h.1, fun x hx => (h.2 x hx).trans (hd x)⟩
theorem lis_fold {n : Nat} : ∀ (l : List Nat) {L : Array Bool} {D : Nat → Prop}, Lis n L D → Lis n (l.foldl (fun A i => A.setIfInBounds i true) L) (fun x => D x ∨ x ∈ l)
 | [], _, _, h => h.congr fun x => by simp
 | i :: l, _, _, h => (lis_fold l (h.set i)).congr fun x => by simp [or_assoc]
theorem lis_mk (n : Nat) (l : List Nat) : Lis n (mkL n l) (fun x => x ∈ l) := by
 have h0 : Lis n (Array.replicate n false) (fun _ => False) := ⟨by simp, fun x hx => by simp [hx]⟩
 exact (lis_fold l h0).congr fun x => by simp
theorem Lis.val {n : Nat} {L : Array Bool} {D : Nat → Prop} (h : Lis n L D) {x : Nat} (hx : x < n) : (L[x]? = some true ∧ D x) ∨ (L[x]? = some false ∧ ¬ D x) := by
 have hs : x < L.size := by rw [h.1]; exact hx
 cases e : L[x] with
 | true => exact .inl ⟨by rw [Array.getElem?_eq_getElem hs, e], (h.2 x hx).1 (by rw [Array.getElem?_eq_getElem hs, e])⟩
 | false => exact .inr ⟨by rw [Array.getElem?_eq_getElem hs, e], fun d => by have := (h.2 x hx).2 d; rw [Array.getElem?_eq_getElem hs, e] at this; cases this⟩
theorem Lis.un {n : Nat} {L : Array Bool} {D : Nat → Prop} (h : Lis n L D) {x : Nat} : L.getD x true = false ↔ x < n ∧ ¬ D x := by
 rcases Nat.lt_or_ge x n with hx | hx
 ·have hs : x < L.size := by rw [h.1]; exact hx
  rcases h.val hx with ⟨e, d⟩ | ⟨e, d⟩ <;> rw [Array.getElem?_eq_getElem hs] at e <;> injection e with e
  ·simp [hs, e, d]
  ·simp [hs, e, d, hx]
 ·have hs : ¬ x < L.size := by rw [h.1]; omega
  simp [hs]
  omega
theorem Lis.on {n : Nat} {L : Array Bool} {D : Nat → Prop} (h : Lis n L D) {x : Nat} : L.getD x false = true ↔ x < n ∧ D x := by
 rcases Nat.lt_or_ge x n with hx | hx
 ·have hs : x < L.size := by rw [h.1]; exact hx
  rcases h.val hx with ⟨e, d⟩ | ⟨e, d⟩ <;> rw [Array.getElem?_eq_getElem hs] at e <;> injection e with e
  ·simp [hs, e, d, hx]
  ·simp [hs, e, d]
 ·have hs : ¬ x < L.size := by rw [h.1]; omega
  simp [hs]
  omega
theorem Lis.ext {n : Nat} {L L' : Array Bool} {D D' : Nat → Prop} (h : Lis n L D) (h' : Lis n L' D') (hd : ∀ x, D x ↔ D' x) : L = L' := by
 refine Array.ext (by rw [h.1, h'.1]) fun x h1 h2 => ?_
 have hx : x < n := by rw [← h.1]; exact h1
 have k1 := h.2 x hx
 have k2 := h'.2 x hx
 rw [Array.getElem?_eq_getElem h1] at k1
 rw [Array.getElem?_eq_getElem h2] at k2
 have : L[x] = true ↔ L'[x] = true := by
  constructor
  ·intro e; exact Option.some.inj (k2.2 ((hd x).1 (k1.1 (by rw [e]))))
  ·intro e; exact Option.some.inj (k1.2 ((hd x).2 (k2.1 (by rw [e]))))
 cases e1 : L[x] <;> cases e2 : L'[x] <;> simp_all
section
variable {n : Nat} {A B : Array Bool} {DA DB : Nat → Prop} (hA : Lis n A DA) (hB : Lis n B DB) (hd : ∀ x, DA x → DB x)
include hA hB hd
theorem waits_anti {m : Nat} (h : Waits md ops B m) : Waits md ops A m := by
 have un : ∀ {x : Nat}, B.getD x false = false → A.getD x false = false := fun {x} hx => by
  cases e : A.getD x false with
  | false => rfl
  | true =>
   obtain ⟨h1, h2⟩ := hA.on.1 e
   rw [hB.on.2 ⟨h1, hd x h2⟩] at hx
   cases hx
 induction h with
 | last hm he hb hun hoe hse => exact .last hm he hb (un hun) hoe hse
 | step hm he hb hun _ ih => exact .step hm he hb (un hun) ih
theorem free_mono {i : Nat} {oi : Oper} (h : FreeOf md ops A i oi) : FreeOf md ops B i oi := fun j oj hj hne hun hno => by
 obtain ⟨h1, h2⟩ := hB.un.1 hun
 exact h j oj hj hne (hA.un.2 ⟨h1, fun e => h2 (hd j e)⟩) hno
theorem ready_more {i : Nat} (h : i ∈ Region.ready md ops A) (hi : ¬ DB i) : i ∈ Region.ready md ops B := by
 obtain ⟨hun, o, ho, hall⟩ := mem_ready.1 h
 obtain ⟨h1, _⟩ := hA.un.1 hun
 refine mem_ready.2 ⟨hB.un.2 ⟨h1, hi⟩, o, ho, fun e he hb => ?_⟩
 obtain ⟨k1, k2⟩ := hA.on.1 (hall e he hb)
 exact hB.on.2 ⟨k1, hd _ k2⟩
end

def wpFl (P : Program) (md : Region.Mode) (ops : Array Oper) (C : World → Prop) (Q : Exit → Act → World → Prop) (post : List Nat) : Nat → List Nat → List Nat → Act → World → Prop
 | 0, _, _, a, w => wpLexI P md ops C Q post a w
 | k + 1, U, [], a, w => ∀ f ∈ U, ∃ o, ops[f]? = some o ∧ o.wp P a w (fun a' w' => C w' ∧ wpFl P md ops C Q post k (U.erase f) [] a' w') noOut
 | k + 1, U, i :: is, a, w => ∃ o, ops[i]? = some o ∧
   if Region.wanted o (yielded ops a.tmps) then
    if stillOp o then ∃ v, Yl P C o v a ∧ wpFl P md ops C Q post k U is (a.put o.dst v) w
    else (∀ f ∈ U, ∃ o', ops[f]? = some o' ∧ o'.wp P a w (fun a' w' => C w' ∧ wpFl P md ops C Q post k (U.erase f) (i :: is) a' w') noOut) ∧ o.wp P a w (fun a' w' => C w' ∧ wpFl P md ops C Q post k U is a' w') noOut
   else wpFl P md ops C Q post k U is (a.put o.dst undef) w
def preB (md : Region.Mode) (ops : Array Oper) (fl : List Nat) : List Nat → List Nat → Bool
 | [], _ => true
 | i :: is, done => (Region.ready md ops (mkL ops.size done)).contains i && Region.free md ops (mkL ops.size done) i && (stillAt ops i || blockedB md ops (mkL ops.size (done ++ fl)) i) && preB md ops fl is (done ++ [i])
def plainAt (ops : Array Oper) (f : Nat) : Bool := match ops[f]? with | some o => !stillOp o && o.guard.isNone | none => false
def flB (md : Region.Mode) (ops : Array Oper) (pre fl : List Nat) : Bool :=
 fl.all fun f => plainAt ops f && (Region.ready md ops (mkL ops.size [])).contains f && Region.free md ops (mkL ops.size []) f && blockedB md ops (mkL ops.size (pre ++ fl.filter (· != f))) f && !pre.contains f
theorem free_of {listed : Array Bool} {i : Nat} {oi : Oper} (hi : ops[i]? = some oi) (h : Region.free md ops listed i = true) : FreeOf md ops listed i oi := fun j oj hj hne hun hno =>
 ⟨Region.free_spec hi h j oj hj hne hun hno, apart_symm (Region.free_spec hi h j oj hj hne hun hno)⟩
theorem wpAnyL_fl (hsl : Region.noSelect ops = true) {fl pre post : List Nat} (hfl : flB md ops pre fl = true) (hpost : lexIB md ops post (mkL ops.size (pre ++ fl)) = true) :
  ∀ (k : Nat) (U is done : List Nat) (L : Array Bool) (a : Act) (w : World), k = U.length + is.length → done ++ is = pre → (∀ f ∈ U, f ∈ fl) → U.Nodup → Lis ops.size L (fun x => x ∈ done ∨ (x ∈ fl ∧ x ∉ U)) → Closed md ops L →
   preB md ops fl is done = true → wpFl P md ops C Q post k U is a w → wpAnyL P md ops C Q (k + post.length) L a w := by
 have hF : ∀ f ∈ fl, ∃ o, ops[f]? = some o ∧ stillOp o = false ∧ o.guard = none ∧ f ∈ Region.ready md ops (mkL ops.size []) ∧ FreeOf md ops (mkL ops.size []) f o ∧ blockedB md ops (mkL ops.size (pre ++ fl.filter (· != f))) f = true ∧ f ∉ pre := by
  intro f hf
  have := (List.all_eq_true.1 hfl) f hf
  simp only [Bool.and_eq_true, plainAt] at this
  obtain ⟨⟨⟨⟨h1, h2⟩, h3⟩, h4⟩, h5⟩ := this
  cases ho : ops[f]? with
  | none => rw [ho] at h1; simp at h1
  | some o =>
   rw [ho] at h1
   simp only [Bool.and_eq_true, Bool.not_eq_true', Option.isNone_iff_eq_none] at h1
   exact ⟨o, rfl, h1.1, h1.2, by simpa using h2, free_of ho h3, h4, by simpa using h5⟩
 intro k
 induction k with
 | zero =>
  intro U is done L a w hk hd hU hn hL hcl hp h
  have hU0 : U = [] := List.length_eq_zero_iff.1 (by omega)
  have hi0 : is = [] := List.length_eq_zero_iff.1 (by omega)
  subst hU0 hi0
  have e : L = mkL ops.size (pre ++ fl) := hL.ext (lis_mk _ _) fun x => by rw [← hd]; simp
  rw [e] at hcl
  rw [e, Nat.zero_add]
  exact wpAnyL_lexI hsl post _ a w hcl hpost h
 | succ k ih =>
  intro U is done L a w hk hd hU hn hL hcl hp h
  have hflU : ∀ f ∈ U, ∀ (o : Oper), ops[f]? = some o → o.wp P a w (fun a' w' => C w' ∧ wpFl P md ops C Q post k (U.erase f) is a' w') noOut →
    ∃ oi, ops[f]? = some oi ∧ stillOp oi = false ∧ FreeOf md ops L f oi ∧ f ∈ Region.ready md ops L ∧ Region.wanted oi (yielded ops a.tmps) = true ∧ oi.wp P a w (fun a' w' => (lastB md ops oi = false → C w') ∧ wpAnyL P md ops C Q (k + post.length) (L.setIfInBounds f true) a' w') noOut := by
   intro f hf o ho hwp
   obtain ⟨o', ho', hs, hg, hr, hfr, _, hnp⟩ := hF f (hU f hf)
   rw [ho] at ho'
   cases ho'
   have hrf : f ∈ Region.ready md ops L := ready_more (lis_mk _ _) hL (by simp) hr (by
    rintro (h1 | ⟨_, h1⟩)
    ·exact hnp (by rw [← hd]; simp [h1])
    ·exact h1 hf)
   refine ⟨o, ho, hs, free_mono (lis_mk _ _) hL (by simp) hfr, hrf, wanted_plain hg _, Oper.wp_mono (fun a' w' ⟨h1, h2⟩ => ⟨fun _ => h1, ?_⟩) hwp⟩
   ·refine ih (U.erase f) is done _ a' w' ?_ hd (fun x hx => hU x (List.mem_of_mem_erase hx)) (hn.erase f) ((hL.set f).congr fun x => ?_) (hcl.set hrf) hp h2
    ·have := List.length_erase_of_mem hf
     have := List.length_pos_of_mem hf
     omega
    ·rw [hn.mem_erase_iff]
     constructor
     ·rintro ((h1 | ⟨h1, h3⟩) | rfl)
      ·exact .inl h1
      ·exact .inr ⟨h1, fun e => h3 e.2⟩
      ·exact .inr ⟨hU _ hf, fun e => e.1 rfl⟩
     ·rintro (h1 | ⟨h1, h3⟩)
      ·exact .inl (.inl h1)
      ·by_cases e : x = f
       ·exact .inr e
       ·exact .inl (.inr ⟨h1, fun h4 => h3 ⟨e, h4⟩⟩)
  cases is with
  | nil =>
   have hne : U ≠ [] := by rintro rfl; simp at hk
   have e1 : k + 1 + post.length = (k + post.length) + 1 := by omega
   rw [e1]
   unfold wpFl at h
   refine wpAnyL_movesN (Region.noSelect_spec hsl) U hne _ L a w hcl (fun f hf => ?_) ?_
   ·obtain ⟨o, ho, hwp⟩ := h f hf
    exact hflU f hf o ho hwp
   ·intro m om hm hmU hun hs
    obtain ⟨f0, hf0⟩ := List.exists_mem_of_ne_nil U hne
    obtain ⟨_, _, _, _, _, _, hb, _⟩ := hF f0 (hU f0 hf0)
    obtain ⟨hmn, hmd⟩ := hL.un.1 hun
    have hmf : m ∉ fl := fun e => hmd (.inr ⟨e, hmU⟩)
    have hmp : m ∉ pre := fun e => hmd (.inl (by rw [← hd] at e; simpa using e))
    refine waits_anti hL (lis_mk ops.size (pre ++ fl.filter (· != f0))) (fun x hx => ?_) (blocked_spec hb m om hm (fun e => hmU (e ▸ hf0)) ((lis_mk _ _).un.2 ⟨hmn, by simp [hmp, hmf]⟩) hs)
    rcases hx with hx | ⟨hx, hx2⟩
    ·rw [← hd]; simp [hx]
    ·have : x ≠ f0 := fun e => hx2 (e ▸ hf0)
     simp [hx, this]
  | cons i is =>
   simp only [preB, Bool.and_eq_true] at hp
   obtain ⟨⟨⟨hr, hf⟩, hb⟩, hp'⟩ := hp
   unfold wpFl at h
   obtain ⟨o, ho, h⟩ := h
   have hr1 : i ∈ Region.ready md ops (mkL ops.size done) := by simpa using hr
   have hid : i ∉ done := fun e => by
    obtain ⟨h1, _⟩ := mem_ready.1 hr1
    exact ((lis_mk _ _).un.1 h1).2 e
   have hip : i ∈ pre := by rw [← hd]; simp
   have hiD : ¬ (i ∈ done ∨ (i ∈ fl ∧ i ∉ U)) := by
    rintro (h1 | ⟨h1, _⟩)
    ·exact hid h1
    ·obtain ⟨_, _, _, _, _, _, _, hnp⟩ := hF i h1
     exact hnp hip
   have hrL : i ∈ Region.ready md ops L := ready_more (lis_mk _ _) hL (fun x hx => .inl hx) hr1 hiD
   have hfL : FreeOf md ops L i o := free_mono (lis_mk _ _) hL (fun x hx => .inl hx) (free_of ho hf)
   have hL' : Lis ops.size (L.setIfInBounds i true) (fun x => x ∈ done ++ [i] ∨ (x ∈ fl ∧ x ∉ U)) := (hL.set i).congr fun x => by
    simp only [List.mem_append, List.mem_singleton]
    constructor
    ·rintro ((h1 | h1) | h1)
     ·exact .inl (.inl h1)
     ·exact .inr h1
     ·exact .inl (.inr h1)
    ·rintro ((h1 | h1) | h1)
     ·exact .inl (.inl h1)
     ·exact .inr h1
     ·exact .inl (.inr h1)
   have ih' := fun a w => ih U is (done ++ [i]) _ a w (by simp at hk; omega) (by rw [← hd]; simp) hU hn hL' (hcl.set hrL) hp'
   have e1 : k + 1 + post.length = (k + post.length) + 1 := by omega
   rw [e1]
   by_cases hw : Region.wanted o (yielded ops a.tmps) = true
   ·simp only [hw, if_true] at h
    by_cases hs : stillOp o = true
    ·simp only [hs, if_true] at h
     obtain ⟨v, hy, hK⟩ := h
     exact wpAnyL_still ho (Region.noSelect_spec hsl) _ L a w (fun j oj hj hne hun hno => (hfL j oj hj hne hun hno).1) hrL (.inl ⟨hw, hs, hy⟩) (ih' _ _ hK)
    ·have hs' : stillOp o = false := by simpa using hs
     simp only [hs', Bool.false_eq_true, if_false] at h
     simp only [stillAt, ho, hs', Bool.false_or] at hb
     refine wpAnyL_movesN (Region.noSelect_spec hsl) (i :: U) (by simp) _ L a w hcl (fun f hf2 => ?_) ?_
     ·rcases List.mem_cons.1 hf2 with rfl | hf2
      ·exact ⟨o, ho, hs', hfL, hrL, hw, Oper.wp_mono (fun a' w' ⟨h1, h2⟩ => ⟨fun _ => h1, ih' a' w' h2⟩) h.2⟩
      ·obtain ⟨of, hof, hwp⟩ := h.1 f hf2
       exact hflU f hf2 of hof hwp
     ·intro m om hm hmU hun hs2
      obtain ⟨hmn, hmd⟩ := hL.un.1 hun
      have hmi : m ≠ i := fun e => hmU (by simp [e])
      have hmU' : m ∉ U := fun e => hmU (by simp [e])
      have hmf : m ∉ fl := fun e => hmd (.inr ⟨e, hmU'⟩)
      have hmp : m ∉ done := fun e => hmd (.inl e)
      refine waits_anti hL (lis_mk ops.size (done ++ fl)) (fun x hx => ?_) (blocked_spec hb m om hm hmi ((lis_mk _ _).un.2 ⟨hmn, by simp [hmp, hmf]⟩) hs2)
      rcases hx with hx | ⟨hx, _⟩ <;> simp [hx]
   ·have hw' : Region.wanted o (yielded ops a.tmps) = false := by simpa using hw
    simp only [hw', Bool.false_eq_true, if_false] at h
    exact wpAnyL_still ho (Region.noSelect_spec hsl) _ L a w (fun j oj hj hne hun hno => (hfL j oj hj hne hun hno).1) hrL (.inr ⟨hw', rfl⟩) (ih' _ _ h)
def dstAt (ops : Array Oper) (f : Nat) : Option Tmp := match ops[f]? with | some o => o.dst | none => none
def putFl (ops : Array Oper) (gs : Nat → Nat) : List Nat → Act → Act
 | [], a => a
 | f :: l, a => putFl ops gs l (a.put (dstAt ops f) (.pointer (some ⟨gs f, 0, none⟩)))
theorem putFl_append (gs : Nat → Nat) : ∀ (l r : List Nat) (a : Act), putFl ops gs (l ++ r) a = putFl ops gs r (putFl ops gs l a)
 | [], _, _ => rfl
 | _ :: l, r, _ => putFl_append gs l r _
theorem putFl_congr {gs gs' : Nat → Nat} : ∀ (l : List Nat) (a : Act), (∀ f ∈ l, gs f = gs' f) → putFl ops gs l a = putFl ops gs' l a
 | [], _, _ => rfl
 | f :: l, a, h => by
  simp only [putFl]
  rw [h f (by simp)]
  exact putFl_congr l _ fun x hx => h x (by simp [hx])
def ApartFl (ops : Array Oper) (l : List Nat) (o : Oper) : Prop := ∀ f ∈ l, ∃ o', ops[f]? = some o' ∧ o'.apart ops o = true
theorem dst_of {f : Nat} {o : Oper} (h : ops[f]? = some o) : dstAt ops f = o.dst := by simp [dstAt, h]
theorem putFl_put {o : Oper} (gs : Nat → Nat) (v : Value) : ∀ (l : List Nat) (a : Act), ApartFl ops l o → (putFl ops gs l a).put o.dst v = putFl ops gs l (a.put o.dst v)
 | [], _, _ => rfl
 | f :: l, a, h => by
  obtain ⟨o', ho', hap⟩ := h f (by simp)
  obtain ⟨_, h2, _⟩ := Oper.apart_spec hap
  simp only [putFl]
  rw [putFl_put gs v l _ fun x hx => h x (by simp [hx]), dst_of ho', Act.put_comm a _ v h2]
theorem exec_putFl {o : Oper} (hsel : ∀ cs b, o.op ≠ .select cs b) (gs : Nat → Nat) : ∀ (l : List Nat) (a : Act), ApartFl ops l o → execOp (putFl ops gs l a).eval o = execOp a.eval o
 | [], _, _ => rfl
 | f :: l, a, h => by
  obtain ⟨o', ho', hap⟩ := h f (by simp)
  obtain ⟨h1, _, _⟩ := Oper.apart_spec hap
  simp only [putFl]
  rw [exec_putFl hsel gs l _ fun x hx => h x (by simp [hx]), dst_of ho', execOp_put o hsel a _ _ h1]
theorem wanted_putFl {o : Oper} (gs : Nat → Nat) : ∀ (l : List Nat) (a : Act), ApartFl ops l o → Region.wanted o (yielded ops (putFl ops gs l a).tmps) = Region.wanted o (yielded ops a.tmps)
 | [], _, _ => rfl
 | f :: l, a, h => by
  obtain ⟨o', ho', hap⟩ := h f (by simp)
  obtain ⟨h1, _, _⟩ := Oper.apart_spec hap
  simp only [putFl]
  rw [wanted_putFl gs l _ fun x hx => h x (by simp [hx]), dst_of ho', wanted_put o a _ _ h1]
theorem wp_putFl {o : Oper} (hsel : ∀ cs b, o.op ≠ .select cs b) (gs : Nat → Nat) {K : Act → World → Prop} {w : World} : ∀ (l : List Nat) (a : Act), ApartFl ops l o → o.wp P a w (fun a' w' => K (putFl ops gs l a') w') noOut → o.wp P (putFl ops gs l a) w K noOut
 | [], _, _, h => h
 | f :: l, a, h, hh => by
  obtain ⟨o', ho', hap⟩ := h f (by simp)
  simp only [putFl] at hh ⊢
  refine wp_putFl hsel gs l _ (fun x hx => h x (by simp [hx])) ?_
  rw [dst_of ho'] at hh ⊢
  exact wp_behind hap hsel hh
theorem putFl_perm {gs : Nat → Nat} {l l' : List Nat} (h : l.Perm l') (hap : ∀ f ∈ l, ∀ f' ∈ l, f ≠ f' → ∀ d, dstAt ops f = some d → dstAt ops f' ≠ some d) : ∀ a, putFl ops gs l a = putFl ops gs l' a := by
 induction h with
 | nil => intro a; rfl
 | cons x _ ih => intro a; exact ih (fun f hf f' hf' => hap f (by simp [hf]) f' (by simp [hf'])) _
 | swap x y l =>
  intro a
  simp only [putFl]
  by_cases e : x = y
  ·subst e; rfl
  ·rw [Act.put_comm a _ _ (hap y (by simp) x (by simp) (Ne.symm e))]
 | trans h1 _ ih1 ih2 =>
  intro a
  rw [ih1 hap a]
  exact ih2 (fun f hf f' hf' => hap f (h1.mem_iff.2 hf) f' (h1.mem_iff.2 hf')) a
def Placed (w : World) (o : Obj) (iv : List (Nat × Nat)) (B g : Nat) : Prop := B ≤ g ∧ w.heap[g]? = some o ∧ ∀ p ∈ iv, g < p.1 ∨ p.2 ≤ g
theorem Placed.lt {w : World} {o : Obj} {iv : List (Nat × Nat)} {B g : Nat} (h : Placed w o iv B g) : g < w.heap.size := by
 rcases Nat.lt_or_ge g w.heap.size with hl | hl
 ·exact hl
 ·have := h.2.1; rw [Array.getElem?_eq_none hl] at this; cases this
theorem Placed.ext {w w' : World} {o : Obj} {iv : List (Nat × Nat)} {B g : Nat} (h : Placed w o iv B g) (hb : Ext w w') : Placed w' o iv B g := ⟨h.1, (hb.block g h.lt).trans h.2.1, h.2.2⟩
theorem Placed.span {w w' : World} {o : Obj} {iv : List (Nat × Nat)} {B g : Nat} (h : Placed w o iv B g) (hb : Ext w w') : Placed w' o (iv ++ [(w.heap.size, w'.heap.size)]) B g := ⟨h.1, (hb.block g h.lt).trans h.2.1, fun p hp => by
 rcases List.mem_append.1 hp with hp | hp
 ·exact h.2.2 p hp
 ·rw [List.mem_singleton.1 hp]; exact .inl h.lt⟩
def wpHav (P : Program) (md : Region.Mode) (ops : Array Oper) (C : World → Prop) (Q : Exit → Act → World → Prop) (fl post : List Nat) (obj : Nat → Obj) (B : Nat) : List Nat → List (Nat × Nat) → Act → World → Prop
 | [], iv, b, w => ∀ gs : Nat → Nat, (∀ f ∈ fl, Placed w (obj f) iv B (gs f)) → (∀ f ∈ fl, ∀ f' ∈ fl, f ≠ f' → gs f ≠ gs f') → wpLexI P md ops C Q post (putFl ops gs fl b) w
 | i :: is, iv, b, w => ∃ o, ops[i]? = some o ∧
   if Region.wanted o (yielded ops b.tmps) then
    if stillOp o then ∃ v, Yl P C o v b ∧ wpHav P md ops C Q fl post obj B is iv (b.put o.dst v) w
    else o.wp P b w (fun a' w' => Ext w w' ∧ ∀ w'', Ext w' w'' → wpHav P md ops C Q fl post obj B is (iv ++ [(w.heap.size, w'.heap.size)]) a' w'') noOut
   else wpHav P md ops C Q fl post obj B is iv (b.put o.dst undef) w
def apartB (ops : Array Oper) (pre fl : List Nat) : Bool :=
 fl.all fun f => match ops[f]? with
  | none => false
  | some o => pre.all (fun i => match ops[i]? with | some oi => o.apart ops oi | none => false) && fl.all (fun f' => f == f' || match ops[f']? with | some o' => o.apart ops o' | none => false)
def Makes (P : Program) (ops : Array Oper) (obj : Nat → Obj) (f : Nat) : Prop := ∃ o, ops[f]? = some o ∧ ∀ (a : Act) (w : World), (execOp a.eval o).run P w = .ok (.value (.pointer (some ⟨w.heap.size, 0, none⟩))) (w.alloc (obj f))
theorem fl_of_hav (hsl : Region.noSelect ops = true) {fl pre post : List Nat} {obj : Nat → Obj} {B : Nat} (hap : apartB ops pre fl = true) (hmk : ∀ f ∈ fl, Makes P ops obj f) (hCe : ∀ w w', C w → Ext w w' → C w') :
  ∀ (k : Nat) (U AL is : List Nat) (iv : List (Nat × Nat)) (gs : Nat → Nat) (b : Act) (w : World), k = U.length + is.length → (AL ++ U).Perm fl → fl.Nodup → (∀ i ∈ is, i ∈ pre) → C w → (∀ f ∈ AL, Placed w (obj f) iv B (gs f)) → (∀ f ∈ AL, ∀ f' ∈ AL, f ≠ f' → gs f ≠ gs f') →
   (∀ p ∈ iv, p.2 ≤ w.heap.size) → B ≤ w.heap.size → (∀ w'', Ext w w'' → wpHav P md ops C Q fl post obj B is iv b w'') → wpFl P md ops C Q post k U is (putFl ops gs AL b) w := by
 have hA : ∀ f ∈ fl, ∃ o, ops[f]? = some o ∧ (∀ i ∈ pre, ∃ oi, ops[i]? = some oi ∧ o.apart ops oi = true) ∧ ∀ f' ∈ fl, f ≠ f' → ∃ o', ops[f']? = some o' ∧ o.apart ops o' = true := by
  intro f hf
  have := (List.all_eq_true.1 hap) f hf
  cases ho : ops[f]? with
  | none => rw [ho] at this; simp at this
  | some o =>
   rw [ho] at this
   simp only [Bool.and_eq_true, List.all_eq_true] at this
   refine ⟨o, rfl, fun i hi => ?_, fun f' hf' hne => ?_⟩
   ·have h1 := this.1 i hi
    cases hoi : ops[i]? with
    | none => rw [hoi] at h1; simp at h1
    | some oi => rw [hoi] at h1; exact ⟨oi, rfl, h1⟩
   ·have h1 := this.2 f' hf'
    cases hoi : ops[f']? with
    | none => rw [hoi] at h1; simp [hne] at h1
    | some oi => rw [hoi] at h1; simp [hne] at h1; exact ⟨oi, rfl, h1⟩
 intro k
 induction k with
 | zero =>
  intro U AL is iv gs b w hk hperm hnd hpre hC hpl hne hiv hB h
  have hU0 : U = [] := List.length_eq_zero_iff.1 (by omega)
  have hi0 : is = [] := List.length_eq_zero_iff.1 (by omega)
  subst hU0 hi0
  rw [List.append_nil] at hperm
  have h0 := h w (Below.refl _ _)
  unfold wpHav at h0
  unfold wpFl
  rw [putFl_perm hperm (fun f hf f' hf' hff d hd hd' => ?_) b]
  ·exact h0 gs (fun f hf => hpl f (hperm.mem_iff.2 hf)) (fun f hf f' hf' => hne f (hperm.mem_iff.2 hf) f' (hperm.mem_iff.2 hf'))
  ·obtain ⟨o, ho, _, hx⟩ := hA f (hperm.mem_iff.1 hf)
   obtain ⟨o', ho', hap'⟩ := hx f' (hperm.mem_iff.1 hf') hff
   rw [dst_of ho] at hd
   rw [dst_of ho'] at hd'
   exact (Oper.apart_spec hap').2.1 d hd hd'
 | succ k ih =>
  intro U AL is iv gs b w hk hperm hnd hpre hC hpl hne hiv hB h
  have hnd' : (AL ++ U).Nodup := hperm.nodup_iff.2 hnd
  have hALfl : ∀ f ∈ AL, f ∈ fl := fun f hf => hperm.mem_iff.1 (by simp [hf])
  have hapS : ∀ i ∈ pre, ∀ oi, ops[i]? = some oi → ApartFl ops AL oi := fun i hi oi hoi f hf => by
   obtain ⟨o, ho, hx, _⟩ := hA f (hALfl f hf)
   obtain ⟨oi', hoi', hap'⟩ := hx i hi
   rw [hoi] at hoi'; cases hoi'
   exact ⟨o, ho, hap'⟩
  have hfloat : ∀ f ∈ U, ∃ o, ops[f]? = some o ∧ o.wp P (putFl ops gs AL b) w (fun a' w' => C w' ∧ wpFl P md ops C Q post k (U.erase f) is a' w') noOut := by
   intro f hf
   have hffl : f ∈ fl := hperm.mem_iff.1 (by simp [hf])
   obtain ⟨o, ho, hex⟩ := hmk f hffl
   refine ⟨o, ho, ?_⟩
   unfold Oper.wp
   rw [hex]
   have hal : Ext w (w.alloc (obj f)) := Ext.al Ext.rfl' _
   have hfA : f ∉ AL := fun e => by
    have := (List.nodup_append.1 hnd').2.2 f e f hf
    exact this rfl
   show C (w.alloc (obj f)) ∧ _
   refine ⟨hCe _ _ hC hal, ?_⟩
   have e1 : (putFl ops gs AL b).put o.dst (.pointer (some ⟨w.heap.size, 0, none⟩)) = putFl ops (fun x => if x = f then w.heap.size else gs x) (AL ++ [f]) b := by
    rw [putFl_append, putFl_congr (gs := fun x => if x = f then w.heap.size else gs x) (gs' := gs) AL b (fun x hx => by
     have : x ≠ f := fun e => hfA (e ▸ hx)
     simp [this])]
    simp [putFl, dst_of ho]
   rw [e1]
   refine ih (U.erase f) (AL ++ [f]) is iv _ b (w.alloc (obj f)) ?_ ?_ hnd hpre (hCe _ _ hC hal) ?_ ?_ ?_ ?_ ?_
   ·have := List.length_erase_of_mem hf
    have := List.length_pos_of_mem hf
    omega
   ·refine List.Perm.trans ?_ hperm
    rw [List.append_assoc]
    exact List.Perm.append_left AL (List.perm_cons_erase hf).symm
   ·intro x hx
    rcases List.mem_append.1 hx with hx | hx
    ·have : x ≠ f := fun e => hfA (e ▸ hx)
     simp only [this, if_false]
     exact (hpl x hx).ext hal
    ·rw [List.mem_singleton.1 hx]
     simp only [if_true]
     exact ⟨hB, heap_alloc_new w _, fun p hp => .inr (hiv p hp)⟩
   ·intro x hx y hy hxy
    rcases List.mem_append.1 hx with hx | hx <;> rcases List.mem_append.1 hy with hy | hy
    ·have h1 : x ≠ f := fun e => hfA (e ▸ hx)
     have h2 : y ≠ f := fun e => hfA (e ▸ hy)
     simp only [h1, h2, if_false]
     exact hne x hx y hy hxy
    ·have h1 : x ≠ f := fun e => hfA (e ▸ hx)
     have h2 := List.mem_singleton.1 hy
     simp only [h1, h2, if_false, if_true]
     exact Nat.ne_of_lt (hpl x hx).lt
    ·have h1 : y ≠ f := fun e => hfA (e ▸ hy)
     have h2 := List.mem_singleton.1 hx
     simp only [h1, h2, if_false, if_true]
     exact Nat.ne_of_gt (hpl y hy).lt
    ·rw [List.mem_singleton.1 hx, List.mem_singleton.1 hy] at hxy
     exact absurd rfl hxy
   ·intro p hp
    exact Nat.le_trans (hiv p hp) hal.size
   ·exact Nat.le_trans hB hal.size
   ·exact fun w'' hw => h w'' (ET hal hw)
  cases is with
  | nil => unfold wpFl; exact hfloat
  | cons i is =>
   have h0 := h w (Below.refl _ _)
   unfold wpHav at h0
   obtain ⟨o, ho, h0⟩ := h0
   have hip : i ∈ pre := hpre i (by simp)
   have hS := hapS i hip o ho
   have hsel := fun cs b => Region.noSelect_spec hsl i o cs b ho
   have hwe := wanted_putFl gs AL b hS
   have hk' : k = U.length + is.length := by simp at hk; omega
   have hpre' : ∀ j ∈ is, j ∈ pre := fun j hj => hpre j (by simp [hj])
   unfold wpFl
   refine ⟨o, ho, ?_⟩
   rw [hwe]
   by_cases hw : Region.wanted o (yielded ops b.tmps) = true
   ·simp only [hw, if_true] at h0 ⊢
    by_cases hs : stillOp o = true
    ·simp only [hs, if_true] at h0 ⊢
     obtain ⟨v, hy, _⟩ := h0
     refine ⟨v, hy.of_same (exec_putFl hsel gs AL b hS), ?_⟩
     rw [putFl_put gs v AL b hS]
     refine ih U AL is iv gs _ w hk' hperm hnd hpre' hC hpl hne hiv hB fun w'' hw'' => ?_
     have h1 := h w'' hw''
     unfold wpHav at h1
     obtain ⟨o1, ho1, h1⟩ := h1
     rw [ho] at ho1; cases ho1
     simp only [hw, if_true, hs] at h1
     obtain ⟨v', hy', hK⟩ := h1
     have hvv : v' = v := by
      have e1 := hy w hC
      have e2 := hy' w hC
      rw [e1] at e2
      injection e2 with e2
      injection e2 with e2
      exact e2.symm
     rw [← hvv]
     exact hK
    ·have hs' : stillOp o = false := by simpa using hs
     simp only [hs', Bool.false_eq_true, if_false] at h0 ⊢
     refine ⟨hfloat, wp_putFl hsel gs AL b hS (Oper.wp_mono (fun a' w' ⟨h1, h2⟩ => ⟨hCe _ _ hC h1, ?_⟩) h0)⟩
     refine ih U AL is _ gs a' w' hk' hperm hnd hpre' (hCe _ _ hC h1) (fun f hf => (hpl f hf).span h1) hne ?_ (Nat.le_trans hB h1.size) h2
     intro p hp
     rcases List.mem_append.1 hp with hp | hp
     ·exact Nat.le_trans (hiv p hp) h1.size
     ·rw [List.mem_singleton.1 hp]; exact Nat.le_refl _
   ·have hw' : Region.wanted o (yielded ops b.tmps) = false := by simpa using hw
    simp only [hw', Bool.false_eq_true, if_false] at h0 ⊢
    rw [putFl_put gs undef AL b hS]
    refine ih U AL is iv gs _ w hk' hperm hnd hpre' hC hpl hne hiv hB fun w'' hw'' => ?_
    have h1 := h w'' hw''
    unfold wpHav at h1
    obtain ⟨o1, ho1, h1⟩ := h1
    rw [ho] at ho1; cases ho1
    simp only [hw', Bool.false_eq_true, if_false] at h1
    exact h1
def nodupB : List Nat → Bool
 | [] => true
 | x :: l => !l.contains x && nodupB l
theorem nodup_of : ∀ {l : List Nat}, nodupB l = true → l.Nodup
 | [], _ => List.nodup_nil
 | x :: l, h => by
  simp only [nodupB, Bool.and_eq_true, Bool.not_eq_true'] at h
  exact List.nodup_cons.2 ⟨by simpa using h.1, nodup_of h.2⟩
def havB (md : Region.Mode) (ops : Array Oper) (fl pre post : List Nat) : Bool :=
 Region.noSelect ops && (fl.length + pre.length + post.length == ops.size) && nodupB fl && flB md ops pre fl && apartB ops pre fl && preB md ops fl pre [] && lexIB md ops post (mkL ops.size (pre ++ fl))
theorem wp_region_hav {id : Nat} {a : Act} {w : World} {l : List Oper} (fl pre post : List Nat) (obj : Nat → Obj) (hm : P.follows .mixedOrders = true) (hB : havB .any l.toArray fl pre post = true) (hmk : ∀ f ∈ fl, Makes P l.toArray obj f)
  (h : ∀ w'', Ext w.drew w'' → wpHav P .any l.toArray (InX w.drew []) Q fl post obj w.drew.heap.size pre [] a w'') : (Code.region id l.toArray true).wp P Q a w := by
 simp only [havB, Bool.and_eq_true, beq_iff_eq] at hB
 obtain ⟨⟨⟨⟨⟨⟨h1, h2⟩, h3⟩, h4⟩, h5⟩, h6⟩, h7⟩ := hB
 have hnd := nodup_of h3
 refine wp_region_any hm (wpAny_of_L (C := InX w.drew []) _ _ _ _ (closed_none _) (fun _ _ _ _ _ => inX_self w.drew []) ?_)
 have hf := fl_of_hav (P := P) (md := .any) (Q := Q) (C := InX w.drew []) (post := post) (B := w.drew.heap.size) h1 h5 hmk (fun _ _ hc he => inX_ext hc he) (fl.length + pre.length) fl [] pre [] (fun _ => 0) a w.drew rfl (List.Perm.refl _) hnd (fun _ hi => hi) (inX_self _ _) (fun _ hf => by cases hf) (fun _ hf => by cases hf) (fun _ hp => by cases hp) (Nat.le_refl _) h
 have := wpAnyL_fl h1 h4 h7 (fl.length + pre.length) fl pre [] (Array.replicate l.toArray.size false) a w.drew rfl rfl (fun _ h => h) hnd ⟨by simp, fun x hx => by
  have hx' : x < l.length := by simpa using hx
  simp [hx']⟩ (closed_none _) h6 hf
 rw [h2] at this
 exact this
def HavPost (K : Act → World → Prop) : Exit → Act → World → Prop
 | .normal, a, w => K a w
 | _, _, _ => False
section
variable {fl post : List Nat} {obj : Nat → Obj} {B : Nat}
theorem wpHav_still {i : Nat} {is : List Nat} {iv : List (Nat × Nat)} {o : Oper} {a : Act} {w : World} (ho' : ops.toList[i]? = some o) (hs : stillOp o = true) (h : wpQuiet P ops C (fun a' => wpHav P md ops C Q fl post obj B is iv a' w) [o] a) : wpHav P md ops C Q fl post obj B (i :: is) iv a w := by
 have ho : ops[i]? = some o := by simpa using ho'
 have h1 := quiet_yl hs h
 unfold wpHav
 refine ⟨o, ho, ?_⟩
 by_cases hw : Region.wanted o (yielded ops a.tmps) = true
 ·simp only [hw, if_true, hs] at h1 ⊢; exact h1
 ·simp only [hw] at h1 ⊢; exact h1
theorem wpHav_move {i : Nat} {is : List Nat} {iv : List (Nat × Nat)} {o : Oper} {a : Act} {w : World} (ho' : ops.toList[i]? = some o) (hs : stillOp o = false) (hw : Region.wanted o (yielded ops a.tmps) = true)
  (h : wpList P ops (HavPost fun a' w' => Ext w w' ∧ ∀ w'', Ext w' w'' → wpHav P md ops C Q fl post obj B is (iv ++ [(w.heap.size, w'.heap.size)]) a' w'') [o] a w) : wpHav P md ops C Q fl post obj B (i :: is) iv a w := by
 have ho : ops[i]? = some o := by simpa using ho'
 unfold wpHav
 refine ⟨o, ho, ?_⟩
 unfold wpList at h
 simp only [hw, if_true, hs, Bool.false_eq_true, if_false] at h ⊢
 rcases h with h | ⟨_, h⟩
 ·refine wp_noOut' (fun e a w hne => ?_) (fun a w h => h) h
  cases e <;> simp_all [HavPost]
 ·obtain ⟨_, _, h⟩ := h; exact h.elim
end
end
end Go.Proofs.YtjinpfnefeiooaaGreat
namespace Go.Proofs.YtjinpfnefeiooaaGreat
open Go.RowKit

structure LexAt (P : Program) (md : Region.Mode) (ops : Array Oper) (C : World → Prop) (Q : Exit → Act → World → Prop) (l : List Oper) (a : Act) (w : World) : Prop where
 out : wpLex P md ops C Q l a w
structure IdxAt (P : Program) (md : Region.Mode) (ops : Array Oper) (C : World → Prop) (Q : Exit → Act → World → Prop) (l : List Nat) (a : Act) (w : World) : Prop where
 out : wpLexI P md ops C Q l a w
structure HavAt (P : Program) (md : Region.Mode) (ops : Array Oper) (C : World → Prop) (Q : Exit → Act → World → Prop) (fl post : List Nat) (obj : Nat → Obj) (B : Nat) (l : List Nat) (iv : List (Nat × Nat)) (a : Act) (w : World) : Prop where
 out : wpHav P md ops C Q fl post obj B l iv a w
section
variable {P : Program} {ops : Array Oper} {md : Region.Mode} {C : World → Prop} {Q : Exit → Act → World → Prop} {fl post : List Nat} {obj : Nat → Obj} {B : Nat}
theorem lexAt_eq (l : List Oper) : LexAt P md ops C Q l = wpLex P md ops C Q l := by
 funext a w
 exact propext ⟨fun h => h.out, fun h => ⟨h⟩⟩
theorem idxAt_eq (l : List Nat) : IdxAt P md ops C Q l = wpLexI P md ops C Q l := by
 funext a w
 exact propext ⟨fun h => h.out, fun h => ⟨h⟩⟩
theorem havAt_eq (l : List Nat) (iv : List (Nat × Nat)) : HavAt P md ops C Q fl post obj B l iv = wpHav P md ops C Q fl post obj B l iv := by
 funext a w
 exact propext ⟨fun h => h.out, fun h => ⟨h⟩⟩
theorem lexAt_nil {a : Act} {w : World} (h : Q .normal a w) : LexAt P md ops C Q [] a w := ⟨h⟩
theorem lexAt_still {o : Oper} {rest : List Oper} {a : Act} {w : World} (hs : stillOp o = true) (h : wpQuiet P ops C (fun a' => LexAt P md ops C Q rest a' w) [o] a) : LexAt P md ops C Q (o :: rest) a w := by
 rw [lexAt_eq] at h ⊢
 exact wpLex_still hs h
theorem lexAt_move {o : Oper} {rest : List Oper} {a : Act} {w : World} (hs : stillOp o = false) (hw : Region.wanted o (yielded ops a.tmps) = true) (h : wpList P ops (LexPost C (LexAt P md ops C Q rest)) [o] a w) : LexAt P md ops C Q (o :: rest) a w := by
 rw [lexAt_eq] at h ⊢
 exact wpLex_move hs hw h
theorem lexAt_last {o : Oper} {rest : List Oper} {a : Act} {w : World} (hs : stillOp o = false) (hl : lastB md ops o = true) (hw : Region.wanted o (yielded ops a.tmps) = true) (h : wpList P ops (LexPost (fun _ => True) (LexAt P md ops C Q rest)) [o] a w) : LexAt P md ops C Q (o :: rest) a w := by
 rw [lexAt_eq] at h ⊢
 exact wpLex_last hs hl hw h
theorem lexAt_skip {o : Oper} {rest : List Oper} {a : Act} {w : World} (hw : Region.wanted o (yielded ops a.tmps) = false) (h : LexAt P md ops C Q rest (a.put o.dst undef) w) : LexAt P md ops C Q (o :: rest) a w := ⟨wpLex_skip hw h.out⟩
theorem wp_region_lexS {id : Nat} {a : Act} {w : World} {l : List Oper} (hm : P.follows .mixedOrders = true) (hB : lexMB .any l.toArray = true) (hC : C w.drew)
  (h : LexAt P .any l.toArray C Q l a w.drew) : (Code.region id l.toArray true).wp P Q a w := wp_region_lex hm hB hC h.out
theorem idxAt_nil {a : Act} {w : World} (h : Q .normal a w) : IdxAt P md ops C Q [] a w := ⟨h⟩
theorem idxAt_still {i : Nat} {is : List Nat} {o : Oper} {a : Act} {w : World} (ho' : ops.toList[i]? = some o) (hs : stillOp o = true) (h : wpQuiet P ops C (fun a' => IdxAt P md ops C Q is a' w) [o] a) : IdxAt P md ops C Q (i :: is) a w := by
 rw [idxAt_eq] at h ⊢
 exact wpLexI_still ho' hs h
theorem idxAt_move {i : Nat} {is : List Nat} {o : Oper} {a : Act} {w : World} (ho' : ops.toList[i]? = some o) (hs : stillOp o = false) (hw : Region.wanted o (yielded ops a.tmps) = true) (h : wpList P ops (LexPost C (IdxAt P md ops C Q is)) [o] a w) : IdxAt P md ops C Q (i :: is) a w := by
 rw [idxAt_eq] at h ⊢
 exact wpLexI_move ho' hs hw h
theorem havAt_still {i : Nat} {is : List Nat} {iv : List (Nat × Nat)} {o : Oper} {a : Act} {w : World} (ho' : ops.toList[i]? = some o) (hs : stillOp o = true) (h : wpQuiet P ops C (fun a' => HavAt P md ops C Q fl post obj B is iv a' w) [o] a) : HavAt P md ops C Q fl post obj B (i :: is) iv a w := by
 rw [havAt_eq] at h ⊢
 exact wpHav_still ho' hs h
theorem havAt_move {i : Nat} {is : List Nat} {iv : List (Nat × Nat)} {o : Oper} {a : Act} {w : World} (ho' : ops.toList[i]? = some o) (hs : stillOp o = false) (hw : Region.wanted o (yielded ops a.tmps) = true)
  (h : wpList P ops (HavPost fun a' w' => Ext w w' ∧ ∀ w'', Ext w' w'' → HavAt P md ops C Q fl post obj B is (iv ++ [(w.heap.size, w'.heap.size)]) a' w'') [o] a w) : HavAt P md ops C Q fl post obj B (i :: is) iv a w := by
 rw [havAt_eq]
 simp only [havAt_eq] at h
 exact wpHav_move ho' hs hw h
theorem havAt_end {iv : List (Nat × Nat)} {a : Act} {w : World} (h : ∀ gs : Nat → Nat, (∀ f ∈ fl, Placed w (obj f) iv B (gs f)) → (∀ f ∈ fl, ∀ f' ∈ fl, f ≠ f' → gs f ≠ gs f') → IdxAt P md ops C Q post (putFl ops gs fl a) w) : HavAt P md ops C Q fl post obj B [] iv a w := ⟨fun gs h1 h2 => (h gs h1 h2).out⟩
theorem wp_region_havS {id : Nat} {a : Act} {w : World} {l : List Oper} (fl pre post : List Nat) (obj : Nat → Obj) (hm : P.follows .mixedOrders = true) (hB : havB .any l.toArray fl pre post = true) (hmk : ∀ f ∈ fl, Makes P l.toArray obj f)
  (h : ∀ w'', Ext w.drew w'' → HavAt P .any l.toArray (InX w.drew []) Q fl post obj w.drew.heap.size pre [] a w'') : (Code.region id l.toArray true).wp P Q a w := wp_region_hav fl pre post obj hm hB hmk fun w'' hw => (h w'' hw).out
end
end Go.Proofs.YtjinpfnefeiooaaGreat
namespace Go.Proofs.YtjinpfnefeiooaaGreat
open Go.RowKit

def waitsOf (md : Region.Mode) (o : Oper) : List Nat := (o.after.toList.filter (Region.binds md ·)).map (·.on)
def freeB (md : Region.Mode) (l : List Oper) (sz : Nat) : Bool := decide (l.map (·.dst)).Nodup && (List.range l.length).all fun j => match l[j]? with
 | some o => (match o.dst with | some d => decide (d < sz) | none => false) && (waitsOf md o).all (fun k => decide (k < j))
 | none => true
def actOf (a0 : Act) (x : Nat → Value) : Act := { a0 with tmps := ((List.range a0.tmps.size).map x).toArray }
theorem actOf_self (a : Act) : actOf a (fun t => a.tmps.getD t undef) = a := by
 unfold actOf
 congr 1
 apply Array.ext
 ·simp
 ·intro i h1 h2
  simp [h2]
theorem actOf_put (a : Act) (x : Nat → Value) {d : Nat} (_hd : d < a.tmps.size) (v : Value) : (actOf a x).put (some d) v = actOf a (fun t => if t = d then v else x t) := by
 unfold actOf Act.put
 simp only
 congr 1
 apply Array.ext
 ·simp
 ·intro i h1 h2
  simp only [Array.size_setIfInBounds, List.size_toArray, List.length_map, List.length_range] at h1
  by_cases he : d = i
  ·subst he
   simp
  ·have he2 : ¬ i = d := fun e => he e.symm
   rw [Array.getElem_setIfInBounds_ne (by simpa using h1) he]
   simp [he2]
def FreePost (V : Value → World → Prop) (a : Act) (o : Oper) (w : World) : Exit → Act → World → Prop
 | .normal, a', w' => ∃ v, a' = a.put o.dst v ∧ Ext w w' ∧ V v w'
 | _, _, _ => False
theorem freePost_out {V : Value → World → Prop} {a : Act} {o : Oper} {w : World} {e : Exit} {a' : Act} {w' : World} (hne : e ≠ .normal) : ¬ FreePost V a o w e a' w' := fun h => by
 cases e <;> first | exact hne rfl | exact h
section
variable {P : Program} {l : List Oper} {Q : Exit → Act → World → Prop} {V : Nat → Value → World → Prop} {a0 : Act} {w0 : World}
def Fixed (l : List Oper) (a0 : Act) (x : Nat → Value) : Prop := ∀ t, some t ∉ l.map (·.dst) → x t = a0.tmps.getD t undef
structure FreeAt (P : Program) (l : List Oper) (V : Nat → Value → World → Prop) (a0 : Act) (w0 : World) (i : Nat) : Prop where
 out : ∀ o, l[i]? = some o → ∀ (x : Nat → Value) (w : World), Ext w0 w → Fixed l a0 x → (∀ j ∈ waitsOf .any o, ∀ o' d, l[j]? = some o' → o'.dst = some d → V j (x d) w) →
  wpList P l.toArray (FreePost (V i) (actOf a0 x) o w) [o] (actOf a0 x) w
theorem free_any (hB : freeB .any l a0.tmps.size = true) (mono : ∀ i v w w', V i v w → Ext w w' → V i v w') (step : ∀ i, i < l.length → FreeAt P l V a0 w0 i)
  (hend : ∀ x w, Ext w0 w → Fixed l a0 x → (∀ j o d, l[j]? = some o → o.dst = some d → V j (x d) w) → Q .normal (actOf a0 x) w) :
  ∀ (fuel : Nat) (listed : Array Bool) (x : Nat → Value) (w : World), listed.size = l.length → listed.toList.count false ≤ fuel → Ext w0 w → Fixed l a0 x →
   (∀ j o d, l[j]? = some o → o.dst = some d → listed.getD j false = true → V j (x d) w) → wpAny P .any l.toArray Q fuel listed (actOf a0 x) w := by
 simp only [freeB, Bool.and_eq_true, decide_eq_true_eq, List.all_eq_true, List.mem_range] at hB
 obtain ⟨hnd, hall⟩ := hB
 have hdst : ∀ j o, l[j]? = some o → ∃ d, o.dst = some d ∧ d < a0.tmps.size ∧ ∀ k ∈ waitsOf .any o, k < j := fun j o ho => by
  have := hall j (List.getElem?_eq_some_iff.1 ho).1
  simp only [ho, Bool.and_eq_true, List.all_eq_true, decide_eq_true_eq] at this
  cases hd : o.dst with
  | none => rw [hd] at this; simp at this
  | some d => rw [hd] at this; exact ⟨d, rfl, by simpa using this.1, this.2⟩
 have hinj : ∀ {i j : Nat} {o o' : Oper}, l[i]? = some o → l[j]? = some o' → o.dst = o'.dst → i = j := fun {i j o o'} hi hj he => by
  have h1 := (List.getElem?_eq_some_iff.1 hi).1
  have h2 := (List.getElem?_eq_some_iff.1 hj).1
  have e1 : (l.map (·.dst))[i]? = some o.dst := by simp [hi]
  have e2 : (l.map (·.dst))[j]? = some o.dst := by simp [hj, he.symm]
  exact (List.getElem?_inj (by simpa using h1) hnd).1 (e1.trans e2.symm)
 have done : ∀ (listed : Array Bool) (x : Nat → Value) (w : World), listed.size = l.length → Ext w0 w → Fixed l a0 x → (∀ j o d, l[j]? = some o → o.dst = some d → listed.getD j false = true → V j (x d) w) →
   Region.ready .any l.toArray listed = [] → Q .normal (actOf a0 x) w := fun listed x w hs hE hF hV hr => by
  have hl : ∀ j, j < l.length → listed.getD j false = true := fun j => by
   induction j using Nat.strongRecOn with
   | _ j ih =>
    intro hj
    cases hc : listed.getD j false with
    | true => rfl
    | false =>
     exfalso
     obtain ⟨o, ho⟩ : ∃ o, l[j]? = some o := ⟨_, List.getElem?_eq_getElem hj⟩
     obtain ⟨d, -, -, hw⟩ := hdst j o ho
     have hm : j ∈ Region.ready .any l.toArray listed := mem_ready.2 ⟨by
      have h3 : j < listed.size := by omega
      simp [h3] at hc ⊢
      exact hc, o, by simpa using ho, fun e he hb => by
      have hk : e.on ∈ waitsOf .any o := by
       unfold waitsOf
       exact List.mem_map.2 ⟨e, List.mem_filter.2 ⟨by simpa using he, hb⟩, rfl⟩
      have hlt := hw _ hk
      exact ih _ hlt (by omega)⟩
     rw [hr] at hm
     cases hm
  exact hend x w hE hF fun j o d ho hd => hV j o d ho hd (hl j (List.getElem?_eq_some_iff.1 ho).1)
 intro fuel
 induction fuel with
 | zero =>
  intro listed x w hs hc hE hF hV
  have hr : Region.ready .any l.toArray listed = [] := by
   cases h : Region.ready .any l.toArray listed with
   | nil => rfl
   | cons j r =>
    have hm : j ∈ Region.ready .any l.toArray listed := by rw [h]; simp
    obtain ⟨h1, _⟩ := mem_ready.1 hm
    exfalso
    have hc0 : listed.toList.count false = 0 := by omega
    have hnm := List.count_eq_zero.1 hc0
    rcases Nat.lt_or_ge j listed.size with h3 | h3
    ·simp [h3] at h1
     exact hnm (by rw [← h1]; exact Array.mem_toList_iff.2 (Array.getElem_mem h3))
    ·simp [Array.getElem?_eq_none h3] at h1
  exact ⟨hr, done listed x w hs hE hF hV hr⟩
 | succ fuel ih =>
  intro listed x w hs hc hE hF hV
  refine ⟨done listed x w hs hE hF hV, fun i hi => ?_⟩
  obtain ⟨h1, o, ho', hw⟩ := mem_ready.1 hi
  have ho : l[i]? = some o := by simpa using ho'
  obtain ⟨d, hd, hds, -⟩ := hdst i o ho
  have hil := (List.getElem?_eq_some_iff.1 ho).1
  have hst := (step i hil).out o ho x w hE hF fun j hj o' d' hj' hd' => hV j o' d' hj' hd' (by
   unfold waitsOf at hj
   obtain ⟨e, he, rfl⟩ := List.mem_map.1 hj
   obtain ⟨he1, he2⟩ := List.mem_filter.1 he
   exact hw e (by simpa using he1) he2)
  have his : i < listed.size := by omega
  have hfalse : listed[i] = false := by simpa [his] using h1
  have next : ∀ v w', Ext w w' → V i v w' → wpAny P .any l.toArray Q fuel (listed.setIfInBounds i true) ((actOf a0 x).put o.dst v) w' := fun v w' hE' hV' => by
   rw [hd, actOf_put a0 x hds v]
   refine ih _ _ w' (by simp [hs]) ?_ (ET hE hE') (fun t ht => ?_) (fun j o' d' hj hd' hl => ?_)
   ·have : (listed.setIfInBounds i true).toList = listed.toList.set i true := by simp
    rw [this]
    have h5 := List.count_set (l := listed.toList) (a := true) (b := false) (i := i) (by simpa using his)
    have h6 : listed.toList[i]'(by simpa using his) = false := by simpa using hfalse
    rw [h6] at h5
    have h7 : 0 < listed.toList.count false := List.count_pos_iff.2 (by rw [← h6]; exact List.getElem_mem _)
    simp at h5
    simp only [Array.count_toList] at h7 hc ⊢
    omega
   ·have hne : t ≠ d := fun e => ht (by subst e; exact List.mem_map.2 ⟨o, List.mem_of_getElem? ho, hd⟩)
    rw [if_neg hne]
    exact hF t ht
   ·by_cases he : j = i
    ·subst he
     rw [ho] at hj
     cases hj
     rw [hd] at hd'
     cases hd'
     rw [if_pos rfl]
     exact hV'
    ·have hne : d' ≠ d := fun e => he (hinj hj ho (by rw [hd', hd, e]))
     rw [if_neg hne]
     rw [getD_set_ne false (Ne.symm he)] at hl
     exact mono _ _ _ _ (hV j o' d' hj hd' hl) hE'
  unfold wpList at hst
  unfold wpOp
  simp only [ho']
  by_cases hwn : Region.wanted o (yielded l.toArray (actOf a0 x).tmps) = true
  ·simp only [hwn, if_true] at hst ⊢
   left
   rcases hst with hst | ⟨_, hst⟩
   ·refine wp_noOut (K := fun a' w' => FreePost (V i) (actOf a0 x) o w .normal a' w') (fun a' w' hh => ?_) (wp_noOut' (fun e a w hne => freePost_out hne) (fun a w h => h) hst)
    obtain ⟨v, rfl, hE', hV'⟩ := hh
    exact next v w' hE' hV'
   ·obtain ⟨_, _, h⟩ := hst; exact h.elim
  ·simp only [hwn] at hst ⊢
   obtain ⟨v, hv, hE', hV'⟩ := (show FreePost (V i) (actOf a0 x) o w .normal ((actOf a0 x).put o.dst undef) w from hst)
   rw [hv]
   exact next v w hE' hV'
theorem wp_region_free {id : Nat} {a : Act} {w : World} (V : Nat → Value → World → Prop) (hm : P.follows .mixedOrders = true) (hB : freeB .any l a.tmps.size = true) (mono : ∀ i v w w', V i v w → Ext w w' → V i v w')
  (step : ∀ i, i < l.length → FreeAt P l V a w.drew i)
  (hend : ∀ x w', Ext w.drew w' → Fixed l a x → (∀ j o d, l[j]? = some o → o.dst = some d → V j (x d) w') → Q .normal (actOf a x) w') : (Code.region id l.toArray true).wp P Q a w := by
 refine wp_region_any hm ?_
 have h := free_any (P := P) (Q := Q) hB mono step hend l.length (Array.replicate l.length false) (fun t => a.tmps.getD t undef) w.drew (by simp) (by simp) Ext.rfl' (fun t _ => rfl) (fun j o d _ _ hl => by
  rcases Nat.lt_or_ge j l.length with h3 | h3
  ·simp [h3] at hl
  ·simp [Nat.not_lt.2 h3] at hl)
 rw [actOf_self] at h
 simpa using h
end
end Go.Proofs.YtjinpfnefeiooaaGreat
