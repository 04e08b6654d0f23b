/- A part of the proof. -/
import Derived.Test.YtjinpfnefeiooaaGreatLexes
namespace Go.Proofs.YtjinpfnefeiooaaGreat
open Go.RowKit

def freeSB (md : Region.Mode) (l : List Oper) (sz sI dp dv : Nat) (late : List Nat) : Bool := decide (l.map (·.dst)).Nodup && decide (sI < l.length) && (List.range l.length).all fun j => match l[j]? with
 | some o => (waitsOf md o).all (fun k => decide (k < j)) && (if j = sI then o.dst.isNone && (List.range l.length).all (fun i => i == sI || late.contains i || (waitsOf md o).contains i) else (match o.dst with | some d => decide (d < sz) && (!late.contains j || (d != dp && d != dv)) | none => false))
 | none => true
def StorePost (R : World → World → Prop) (a : Act) (w : World) : Exit → Act → World → Prop
 | .normal, a', w' => a' = a ∧ R w w'
 | _, _, _ => False
def LatePost (V : Value → World → Prop) (a : Act) (o : Oper) (wp w : World) : Exit → Act → World → Prop
 | .normal, a', w' => ∃ v, a' = a.put o.dst v ∧ w' = w ∧ V v wp
 | _, _, _ => False
theorem storePost_out {R : World → World → Prop} {a : Act} {w : World} {e : Exit} {a' : Act} {w' : World} (hne : e ≠ .normal) : ¬ StorePost R a w e a' w' := fun h => by
 cases e <;> first | exact hne rfl | exact h
theorem latePost_out {V : Value → World → Prop} {a : Act} {o : Oper} {wp w : World} {e : Exit} {a' : Act} {w' : World} (hne : e ≠ .normal) : ¬ LatePost V a o wp w e a' w' := fun h => by
 cases e <;> first | exact hne rfl | exact h
section
variable {P : Program} {l : List Oper} {Q : Exit → Act → World → Prop} {V : Nat → Value → World → Prop} {a0 : Act} {w0 : World} {sI dp dv : Nat} {late : List Nat} {S : Value → Value → World → World → Prop}
structure LateAt (P : Program) (l : List Oper) (V : Nat → Value → World → Prop) (a0 : Act) (w0 : World) (i : Nat) : Prop where
 out : ∀ o, l[i]? = some o → ∀ (x : Nat → Value) (wp w : World), Ext w0 wp → Fixed l a0 x → (∀ j ∈ waitsOf .any o, ∀ o' d, l[j]? = some o' → o'.dst = some d → V j (x d) wp) →
  wpList P l.toArray (LatePost (V i) (actOf a0 x) o wp w) [o] (actOf a0 x) w
structure StoreAt (P : Program) (l : List Oper) (V : Nat → Value → World → Prop) (a0 : Act) (w0 : World) (sI dp dv : Nat) (late : List Nat) (S : Value → Value → World → World → Prop) : Prop where
 out : ∀ o, l[sI]? = some o → ∀ (x : Nat → Value) (w : World), Ext w0 w → Fixed l a0 x → (∀ j o' d, j ∉ late → l[j]? = some o' → o'.dst = some d → V j (x d) w) →
  wpList P l.toArray (StorePost (S (x dp) (x dv)) (actOf a0 x) w) [o] (actOf a0 x) w
theorem freeS_any (hB : freeSB .any l a0.tmps.size sI dp dv late = true) (mono : ∀ i v w w', V i v w → Ext w w' → V i v w') (step : ∀ i, i < l.length → i ≠ sI → FreeAt P l V a0 w0 i)
    (lateS : ∀ i ∈ late, LateAt P l V a0 w0 i) (store : StoreAt P l V a0 w0 sI dp dv late S)
    (hend : ∀ x wp w, Ext w0 wp → Fixed l a0 x → (∀ j o d, l[j]? = some o → o.dst = some d → V j (x d) wp) → S (x dp) (x dv) wp w → Q .normal (actOf a0 x) w) :
    ∀ (fuel : Nat) (listed : Array Bool) (x : Nat → Value) (w : World), listed.size = l.length → listed.toList.count false ≤ fuel → Fixed l a0 x →
      ((listed.getD sI false = false ∧ Ext w0 w ∧ ∀ j o d, l[j]? = some o → o.dst = some d → listed.getD j false = true → V j (x d) w) ∨
       (listed.getD sI false = true ∧ (∀ j, j < l.length → j ∉ late → listed.getD j false = true) ∧ ∃ wp, Ext w0 wp ∧ (∀ j o d, l[j]? = some o → o.dst = some d → listed.getD j false = true → V j (x d) wp) ∧ S (x dp) (x dv) wp w)) →
      wpAny P .any l.toArray Q fuel listed (actOf a0 x) w := by
  simp only [freeSB, Bool.and_eq_true, decide_eq_true_eq, List.all_eq_true, List.mem_range] at hB
  obtain ⟨⟨hnd, hsl⟩, hall⟩ := hB
  have hlt : ∀ j o, l[j]? = some o → ∀ k ∈ waitsOf .any o, k < j := fun j o ho => by
    have := hall j (List.getElem?_eq_some_iff.1 ho).1
    simp only [ho, Bool.and_eq_true, List.all_eq_true, decide_eq_true_eq] at this
    exact this.1
  have hdst : ∀ j o, l[j]? = some o → j ≠ sI → ∃ d, o.dst = some d ∧ d < a0.tmps.size ∧ (j ∈ late → d ≠ dp ∧ d ≠ dv) := fun j o ho hj => by
    have := hall j (List.getElem?_eq_some_iff.1 ho).1
    simp only [ho, Bool.and_eq_true, if_neg hj] at this
    cases hd : o.dst with
    | none => rw [hd] at this; simp at this
    | some d =>
      have h9 := this.2
      rw [hd] at h9
      simp only [Bool.and_eq_true, decide_eq_true_eq] at h9
      refine ⟨d, rfl, h9.1, fun hl => ?_⟩
      have h2 := h9.2
      simp only [Bool.or_eq_true, Bool.not_eq_true', List.contains_eq_mem, decide_eq_false_iff_not, Bool.and_eq_true, bne_iff_ne] at h2
      rcases h2 with h2 | h2
      · exact absurd hl h2
      · exact h2
  have hsto : ∀ o, l[sI]? = some o → o.dst = none ∧ ∀ i, i < l.length → i ≠ sI → i ∉ late → i ∈ waitsOf .any o := fun o ho => by
    have := hall sI hsl
    simp only [ho, Bool.and_eq_true, if_true, List.all_eq_true, List.mem_range] at this
    refine ⟨by simpa using this.2.1, fun i hi hne hl => ?_⟩
    have h2 := this.2.2 i hi
    simp only [Bool.or_eq_true, beq_iff_eq, List.contains_eq_mem, decide_eq_true_eq] at h2
    rcases h2 with (h2 | h2) | h2
    · exact absurd h2 hne
    · exact absurd h2 hl
    · exact h2
  have hinj : ∀ {i j : Nat} {o o' : Oper}, l[i]? = some o → l[j]? = some o' → o.dst = o'.dst → i = j := fun {i j o o'} hi hj he => by
    have h1 := (List.getElem?_eq_some_iff.1 hi).1
    have e1 : (l.map (·.dst))[i]? = some o.dst := by simp [hi]
    have e2 : (l.map (·.dst))[j]? = some o.dst := by simp [hj, he.symm]
    exact (List.getElem?_inj (by simpa using h1) hnd).1 (e1.trans e2.symm)
  have allin : ∀ (listed : Array Bool), listed.size = l.length → Region.ready .any l.toArray listed = [] → ∀ j, j < l.length → listed.getD j false = true := fun listed hs hr j => by
    induction j using Nat.strongRecOn with
    | _ j ih =>
      intro hj
      cases hc : listed.getD j false with
      | true => rfl
      | false =>
        exfalso
        obtain ⟨o, ho⟩ : ∃ o, l[j]? = some o := ⟨_, List.getElem?_eq_getElem hj⟩
        have hm : j ∈ Region.ready .any l.toArray listed := mem_ready.2 ⟨by
          have h3 : j < listed.size := by omega
          simp [h3] at hc ⊢
          exact hc, o, by simpa using ho, fun e he hb => by
          have hk : e.on ∈ waitsOf .any o := by
            unfold waitsOf
            exact List.mem_map.2 ⟨e, List.mem_filter.2 ⟨by simpa using he, hb⟩, rfl⟩
          have hlt2 := hlt j o ho _ hk
          exact ih _ hlt2 (by omega)⟩
        rw [hr] at hm
        cases hm
  have done : ∀ (listed : Array Bool) (x : Nat → Value) (w : World), listed.size = l.length → Fixed l a0 x →
      ((listed.getD sI false = false ∧ Ext w0 w ∧ ∀ j o d, l[j]? = some o → o.dst = some d → listed.getD j false = true → V j (x d) w) ∨
       (listed.getD sI false = true ∧ (∀ j, j < l.length → j ∉ late → listed.getD j false = true) ∧ ∃ wp, Ext w0 wp ∧ (∀ j o d, l[j]? = some o → o.dst = some d → listed.getD j false = true → V j (x d) wp) ∧ S (x dp) (x dv) wp w)) →
      Region.ready .any l.toArray listed = [] → Q .normal (actOf a0 x) w := fun listed x w hs hF hI hr => by
    have hl := allin listed hs hr
    rcases hI with ⟨h1, _⟩ | ⟨_, _, wp, hE, hV, hS⟩
    · rw [hl sI hsl] at h1; cases h1
    · exact hend x wp w hE hF (fun j o d ho hd => hV j o d ho hd (hl j (List.getElem?_eq_some_iff.1 ho).1)) hS
  intro fuel
  induction fuel with
  | zero =>
    intro listed x w hs hc hF hI
    have hr : Region.ready .any l.toArray listed = [] := by
      cases h : Region.ready .any l.toArray listed with
      | nil => rfl
      | cons j r =>
        have hm : j ∈ Region.ready .any l.toArray listed := by rw [h]; simp
        obtain ⟨h1, _⟩ := mem_ready.1 hm
        exfalso
        have hc0 : listed.toList.count false = 0 := by omega
        have hnm := List.count_eq_zero.1 hc0
        rcases Nat.lt_or_ge j listed.size with h3 | h3
        · simp [h3] at h1
          exact hnm (by rw [← h1]; exact Array.mem_toList_iff.2 (Array.getElem_mem h3))
        · simp [Array.getElem?_eq_none h3] at h1
    exact ⟨hr, done listed x w hs hF hI hr⟩
  | succ fuel ih =>
    intro listed x w hs hc hF hI
    refine ⟨done listed x w hs hF hI, fun i hi => ?_⟩
    obtain ⟨h1, o, ho', hw⟩ := mem_ready.1 hi
    have ho : l[i]? = some o := by simpa using ho'
    have hil := (List.getElem?_eq_some_iff.1 ho).1
    have his : i < listed.size := by omega
    have hfalse : listed[i] = false := by simpa [his] using h1
    have hwl : ∀ j ∈ waitsOf .any o, listed.getD j false = true := fun j hj => by
      unfold waitsOf at hj
      obtain ⟨e, he, rfl⟩ := List.mem_map.1 hj
      obtain ⟨he1, he2⟩ := List.mem_filter.1 he
      exact hw e (by simpa using he1) he2
    have hcnt : (listed.setIfInBounds i true).toList.count false ≤ fuel := by
      have : (listed.setIfInBounds i true).toList = listed.toList.set i true := by simp
      rw [this]
      have h5 := List.count_set (l := listed.toList) (a := true) (b := false) (i := i) (by simpa using his)
      have h6 : listed.toList[i]'(by simpa using his) = false := by simpa using hfalse
      rw [h6] at h5
      have h7 : 0 < listed.toList.count false := List.count_pos_iff.2 (by rw [← h6]; exact List.getElem_mem _)
      simp at h5
      simp only [Array.count_toList] at h7 hc ⊢
      omega
    have hself : (listed.setIfInBounds i true).getD i false = true := by simp [his]
    by_cases hsi : i = sI
    · -- the store
      subst hsi
      obtain ⟨hdn, hwa⟩ := hsto o ho
      rcases hI with ⟨_, hE, hV⟩ | ⟨hl, _⟩
      rotate_left
      · simp [his] at hl
        rw [hfalse] at hl
        cases hl
      have hst := store.out o ho x w hE hF fun j o' d hj hj' hd => hV j o' d hj' hd (by
        have hji : j ≠ i := fun e => by
          subst e
          rw [ho] at hj'
          cases hj'
          rw [hdn] at hd
          cases hd
        exact hwl j (hwa j (List.getElem?_eq_some_iff.1 hj').1 hji hj))
      have next : ∀ w', S (x dp) (x dv) w w' → wpAny P .any l.toArray Q fuel (listed.setIfInBounds i true) (actOf a0 x) w' := fun w' hS => by
        refine ih _ _ w' (by simp [hs]) hcnt hF (.inr ⟨hself, fun j hj hjl => ?_, w, hE, fun j o' d hj hd hl => ?_, hS⟩)
        · by_cases he : j = i
          · rw [he]; exact hself
          · exact getD_set_true (hwl j (hwa j hj he hjl))
        · have hji : j ≠ i := fun e => by
            subst e
            rw [ho] at hj
            cases hj
            rw [hdn] at hd
            cases hd
          rw [getD_set_ne false (Ne.symm hji)] at hl
          exact hV j o' d hj hd hl
      unfold wpList at hst
      unfold wpOp
      simp only [ho']
      by_cases hwn : Region.wanted o (yielded l.toArray (actOf a0 x).tmps) = true
      · simp only [hwn, if_true] at hst ⊢
        left
        rcases hst with hst | ⟨_, hst⟩
        · refine wp_noOut (K := fun a' w' => StorePost (S (x dp) (x dv)) (actOf a0 x) w .normal a' w') (fun a' w' hh => ?_) (wp_noOut' (fun e a w hne => storePost_out hne) (fun a w h => h) hst)
          obtain ⟨rfl, hS⟩ := hh
          exact next w' hS
        · obtain ⟨_, _, h⟩ := hst; exact h.elim
      · simp only [hwn] at hst ⊢
        obtain ⟨ha, hS⟩ := (show StorePost (S (x dp) (x dv)) (actOf a0 x) w .normal ((actOf a0 x).put o.dst undef) w from hst)
        rw [ha]
        exact next w hS
    · obtain ⟨d, hd, hds, hdl⟩ := hdst i o ho hsi
      have hFn : ∀ v, Fixed l a0 (fun t => if t = d then v else x t) := fun v t ht => by
        have hne : t ≠ d := fun e => ht (by subst e; exact List.mem_map.2 ⟨o, List.mem_of_getElem? ho, hd⟩)
        simp only [if_neg hne]
        exact hF t ht
      have hVn : ∀ (v : Value) (wv : World), V i v wv → (∀ j o' d', l[j]? = some o' → o'.dst = some d' → listed.getD j false = true → V j (x d') wv) →
          ∀ j o' d', l[j]? = some o' → o'.dst = some d' → (listed.setIfInBounds i true).getD j false = true → V j (if d' = d then v else x d') wv := fun v wv hv hV j o' d' hj hd' hl => by
        by_cases he : j = i
        · subst he
          rw [ho] at hj
          cases hj
          rw [hd] at hd'
          cases hd'
          rw [if_pos rfl]
          exact hv
        · have hne : d' ≠ d := fun e => he (hinj hj ho (by rw [hd', hd, e]))
          rw [if_neg hne]
          rw [getD_set_ne false (Ne.symm he)] at hl
          exact hV j o' d' hj hd' hl
      rcases hI with ⟨hl0, hE, hV⟩ | ⟨hl1, hall2, wp, hE, hV, hS⟩
      · -- ahead of the store
        have hst := (step i hil hsi).out o ho x w hE hF fun j hj o' d' hj' hd' => hV j o' d' hj' hd' (hwl j hj)
        have next : ∀ v w', Ext w w' → V i v w' → wpAny P .any l.toArray Q fuel (listed.setIfInBounds i true) ((actOf a0 x).put o.dst v) w' := fun v w' hE' hV' => by
          rw [hd, actOf_put a0 x hds v]
          refine ih _ _ w' (by simp [hs]) hcnt (hFn v) (.inl ⟨?_, ET hE hE', hVn v w' hV' fun j o' d' hj hd' hl => mono _ _ _ _ (hV j o' d' hj hd' hl) hE'⟩)
          rw [getD_set_ne false hsi]
          exact hl0
        unfold wpList at hst
        unfold wpOp
        simp only [ho']
        by_cases hwn : Region.wanted o (yielded l.toArray (actOf a0 x).tmps) = true
        · simp only [hwn, if_true] at hst ⊢
          left
          rcases hst with hst | ⟨_, hst⟩
          · refine wp_noOut (K := fun a' w' => FreePost (V i) (actOf a0 x) o w .normal a' w') (fun a' w' hh => ?_) (wp_noOut' (fun e a w hne => freePost_out hne) (fun a w h => h) hst)
            obtain ⟨v, rfl, hE', hV'⟩ := hh
            exact next v w' hE' hV'
          · obtain ⟨_, _, h⟩ := hst; exact h.elim
        · simp only [hwn] at hst ⊢
          obtain ⟨v, hv, hE', hV'⟩ := (show FreePost (V i) (actOf a0 x) o w .normal ((actOf a0 x).put o.dst undef) w from hst)
          rw [hv]
          exact next v w hE' hV'
      · -- behind it
        have hlate : i ∈ late := by
          by_cases h : i ∈ late
          · exact h
          · have := hall2 i hil h
            simp [his] at this
            rw [hfalse] at this
            cases this
        have hst := (lateS i hlate).out o ho x wp w hE hF fun j hj o' d' hj' hd' => hV j o' d' hj' hd' (hwl j hj)
        have next : ∀ v, V i v wp → wpAny P .any l.toArray Q fuel (listed.setIfInBounds i true) ((actOf a0 x).put o.dst v) w := fun v hV' => by
          rw [hd, actOf_put a0 x hds v]
          refine ih _ _ w (by simp [hs]) hcnt (hFn v) (.inr ⟨getD_set_true hl1, fun j hj hjl => getD_set_true (hall2 j hj hjl), wp, hE, hVn v wp hV' hV, ?_⟩)
          obtain ⟨n1, n2⟩ := hdl hlate
          rw [if_neg (Ne.symm n1), if_neg (Ne.symm n2)]
          exact hS
        unfold wpList at hst
        unfold wpOp
        simp only [ho']
        by_cases hwn : Region.wanted o (yielded l.toArray (actOf a0 x).tmps) = true
        · simp only [hwn, if_true] at hst ⊢
          left
          rcases hst with hst | ⟨_, hst⟩
          · refine wp_noOut (K := fun a' w' => LatePost (V i) (actOf a0 x) o wp w .normal a' w') (fun a' w' hh => ?_) (wp_noOut' (fun e a w hne => latePost_out hne) (fun a w h => h) hst)
            obtain ⟨v, rfl, rfl, hV'⟩ := hh
            exact next v hV'
          · obtain ⟨_, _, h⟩ := hst; exact h.elim
        · simp only [hwn] at hst ⊢
          obtain ⟨v, hv, _, hV'⟩ := (show LatePost (V i) (actOf a0 x) o wp w .normal ((actOf a0 x).put o.dst undef) w from hst)
          rw [hv]
          exact next v hV'
theorem wp_region_freeS {id : Nat} {a : Act} {w : World} (V : Nat → Value → World → Prop) (S : Value → Value → World → World → Prop) (sI dp dv : Nat) (late : List Nat) (hm : P.follows .mixedOrders = true) (hB : freeSB .any l a.tmps.size sI dp dv late = true) (mono : ∀ i v w w', V i v w → Ext w w' → V i v w')
  (step : ∀ i, i < l.length → i ≠ sI → FreeAt P l V a w.drew i) (lateS : ∀ i ∈ late, LateAt P l V a w.drew i) (store : StoreAt P l V a w.drew sI dp dv late S)
  (hend : ∀ x wp w', Ext w.drew wp → Fixed l a x → (∀ j o d, l[j]? = some o → o.dst = some d → V j (x d) wp) → S (x dp) (x dv) wp w' → Q .normal (actOf a x) w') : (Code.region id l.toArray true).wp P Q a w := by
 refine wp_region_any hm ?_
 have hsl : sI < l.length := by
  simp only [freeSB, Bool.and_eq_true, decide_eq_true_eq] at hB
  exact hB.1.2
 have h := freeS_any (P := P) (Q := Q) hB mono step lateS store hend l.length (Array.replicate l.length false) (fun t => a.tmps.getD t undef) w.drew (by simp) (by simp) (fun t _ => rfl) (.inl ⟨by simp [hsl], Ext.rfl', fun j o d _ _ hl => by
  rcases Nat.lt_or_ge j l.length with h3 | h3
  ·simp [h3] at hl
  ·simp [Nat.not_lt.2 h3] at hl⟩)
 rw [actOf_self] at h
 simpa using h
end
end Go.Proofs.YtjinpfnefeiooaaGreat
