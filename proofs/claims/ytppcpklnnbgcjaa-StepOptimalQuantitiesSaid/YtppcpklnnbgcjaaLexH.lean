/- Regions that draw their order and hold makings of memory that wait for nothing, any number of them: ONE walk in the order of the text, in which new memory may come up between any two steps. -/
import Derived.Test.YtppcpklnnbgcjaaLexF
namespace Go.Proofs.Ytppcpklnnbgcjaa
open Go.RowKit

section
variable {P : Program} {ops : Array Oper} {md : Region.Mode} {C : World → Prop} {Q : Exit → Act → World → Prop}

/-- Several moving operations, any may come first; every other moving one waits. -/
theorem wpAnyL_movesN (hsel : ∀ (j : Nat) (o : Oper) cs b, ops[j]? = some o → o.op ≠ .select cs b) (cs : List Nat) (hne : cs ≠ []) :
    ∀ (fuel : Nat) (listed : Array Bool) (a : Act) (w : World),
      (∀ i ∈ cs, ∃ oi, ops[i]? = some oi ∧ stillOp oi = false ∧ FreeOf md ops listed i oi ∧ i ∈ Region.ready md ops listed ∧ Region.wanted oi (yielded ops a.tmps) = true ∧ oi.wp P a w (fun a' w' => (lastB md ops oi = false → C w') ∧ wpAnyL P md ops C Q fuel (listed.setIfInBounds i true) a' w') noOut) →
      (∀ m om, ops[m]? = some om → m ∉ cs → listed.getD m true = false → stillOp om = false → Waits md ops listed m) → wpAnyL P md ops C Q (fuel + 1) listed a w := by
  obtain ⟨i0, hi0⟩ := List.exists_mem_of_ne_nil cs hne
  intro fuel
  induction fuel with
  | zero =>
    intro listed a w H _
    obtain ⟨o0, ho0, hs0, hf0, hr0, hw0, H0⟩ := H i0 hi0
    refine ⟨fun h => (by rw [h] at hr0; cases hr0), fun j hj => ?_⟩
    by_cases hjc : j ∈ cs
    · obtain ⟨oj, hoj, hsj, _, _, hwj, Hj⟩ := H j hjc
      unfold lOp
      simp only [hoj, hwj, hsj, if_true, Bool.false_eq_true, if_false]
      exact Hj
    · have hji : j ≠ i0 := fun e => hjc (e ▸ hi0)
      have := ready_mono (i := i0) hj hji
      obtain ⟨a', w', ⟨_, h0⟩, _⟩ := wp_some H0
      rw [h0.1] at this
      cases this
  | succ fuel ih =>
    intro listed a w H hblk
    obtain ⟨o0, ho0, hs0, hf0, hr0, hw0, H0⟩ := H i0 hi0
    refine ⟨fun h => (by rw [h] at hr0; cases hr0), fun j hj => ?_⟩
    by_cases hjc : j ∈ cs
    · obtain ⟨oj, hoj, hsj, _, _, hwj, Hj⟩ := H j hjc
      unfold lOp
      simp only [hoj, hwj, hsj, if_true, Bool.false_eq_true, if_false]
      exact Hj
    obtain ⟨hjun, oj, hoj, hall⟩ := mem_ready.1 hj
    have hji : j ≠ i0 := fun e => hjc (e ▸ hi0)
    have hsj : stillOp oj = true := by
      cases hs : stillOp oj with
      | true => rfl
      | false =>
        obtain ⟨oj', ho', e, he, hb, hun⟩ := (hblk j oj hoj hjc hjun hs).unlisted
        rw [hoj] at ho'; cases ho'
        have := hall e he hb
        rw [hun] at this; cases this
    obtain ⟨i1, i2⟩ := hf0 j oj hoj hji hjun (not_waits (mem_ready.1 hr0).1 (_j := j) hall)
    obtain ⟨v, hy⟩ := yield_back hsel hj hoj hji hsj i1 H0
    refine hy.lOp hoj ?_
    refine ih (listed.setIfInBounds j true) (a.put oj.dst v) w ?_ ?_
    · intro i hi
      obtain ⟨oi, hoi, hsi, hfi, hri, hwi, Hi⟩ := H i hi
      have hjn : j ≠ i := fun e => hjc (e ▸ hi)
      obtain ⟨k1, k2⟩ := hfi j oj hoj hjn hjun (not_waits (mem_ready.1 hri).1 (_j := j) hall)
      exact ⟨oi, hoi, hsi, hfi.set hjun, ready_mono hri (Ne.symm hjn), by rw [wanted_put oi a oj.dst v (Oper.apart_spec k2).1]; exact hwi, moves_push hoi hsel hj hoj hjn hsj hjun k1 k2 hri hy Hi⟩
    · intro m om hm hmc hun hs
      have hjm : j ≠ m := by
        rintro rfl
        rw [hoj] at hm; cases hm; rw [hsj] at hs; cases hs
      rw [getD_set_ne true hjm] at hun
      exact (hblk m om hm hmc hun hs).set hoj hsj hall

/-- The array lists just these. -/
def Lis (n : Nat) (L : Array Bool) (D : Nat → Prop) : Prop := L.size = n ∧ ∀ x, x < n → (L[x]? = some true ↔ D x)
def mkL (n : Nat) (D : List Nat) : Array Bool := D.foldl (fun A i => A.setIfInBounds i true) (Array.replicate n false)
theorem Lis.set {n : Nat} {L : Array Bool} {D : Nat → Prop} (h : Lis n L D) (i : Nat) : Lis n (L.setIfInBounds i true) (fun x => D x ∨ x = i) := by
  refine ⟨by simp [h.1], fun x hx => ?_⟩
  by_cases e : i = x
  · subst e
    have : i < L.size := by rw [h.1]; exact hx
    simp [this]
  · rw [Array.getElem?_setIfInBounds_ne e, h.2 x hx]
    exact ⟨.inl, fun h => h.resolve_right (fun e' => e e'.symm)⟩
theorem Lis.congr {n : Nat} {L : Array Bool} {D D' : Nat → Prop} (h : Lis n L D) (hd : ∀ x, D x ↔ D' x) : Lis n L D' := ⟨h.1, fun x hx => (h.2 x hx).trans (hd x)⟩
theorem lis_fold {n : Nat} : ∀ (l : List Nat) {L : Array Bool} {D : Nat → Prop}, Lis n L D → Lis n (l.foldl (fun A i => A.setIfInBounds i true) L) (fun x => D x ∨ x ∈ l)
  | [], _, _, h => h.congr fun x => by simp
  | i :: l, _, _, h => (lis_fold l (h.set i)).congr fun x => by simp [or_assoc]
theorem lis_mk (n : Nat) (l : List Nat) : Lis n (mkL n l) (fun x => x ∈ l) := by
  have h0 : Lis n (Array.replicate n false) (fun _ => False) := ⟨by simp, fun x hx => by simp [hx]⟩
  exact (lis_fold l h0).congr fun x => by simp
theorem Lis.val {n : Nat} {L : Array Bool} {D : Nat → Prop} (h : Lis n L D) {x : Nat} (hx : x < n) : (L[x]? = some true ∧ D x) ∨ (L[x]? = some false ∧ ¬ D x) := by
  have hs : x < L.size := by rw [h.1]; exact hx
  cases e : L[x] with
  | true => exact .inl ⟨by rw [Array.getElem?_eq_getElem hs, e], (h.2 x hx).1 (by rw [Array.getElem?_eq_getElem hs, e])⟩
  | false => exact .inr ⟨by rw [Array.getElem?_eq_getElem hs, e], fun d => by have := (h.2 x hx).2 d; rw [Array.getElem?_eq_getElem hs, e] at this; cases this⟩
theorem Lis.un {n : Nat} {L : Array Bool} {D : Nat → Prop} (h : Lis n L D) {x : Nat} : L.getD x true = false ↔ x < n ∧ ¬ D x := by
  rcases Nat.lt_or_ge x n with hx | hx
  · have hs : x < L.size := by rw [h.1]; exact hx
    rcases h.val hx with ⟨e, d⟩ | ⟨e, d⟩ <;> rw [Array.getElem?_eq_getElem hs] at e <;> injection e with e
    · simp [hs, e, d]
    · simp [hs, e, d, hx]
  · have hs : ¬ x < L.size := by rw [h.1]; omega
    simp [hs]
    omega
theorem Lis.on {n : Nat} {L : Array Bool} {D : Nat → Prop} (h : Lis n L D) {x : Nat} : L.getD x false = true ↔ x < n ∧ D x := by
  rcases Nat.lt_or_ge x n with hx | hx
  · have hs : x < L.size := by rw [h.1]; exact hx
    rcases h.val hx with ⟨e, d⟩ | ⟨e, d⟩ <;> rw [Array.getElem?_eq_getElem hs] at e <;> injection e with e
    · simp [hs, e, d, hx]
    · simp [hs, e, d]
  · have hs : ¬ x < L.size := by rw [h.1]; omega
    simp [hs]
    omega
theorem Lis.ext {n : Nat} {L L' : Array Bool} {D D' : Nat → Prop} (h : Lis n L D) (h' : Lis n L' D') (hd : ∀ x, D x ↔ D' x) : L = L' := by
  refine Array.ext (by rw [h.1, h'.1]) fun x h1 h2 => ?_
  have hx : x < n := by rw [← h.1]; exact h1
  have k1 := h.2 x hx
  have k2 := h'.2 x hx
  rw [Array.getElem?_eq_getElem h1] at k1
  rw [Array.getElem?_eq_getElem h2] at k2
  have : L[x] = true ↔ L'[x] = true := by
    constructor
    · intro e; exact Option.some.inj (k2.2 ((hd x).1 (k1.1 (by rw [e]))))
    · intro e; exact Option.some.inj (k1.2 ((hd x).2 (k2.1 (by rw [e]))))
  cases e1 : L[x] <;> cases e2 : L'[x] <;> simp_all
section
variable {n : Nat} {A B : Array Bool} {DA DB : Nat → Prop} (hA : Lis n A DA) (hB : Lis n B DB) (hd : ∀ x, DA x → DB x)
include hA hB hd
theorem waits_anti {m : Nat} (h : Waits md ops B m) : Waits md ops A m := by
  have un : ∀ {x : Nat}, B.getD x false = false → A.getD x false = false := fun {x} hx => by
    cases e : A.getD x false with
    | false => rfl
    | true =>
      obtain ⟨h1, h2⟩ := hA.on.1 e
      rw [hB.on.2 ⟨h1, hd x h2⟩] at hx
      cases hx
  induction h with
  | last hm he hb hun hoe hse => exact .last hm he hb (un hun) hoe hse
  | step hm he hb hun _ ih => exact .step hm he hb (un hun) ih
theorem free_mono {i : Nat} {oi : Oper} (h : FreeOf md ops A i oi) : FreeOf md ops B i oi := fun j oj hj hne hun hno => by
  obtain ⟨h1, h2⟩ := hB.un.1 hun
  exact h j oj hj hne (hA.un.2 ⟨h1, fun e => h2 (hd j e)⟩) hno
theorem ready_more {i : Nat} (h : i ∈ Region.ready md ops A) (hi : ¬ DB i) : i ∈ Region.ready md ops B := by
  obtain ⟨hun, o, ho, hall⟩ := mem_ready.1 h
  obtain ⟨h1, _⟩ := hA.un.1 hun
  refine mem_ready.2 ⟨hB.un.2 ⟨h1, hi⟩, o, ho, fun e he hb => ?_⟩
  obtain ⟨k1, k2⟩ := hA.on.1 (hall e he hb)
  exact hB.on.2 ⟨k1, hd _ k2⟩
end

/-- The walk in the order of the text, in which each of U may come up ahead of each moving one. -/
def wpFl (P : Program) (md : Region.Mode) (ops : Array Oper) (C : World → Prop) (Q : Exit → Act → World → Prop) (post : List Nat) : Nat → List Nat → List Nat → Act → World → Prop
  | 0, _, _, a, w => wpLexI P md ops C Q post a w
  | k + 1, U, [], a, w => ∀ f ∈ U, ∃ o, ops[f]? = some o ∧ o.wp P a w (fun a' w' => C w' ∧ wpFl P md ops C Q post k (U.erase f) [] a' w') noOut
  | k + 1, U, i :: is, a, w => ∃ o, ops[i]? = some o ∧
      if Region.wanted o (yielded ops a.tmps) then
        if stillOp o then ∃ v, Yl P C o v a ∧ wpFl P md ops C Q post k U is (a.put o.dst v) w
        else (∀ f ∈ U, ∃ o', ops[f]? = some o' ∧ o'.wp P a w (fun a' w' => C w' ∧ wpFl P md ops C Q post k (U.erase f) (i :: is) a' w') noOut) ∧ o.wp P a w (fun a' w' => C w' ∧ wpFl P md ops C Q post k U is a' w') noOut
      else wpFl P md ops C Q post k U is (a.put o.dst undef) w

def preB (md : Region.Mode) (ops : Array Oper) (fl : List Nat) : List Nat → List Nat → Bool
  | [], _ => true
  | i :: is, done => (Region.ready md ops (mkL ops.size done)).contains i && Region.free md ops (mkL ops.size done) i && (stillAt ops i || blockedB md ops (mkL ops.size (done ++ fl)) i) && preB md ops fl is (done ++ [i])
def plainAt (ops : Array Oper) (f : Nat) : Bool := match ops[f]? with | some o => !stillOp o && o.guard.isNone | none => false
def flB (md : Region.Mode) (ops : Array Oper) (pre fl : List Nat) : Bool :=
  fl.all fun f => plainAt ops f && (Region.ready md ops (mkL ops.size [])).contains f && Region.free md ops (mkL ops.size []) f && blockedB md ops (mkL ops.size (pre ++ fl.filter (· != f))) f && !pre.contains f

theorem free_of {listed : Array Bool} {i : Nat} {oi : Oper} (hi : ops[i]? = some oi) (h : Region.free md ops listed i = true) : FreeOf md ops listed i oi := fun j oj hj hne hun hno =>
  ⟨Region.free_spec hi h j oj hj hne hun hno, apart_symm (Region.free_spec hi h j oj hj hne hun hno)⟩

theorem wpAnyL_fl (hsl : Region.noSelect ops = true) {fl pre post : List Nat} (hfl : flB md ops pre fl = true) (hpost : lexIB md ops post (mkL ops.size (pre ++ fl)) = true) :
    ∀ (k : Nat) (U is done : List Nat) (L : Array Bool) (a : Act) (w : World), k = U.length + is.length → done ++ is = pre → (∀ f ∈ U, f ∈ fl) → U.Nodup → Lis ops.size L (fun x => x ∈ done ∨ (x ∈ fl ∧ x ∉ U)) →
      preB md ops fl is done = true → wpFl P md ops C Q post k U is a w → wpAnyL P md ops C Q (k + post.length) L a w := by
  have hF : ∀ f ∈ fl, ∃ o, ops[f]? = some o ∧ stillOp o = false ∧ o.guard = none ∧ f ∈ Region.ready md ops (mkL ops.size []) ∧ FreeOf md ops (mkL ops.size []) f o ∧ blockedB md ops (mkL ops.size (pre ++ fl.filter (· != f))) f = true ∧ f ∉ pre := by
    intro f hf
    have := (List.all_eq_true.1 hfl) f hf
    simp only [Bool.and_eq_true, plainAt] at this
    obtain ⟨⟨⟨⟨h1, h2⟩, h3⟩, h4⟩, h5⟩ := this
    cases ho : ops[f]? with
    | none => rw [ho] at h1; simp at h1
    | some o =>
      rw [ho] at h1
      simp only [Bool.and_eq_true, Bool.not_eq_true', Option.isNone_iff_eq_none] at h1
      exact ⟨o, rfl, h1.1, h1.2, by simpa using h2, free_of ho h3, h4, by simpa using h5⟩
  intro k
  induction k with
  | zero =>
    intro U is done L a w hk hd hU hn hL hp h
    have hU0 : U = [] := List.length_eq_zero_iff.1 (by omega)
    have hi0 : is = [] := List.length_eq_zero_iff.1 (by omega)
    subst hU0 hi0
    have e : L = mkL ops.size (pre ++ fl) := hL.ext (lis_mk _ _) fun x => by rw [← hd]; simp
    rw [e, Nat.zero_add]
    exact wpAnyL_lexI hsl post _ a w hpost h
  | succ k ih =>
    intro U is done L a w hk hd hU hn hL hp h
    have hflU : ∀ f ∈ U, ∀ (o : Oper), ops[f]? = some o → o.wp P a w (fun a' w' => C w' ∧ wpFl P md ops C Q post k (U.erase f) is a' w') noOut →
        ∃ oi, ops[f]? = some oi ∧ stillOp oi = false ∧ FreeOf md ops L f oi ∧ f ∈ Region.ready md ops L ∧ Region.wanted oi (yielded ops a.tmps) = true ∧ oi.wp P a w (fun a' w' => (lastB md ops oi = false → C w') ∧ wpAnyL P md ops C Q (k + post.length) (L.setIfInBounds f true) a' w') noOut := by
      intro f hf o ho hwp
      obtain ⟨o', ho', hs, hg, hr, hfr, _, hnp⟩ := hF f (hU f hf)
      rw [ho] at ho'
      cases ho'
      refine ⟨o, ho, hs, free_mono (lis_mk _ _) hL (by simp) hfr, ready_more (lis_mk _ _) hL (by simp) hr ?_, wanted_plain hg _, Oper.wp_mono (fun a' w' ⟨h1, h2⟩ => ⟨fun _ => h1, ?_⟩) hwp⟩
      · rintro (h1 | ⟨_, h1⟩)
        · exact hnp (by rw [← hd]; simp [h1])
        · exact h1 hf
      · refine ih (U.erase f) is done _ a' w' ?_ hd (fun x hx => hU x (List.mem_of_mem_erase hx)) (hn.erase f) ((hL.set f).congr fun x => ?_) hp h2
        · have := List.length_erase_of_mem hf
          have := List.length_pos_of_mem hf
          omega
        · rw [hn.mem_erase_iff]
          constructor
          · rintro ((h1 | ⟨h1, h3⟩) | rfl)
            · exact .inl h1
            · exact .inr ⟨h1, fun e => h3 e.2⟩
            · exact .inr ⟨hU _ hf, fun e => e.1 rfl⟩
          · rintro (h1 | ⟨h1, h3⟩)
            · exact .inl (.inl h1)
            · by_cases e : x = f
              · exact .inr e
              · exact .inl (.inr ⟨h1, fun h4 => h3 ⟨e, h4⟩⟩)
    cases is with
    | nil =>
      have hne : U ≠ [] := by rintro rfl; simp at hk
      have e1 : k + 1 + post.length = (k + post.length) + 1 := by omega
      rw [e1]
      unfold wpFl at h
      refine wpAnyL_movesN (Region.noSelect_spec hsl) U hne _ L a w (fun f hf => ?_) ?_
      · obtain ⟨o, ho, hwp⟩ := h f hf
        exact hflU f hf o ho hwp
      · intro m om hm hmU hun hs
        obtain ⟨f0, hf0⟩ := List.exists_mem_of_ne_nil U hne
        obtain ⟨_, _, _, _, _, _, hb, _⟩ := hF f0 (hU f0 hf0)
        obtain ⟨hmn, hmd⟩ := hL.un.1 hun
        have hmf : m ∉ fl := fun e => hmd (.inr ⟨e, hmU⟩)
        have hmp : m ∉ pre := fun e => hmd (.inl (by rw [← hd] at e; simpa using e))
        refine waits_anti hL (lis_mk ops.size (pre ++ fl.filter (· != f0))) (fun x hx => ?_) (blocked_spec hb m om hm (fun e => hmU (e ▸ hf0)) ((lis_mk _ _).un.2 ⟨hmn, by simp [hmp, hmf]⟩) hs)
        rcases hx with hx | ⟨hx, hx2⟩
        · rw [← hd]; simp [hx]
        · have : x ≠ f0 := fun e => hx2 (e ▸ hf0)
          simp [hx, this]
    | cons i is =>
      simp only [preB, Bool.and_eq_true] at hp
      obtain ⟨⟨⟨hr, hf⟩, hb⟩, hp'⟩ := hp
      unfold wpFl at h
      obtain ⟨o, ho, h⟩ := h
      have hr1 : i ∈ Region.ready md ops (mkL ops.size done) := by simpa using hr
      have hid : i ∉ done := fun e => by
        obtain ⟨h1, _⟩ := mem_ready.1 hr1
        exact ((lis_mk _ _).un.1 h1).2 e
      have hip : i ∈ pre := by rw [← hd]; simp
      have hiD : ¬ (i ∈ done ∨ (i ∈ fl ∧ i ∉ U)) := by
        rintro (h1 | ⟨h1, _⟩)
        · exact hid h1
        · obtain ⟨_, _, _, _, _, _, _, hnp⟩ := hF i h1
          exact hnp hip
      have hrL : i ∈ Region.ready md ops L := ready_more (lis_mk _ _) hL (fun x hx => .inl hx) hr1 hiD
      have hfL : FreeOf md ops L i o := free_mono (lis_mk _ _) hL (fun x hx => .inl hx) (free_of ho hf)
      have hL' : Lis ops.size (L.setIfInBounds i true) (fun x => x ∈ done ++ [i] ∨ (x ∈ fl ∧ x ∉ U)) := (hL.set i).congr fun x => by
        simp only [List.mem_append, List.mem_singleton]
        constructor
        · rintro ((h1 | h1) | h1)
          · exact .inl (.inl h1)
          · exact .inr h1
          · exact .inl (.inr h1)
        · rintro ((h1 | h1) | h1)
          · exact .inl (.inl h1)
          · exact .inr h1
          · exact .inl (.inr h1)
      have ih' := fun a w => ih U is (done ++ [i]) _ a w (by simp at hk; omega) (by rw [← hd]; simp) hU hn hL' hp'
      have e1 : k + 1 + post.length = (k + post.length) + 1 := by omega
      rw [e1]
      by_cases hw : Region.wanted o (yielded ops a.tmps) = true
      · simp only [hw, if_true] at h
        by_cases hs : stillOp o = true
        · simp only [hs, if_true] at h
          obtain ⟨v, hy, hK⟩ := h
          exact wpAnyL_still ho (Region.noSelect_spec hsl) _ L a w (fun j oj hj hne hun hno => (hfL j oj hj hne hun hno).1) hrL (.inl ⟨hw, hs, hy⟩) (ih' _ _ hK)
        · have hs' : stillOp o = false := by simpa using hs
          simp only [hs', Bool.false_eq_true, if_false] at h
          simp only [stillAt, ho, hs', Bool.false_or] at hb
          refine wpAnyL_movesN (Region.noSelect_spec hsl) (i :: U) (by simp) _ L a w (fun f hf2 => ?_) ?_
          · rcases List.mem_cons.1 hf2 with rfl | hf2
            · exact ⟨o, ho, hs', hfL, hrL, hw, Oper.wp_mono (fun a' w' ⟨h1, h2⟩ => ⟨fun _ => h1, ih' a' w' h2⟩) h.2⟩
            · obtain ⟨of, hof, hwp⟩ := h.1 f hf2
              exact hflU f hf2 of hof hwp
          · intro m om hm hmU hun hs2
            obtain ⟨hmn, hmd⟩ := hL.un.1 hun
            have hmi : m ≠ i := fun e => hmU (by simp [e])
            have hmU' : m ∉ U := fun e => hmU (by simp [e])
            have hmf : m ∉ fl := fun e => hmd (.inr ⟨e, hmU'⟩)
            have hmp : m ∉ done := fun e => hmd (.inl e)
            refine waits_anti hL (lis_mk ops.size (done ++ fl)) (fun x hx => ?_) (blocked_spec hb m om hm hmi ((lis_mk _ _).un.2 ⟨hmn, by simp [hmp, hmf]⟩) hs2)
            rcases hx with hx | ⟨hx, _⟩ <;> simp [hx]
      · have hw' : Region.wanted o (yielded ops a.tmps) = false := by simpa using hw
        simp only [hw', Bool.false_eq_true, if_false] at h
        exact wpAnyL_still ho (Region.noSelect_spec hsl) _ L a w (fun j oj hj hne hun hno => (hfL j oj hj hne hun hno).1) hrL (.inr ⟨hw', rfl⟩) (ih' _ _ h)

/-- The pointers that the makings of memory yield. -/
def dstAt (ops : Array Oper) (f : Nat) : Option Tmp := match ops[f]? with | some o => o.dst | none => none
def putFl (ops : Array Oper) (gs : Nat → Nat) : List Nat → Act → Act
  | [], a => a
  | f :: l, a => putFl ops gs l (a.put (dstAt ops f) (.pointer (some ⟨gs f, 0, none⟩)))
theorem putFl_append (gs : Nat → Nat) : ∀ (l r : List Nat) (a : Act), putFl ops gs (l ++ r) a = putFl ops gs r (putFl ops gs l a)
  | [], _, _ => rfl
  | _ :: l, r, _ => putFl_append gs l r _
theorem putFl_congr {gs gs' : Nat → Nat} : ∀ (l : List Nat) (a : Act), (∀ f ∈ l, gs f = gs' f) → putFl ops gs l a = putFl ops gs' l a
  | [], _, _ => rfl
  | f :: l, a, h => by
    simp only [putFl]
    rw [h f (by simp)]
    exact putFl_congr l _ fun x hx => h x (by simp [hx])
def ApartFl (ops : Array Oper) (l : List Nat) (o : Oper) : Prop := ∀ f ∈ l, ∃ o', ops[f]? = some o' ∧ o'.apart ops o = true
theorem dst_of {f : Nat} {o : Oper} (h : ops[f]? = some o) : dstAt ops f = o.dst := by simp [dstAt, h]
theorem putFl_put {o : Oper} (gs : Nat → Nat) (v : Value) : ∀ (l : List Nat) (a : Act), ApartFl ops l o → (putFl ops gs l a).put o.dst v = putFl ops gs l (a.put o.dst v)
  | [], _, _ => rfl
  | f :: l, a, h => by
    obtain ⟨o', ho', hap⟩ := h f (by simp)
    obtain ⟨_, h2, _⟩ := Oper.apart_spec hap
    simp only [putFl]
    rw [putFl_put gs v l _ fun x hx => h x (by simp [hx]), dst_of ho', Act.put_comm a _ v h2]
theorem exec_putFl {o : Oper} (hsel : ∀ cs b, o.op ≠ .select cs b) (gs : Nat → Nat) : ∀ (l : List Nat) (a : Act), ApartFl ops l o → execOp (putFl ops gs l a).eval o = execOp a.eval o
  | [], _, _ => rfl
  | f :: l, a, h => by
    obtain ⟨o', ho', hap⟩ := h f (by simp)
    obtain ⟨h1, _, _⟩ := Oper.apart_spec hap
    simp only [putFl]
    rw [exec_putFl hsel gs l _ fun x hx => h x (by simp [hx]), dst_of ho', execOp_put o hsel a _ _ h1]
theorem wanted_putFl {o : Oper} (gs : Nat → Nat) : ∀ (l : List Nat) (a : Act), ApartFl ops l o → Region.wanted o (yielded ops (putFl ops gs l a).tmps) = Region.wanted o (yielded ops a.tmps)
  | [], _, _ => rfl
  | f :: l, a, h => by
    obtain ⟨o', ho', hap⟩ := h f (by simp)
    obtain ⟨h1, _, _⟩ := Oper.apart_spec hap
    simp only [putFl]
    rw [wanted_putFl gs l _ fun x hx => h x (by simp [hx]), dst_of ho', wanted_put o a _ _ h1]
theorem wp_putFl {o : Oper} (hsel : ∀ cs b, o.op ≠ .select cs b) (gs : Nat → Nat) {K : Act → World → Prop} {w : World} : ∀ (l : List Nat) (a : Act), ApartFl ops l o → o.wp P a w (fun a' w' => K (putFl ops gs l a') w') noOut → o.wp P (putFl ops gs l a) w K noOut
  | [], _, _, h => h
  | f :: l, a, h, hh => by
    obtain ⟨o', ho', hap⟩ := h f (by simp)
    simp only [putFl] at hh ⊢
    refine wp_putFl hsel gs l _ (fun x hx => h x (by simp [hx])) ?_
    rw [dst_of ho'] at hh ⊢
    exact wp_behind hap hsel hh
theorem putFl_perm {gs : Nat → Nat} {l l' : List Nat} (h : l.Perm l') (hap : ∀ f ∈ l, ∀ f' ∈ l, f ≠ f' → ∀ d, dstAt ops f = some d → dstAt ops f' ≠ some d) : ∀ a, putFl ops gs l a = putFl ops gs l' a := by
  induction h with
  | nil => intro a; rfl
  | cons x _ ih => intro a; exact ih (fun f hf f' hf' => hap f (by simp [hf]) f' (by simp [hf'])) _
  | swap x y l =>
    intro a
    simp only [putFl]
    by_cases e : x = y
    · subst e; rfl
    · rw [Act.put_comm a _ _ (hap y (by simp) x (by simp) (Ne.symm e))]
  | trans h1 _ ih1 ih2 =>
    intro a
    rw [ih1 hap a]
    exact ih2 (fun f hf f' hf' => hap f (h1.mem_iff.2 hf) f' (h1.mem_iff.2 hf')) a

/-- Block g holds the new object, and lies outside these spans of new memory. -/
def Placed (w : World) (o : Obj) (iv : List (Nat × Nat)) (B g : Nat) : Prop := B ≤ g ∧ w.heap[g]? = some o ∧ ∀ p ∈ iv, g < p.1 ∨ p.2 ≤ g
theorem Placed.lt {w : World} {o : Obj} {iv : List (Nat × Nat)} {B g : Nat} (h : Placed w o iv B g) : g < w.heap.size := by
  rcases Nat.lt_or_ge g w.heap.size with hl | hl
  · exact hl
  · have := h.2.1; rw [Array.getElem?_eq_none hl] at this; cases this
theorem Placed.ext {w w' : World} {o : Obj} {iv : List (Nat × Nat)} {B g : Nat} (h : Placed w o iv B g) (hb : Ext w w') : Placed w' o iv B g := ⟨h.1, (hb.block g h.lt).trans h.2.1, h.2.2⟩
theorem Placed.span {w w' : World} {o : Obj} {iv : List (Nat × Nat)} {B g : Nat} (h : Placed w o iv B g) (hb : Ext w w') : Placed w' o (iv ++ [(w.heap.size, w'.heap.size)]) B g := ⟨h.1, (hb.block g h.lt).trans h.2.1, fun p hp => by
  rcases List.mem_append.1 hp with hp | hp
  · exact h.2.2 p hp
  · rw [List.mem_singleton.1 hp]; exact .inl h.lt⟩

/-- The walk in the order of the text, with new memory between any two steps. -/
def wpHav (P : Program) (md : Region.Mode) (ops : Array Oper) (C : World → Prop) (Q : Exit → Act → World → Prop) (fl post : List Nat) (obj : Nat → Obj) (B : Nat) : List Nat → List (Nat × Nat) → Act → World → Prop
  | [], iv, b, w => ∀ gs : Nat → Nat, (∀ f ∈ fl, Placed w (obj f) iv B (gs f)) → (∀ f ∈ fl, ∀ f' ∈ fl, f ≠ f' → gs f ≠ gs f') → wpLexI P md ops C Q post (putFl ops gs fl b) w
  | i :: is, iv, b, w => ∃ o, ops[i]? = some o ∧
      if Region.wanted o (yielded ops b.tmps) then
        if stillOp o then ∃ v, Yl P C o v b ∧ wpHav P md ops C Q fl post obj B is iv (b.put o.dst v) w
        else o.wp P b w (fun a' w' => Ext w w' ∧ ∀ w'', Ext w' w'' → wpHav P md ops C Q fl post obj B is (iv ++ [(w.heap.size, w'.heap.size)]) a' w'') noOut
      else wpHav P md ops C Q fl post obj B is iv (b.put o.dst undef) w

def apartB (ops : Array Oper) (pre fl : List Nat) : Bool :=
  fl.all fun f => match ops[f]? with
    | none => false
    | some o => pre.all (fun i => match ops[i]? with | some oi => o.apart ops oi | none => false) && fl.all (fun f' => f == f' || match ops[f']? with | some o' => o.apart ops o' | none => false)
/-- Operation f makes the object. -/
def Makes (P : Program) (ops : Array Oper) (obj : Nat → Obj) (f : Nat) : Prop := ∃ o, ops[f]? = some o ∧ ∀ (a : Act) (w : World), (execOp a.eval o).run P w = .ok (.value (.pointer (some ⟨w.heap.size, 0, none⟩))) (w.alloc (obj f))

theorem fl_of_hav (hsl : Region.noSelect ops = true) {fl pre post : List Nat} {obj : Nat → Obj} {B : Nat} (hap : apartB ops pre fl = true) (hmk : ∀ f ∈ fl, Makes P ops obj f) (hCe : ∀ w w', C w → Ext w w' → C w') :
    ∀ (k : Nat) (U AL is : List Nat) (iv : List (Nat × Nat)) (gs : Nat → Nat) (b : Act) (w : World), k = U.length + is.length → (AL ++ U).Perm fl → fl.Nodup → (∀ i ∈ is, i ∈ pre) → C w → (∀ f ∈ AL, Placed w (obj f) iv B (gs f)) → (∀ f ∈ AL, ∀ f' ∈ AL, f ≠ f' → gs f ≠ gs f') →
      (∀ p ∈ iv, p.2 ≤ w.heap.size) → B ≤ w.heap.size → (∀ w'', Ext w w'' → wpHav P md ops C Q fl post obj B is iv b w'') → wpFl P md ops C Q post k U is (putFl ops gs AL b) w := by
  have hA : ∀ f ∈ fl, ∃ o, ops[f]? = some o ∧ (∀ i ∈ pre, ∃ oi, ops[i]? = some oi ∧ o.apart ops oi = true) ∧ ∀ f' ∈ fl, f ≠ f' → ∃ o', ops[f']? = some o' ∧ o.apart ops o' = true := by
    intro f hf
    have := (List.all_eq_true.1 hap) f hf
    cases ho : ops[f]? with
    | none => rw [ho] at this; simp at this
    | some o =>
      rw [ho] at this
      simp only [Bool.and_eq_true, List.all_eq_true] at this
      refine ⟨o, rfl, fun i hi => ?_, fun f' hf' hne => ?_⟩
      · have h1 := this.1 i hi
        cases hoi : ops[i]? with
        | none => rw [hoi] at h1; simp at h1
        | some oi => rw [hoi] at h1; exact ⟨oi, rfl, h1⟩
      · have h1 := this.2 f' hf'
        cases hoi : ops[f']? with
        | none => rw [hoi] at h1; simp [hne] at h1
        | some oi => rw [hoi] at h1; simp [hne] at h1; exact ⟨oi, rfl, h1⟩
  intro k
  induction k with
  | zero =>
    intro U AL is iv gs b w hk hperm hnd hpre hC hpl hne hiv hB h
    have hU0 : U = [] := List.length_eq_zero_iff.1 (by omega)
    have hi0 : is = [] := List.length_eq_zero_iff.1 (by omega)
    subst hU0 hi0
    rw [List.append_nil] at hperm
    have h0 := h w (Below.refl _ _)
    unfold wpHav at h0
    unfold wpFl
    rw [putFl_perm hperm (fun f hf f' hf' hff d hd hd' => ?_) b]
    · exact h0 gs (fun f hf => hpl f (hperm.mem_iff.2 hf)) (fun f hf f' hf' => hne f (hperm.mem_iff.2 hf) f' (hperm.mem_iff.2 hf'))
    · obtain ⟨o, ho, _, hx⟩ := hA f (hperm.mem_iff.1 hf)
      obtain ⟨o', ho', hap'⟩ := hx f' (hperm.mem_iff.1 hf') hff
      rw [dst_of ho] at hd
      rw [dst_of ho'] at hd'
      exact (Oper.apart_spec hap').2.1 d hd hd'
  | succ k ih =>
    intro U AL is iv gs b w hk hperm hnd hpre hC hpl hne hiv hB h
    have hnd' : (AL ++ U).Nodup := hperm.nodup_iff.2 hnd
    have hALfl : ∀ f ∈ AL, f ∈ fl := fun f hf => hperm.mem_iff.1 (by simp [hf])
    have hapS : ∀ i ∈ pre, ∀ oi, ops[i]? = some oi → ApartFl ops AL oi := fun i hi oi hoi f hf => by
      obtain ⟨o, ho, hx, _⟩ := hA f (hALfl f hf)
      obtain ⟨oi', hoi', hap'⟩ := hx i hi
      rw [hoi] at hoi'; cases hoi'
      exact ⟨o, ho, hap'⟩
    have hfloat : ∀ f ∈ U, ∃ o, ops[f]? = some o ∧ o.wp P (putFl ops gs AL b) w (fun a' w' => C w' ∧ wpFl P md ops C Q post k (U.erase f) is a' w') noOut := by
      intro f hf
      have hffl : f ∈ fl := hperm.mem_iff.1 (by simp [hf])
      obtain ⟨o, ho, hex⟩ := hmk f hffl
      refine ⟨o, ho, ?_⟩
      unfold Oper.wp
      rw [hex]
      have hal : Ext w (w.alloc (obj f)) := Ext.al Ext.rfl' _
      have hfA : f ∉ AL := fun e => by
        have := (List.nodup_append.1 hnd').2.2 f e f hf
        exact this rfl
      show C (w.alloc (obj f)) ∧ _
      refine ⟨hCe _ _ hC hal, ?_⟩
      have e1 : (putFl ops gs AL b).put o.dst (.pointer (some ⟨w.heap.size, 0, none⟩)) = putFl ops (fun x => if x = f then w.heap.size else gs x) (AL ++ [f]) b := by
        rw [putFl_append, putFl_congr (gs := fun x => if x = f then w.heap.size else gs x) (gs' := gs) AL b (fun x hx => by
          have : x ≠ f := fun e => hfA (e ▸ hx)
          simp [this])]
        simp [putFl, dst_of ho]
      rw [e1]
      refine ih (U.erase f) (AL ++ [f]) is iv _ b (w.alloc (obj f)) ?_ ?_ hnd hpre (hCe _ _ hC hal) ?_ ?_ ?_ ?_ ?_
      · have := List.length_erase_of_mem hf
        have := List.length_pos_of_mem hf
        omega
      · refine List.Perm.trans ?_ hperm
        rw [List.append_assoc]
        exact List.Perm.append_left AL (List.perm_cons_erase hf).symm
      · intro x hx
        rcases List.mem_append.1 hx with hx | hx
        · have : x ≠ f := fun e => hfA (e ▸ hx)
          simp only [this, if_false]
          exact (hpl x hx).ext hal
        · rw [List.mem_singleton.1 hx]
          simp only [if_true]
          exact ⟨hB, heap_alloc_new w _, fun p hp => .inr (hiv p hp)⟩
      · intro x hx y hy hxy
        rcases List.mem_append.1 hx with hx | hx <;> rcases List.mem_append.1 hy with hy | hy
        · have h1 : x ≠ f := fun e => hfA (e ▸ hx)
          have h2 : y ≠ f := fun e => hfA (e ▸ hy)
          simp only [h1, h2, if_false]
          exact hne x hx y hy hxy
        · have h1 : x ≠ f := fun e => hfA (e ▸ hx)
          have h2 := List.mem_singleton.1 hy
          simp only [h1, h2, if_false, if_true]
          exact Nat.ne_of_lt (hpl x hx).lt
        · have h1 : y ≠ f := fun e => hfA (e ▸ hy)
          have h2 := List.mem_singleton.1 hx
          simp only [h1, h2, if_false, if_true]
          exact Nat.ne_of_gt (hpl y hy).lt
        · rw [List.mem_singleton.1 hx, List.mem_singleton.1 hy] at hxy
          exact absurd rfl hxy
      · intro p hp
        exact Nat.le_trans (hiv p hp) hal.size
      · exact Nat.le_trans hB hal.size
      · exact fun w'' hw => h w'' (Ext.trans hal hw)
    cases is with
    | nil => unfold wpFl; exact hfloat
    | cons i is =>
      have h0 := h w (Below.refl _ _)
      unfold wpHav at h0
      obtain ⟨o, ho, h0⟩ := h0
      have hip : i ∈ pre := hpre i (by simp)
      have hS := hapS i hip o ho
      have hsel := fun cs b => Region.noSelect_spec hsl i o cs b ho
      have hwe := wanted_putFl gs AL b hS
      have hk' : k = U.length + is.length := by simp at hk; omega
      have hpre' : ∀ j ∈ is, j ∈ pre := fun j hj => hpre j (by simp [hj])
      unfold wpFl
      refine ⟨o, ho, ?_⟩
      rw [hwe]
      by_cases hw : Region.wanted o (yielded ops b.tmps) = true
      · simp only [hw, if_true] at h0 ⊢
        by_cases hs : stillOp o = true
        · simp only [hs, if_true] at h0 ⊢
          obtain ⟨v, hy, _⟩ := h0
          refine ⟨v, hy.of_same (exec_putFl hsel gs AL b hS), ?_⟩
          rw [putFl_put gs v AL b hS]
          refine ih U AL is iv gs _ w hk' hperm hnd hpre' hC hpl hne hiv hB fun w'' hw'' => ?_
          have h1 := h w'' hw''
          unfold wpHav at h1
          obtain ⟨o1, ho1, h1⟩ := h1
          rw [ho] at ho1; cases ho1
          simp only [hw, if_true, hs] at h1
          obtain ⟨v', hy', hK⟩ := h1
          have hvv : v' = v := by
            have e1 := hy w hC
            have e2 := hy' w hC
            rw [e1] at e2
            injection e2 with e2
            injection e2 with e2
            exact e2.symm
          rw [← hvv]
          exact hK
        · have hs' : stillOp o = false := by simpa using hs
          simp only [hs', Bool.false_eq_true, if_false] at h0 ⊢
          refine ⟨hfloat, wp_putFl hsel gs AL b hS (Oper.wp_mono (fun a' w' ⟨h1, h2⟩ => ⟨hCe _ _ hC h1, ?_⟩) h0)⟩
          refine ih U AL is _ gs a' w' hk' hperm hnd hpre' (hCe _ _ hC h1) (fun f hf => (hpl f hf).span h1) hne ?_ (Nat.le_trans hB h1.size) h2
          intro p hp
          rcases List.mem_append.1 hp with hp | hp
          · exact Nat.le_trans (hiv p hp) h1.size
          · rw [List.mem_singleton.1 hp]; exact Nat.le_refl _
      · have hw' : Region.wanted o (yielded ops b.tmps) = false := by simpa using hw
        simp only [hw', Bool.false_eq_true, if_false] at h0 ⊢
        rw [putFl_put gs undef AL b hS]
        refine ih U AL is iv gs _ w hk' hperm hnd hpre' hC hpl hne hiv hB fun w'' hw'' => ?_
        have h1 := h w'' hw''
        unfold wpHav at h1
        obtain ⟨o1, ho1, h1⟩ := h1
        rw [ho] at ho1; cases ho1
        simp only [hw', Bool.false_eq_true, if_false] at h1
        exact h1
def nodupB : List Nat → Bool
  | [] => true
  | x :: l => !l.contains x && nodupB l
theorem nodup_of : ∀ {l : List Nat}, nodupB l = true → l.Nodup
  | [], _ => List.nodup_nil
  | x :: l, h => by
    simp only [nodupB, Bool.and_eq_true, Bool.not_eq_true'] at h
    exact List.nodup_cons.2 ⟨by simpa using h.1, nodup_of h.2⟩
def havB (md : Region.Mode) (ops : Array Oper) (fl pre post : List Nat) : Bool :=
  Region.noSelect ops && (fl.length + pre.length + post.length == ops.size) && nodupB fl && flB md ops pre fl && apartB ops pre fl && preB md ops fl pre [] && lexIB md ops post (mkL ops.size (pre ++ fl))
/-- **One walk serves every order, where the makings of memory wait for nothing.** -/
theorem wp_region_hav {id : Nat} {a : Act} {w : World} {l : List Oper} (fl pre post : List Nat) (obj : Nat → Obj) (hm : P.follows .mixedOrders = true) (hB : havB .any l.toArray fl pre post = true) (hmk : ∀ f ∈ fl, Makes P l.toArray obj f)
    (h : ∀ w'', Ext w.drew w'' → wpHav P .any l.toArray (InX w.drew []) Q fl post obj w.drew.heap.size pre [] a w'') : (Code.region id l.toArray true).wp P Q a w := by
  simp only [havB, Bool.and_eq_true, beq_iff_eq] at hB
  obtain ⟨⟨⟨⟨⟨⟨h1, h2⟩, h3⟩, h4⟩, h5⟩, h6⟩, h7⟩ := hB
  have hnd := nodup_of h3
  refine wp_region_any hm (wpAny_of_L (C := InX w.drew []) _ _ _ _ (fun _ _ _ _ _ => inX_self w.drew []) ?_)
  have hf := fl_of_hav (P := P) (md := .any) (Q := Q) (C := InX w.drew []) (post := post) (B := w.drew.heap.size) h1 h5 hmk (fun _ _ hc he => inX_ext hc he) (fl.length + pre.length) fl [] pre [] (fun _ => 0) a w.drew rfl (List.Perm.refl _) hnd (fun _ hi => hi) (inX_self _ _) (fun _ hf => by cases hf) (fun _ hf => by cases hf) (fun _ hp => by cases hp) (Nat.le_refl _) h
  have := wpAnyL_fl h1 h4 h7 (fl.length + pre.length) fl pre [] (Array.replicate l.toArray.size false) a w.drew rfl rfl (fun _ h => h) hnd ⟨by simp, fun x hx => by
    have hx' : x < l.length := by simpa using hx
    simp [hx']⟩ h6 hf
  rw [h2] at this
  exact this
/-- What stands behind one moving operation. -/
def HavPost (K : Act → World → Prop) : Exit → Act → World → Prop
  | .normal, a, w => K a w
  | _, _, _ => False
section
variable {fl post : List Nat} {obj : Nat → Obj} {B : Nat}
theorem wpHav_still {i : Nat} {is : List Nat} {iv : List (Nat × Nat)} {o : Oper} {a : Act} {w : World} (ho' : ops.toList[i]? = some o) (hs : stillOp o = true) (h : wpQuiet P ops C (fun a' => wpHav P md ops C Q fl post obj B is iv a' w) [o] a) : wpHav P md ops C Q fl post obj B (i :: is) iv a w := by
  have ho : ops[i]? = some o := by simpa using ho'
  have h1 := quiet_yl hs h
  unfold wpHav
  refine ⟨o, ho, ?_⟩
  by_cases hw : Region.wanted o (yielded ops a.tmps) = true
  · simp only [hw, if_true, hs] at h1 ⊢; exact h1
  · simp only [hw] at h1 ⊢; exact h1
theorem wpHav_move {i : Nat} {is : List Nat} {iv : List (Nat × Nat)} {o : Oper} {a : Act} {w : World} (ho' : ops.toList[i]? = some o) (hs : stillOp o = false) (hw : Region.wanted o (yielded ops a.tmps) = true)
    (h : wpList P ops (HavPost fun a' w' => Ext w w' ∧ ∀ w'', Ext w' w'' → wpHav P md ops C Q fl post obj B is (iv ++ [(w.heap.size, w'.heap.size)]) a' w'') [o] a w) : wpHav P md ops C Q fl post obj B (i :: is) iv a w := by
  have ho : ops[i]? = some o := by simpa using ho'
  unfold wpHav
  refine ⟨o, ho, ?_⟩
  unfold wpList at h
  simp only [hw, if_true, hs, Bool.false_eq_true, if_false] at h ⊢
  rcases h with h | ⟨_, h⟩
  · refine wp_noOut' (fun e a w hne => ?_) (fun a w h => h) h
    cases e <;> simp_all [HavPost]
  · obtain ⟨_, _, h⟩ := h; exact h.elim
theorem wpHav_skip {i : Nat} {is : List Nat} {iv : List (Nat × Nat)} {o : Oper} {a : Act} {w : World} (ho' : ops.toList[i]? = some o) (hw : Region.wanted o (yielded ops a.tmps) = false) (h : wpHav P md ops C Q fl post obj B is iv (a.put o.dst undef) w) : wpHav P md ops C Q fl post obj B (i :: is) iv a w := by
  have ho : ops[i]? = some o := by simpa using ho'
  unfold wpHav
  refine ⟨o, ho, ?_⟩
  simp only [hw, Bool.false_eq_true, if_false]
  exact h
theorem wpHav_end {iv : List (Nat × Nat)} {a : Act} {w : World} (h : ∀ gs : Nat → Nat, (∀ f ∈ fl, Placed w (obj f) iv B (gs f)) → (∀ f ∈ fl, ∀ f' ∈ fl, f ≠ f' → gs f ≠ gs f') → wpLexI P md ops C Q post (putFl ops gs fl a) w) : wpHav P md ops C Q fl post obj B [] iv a w := h
end
end
end Go.Proofs.Ytppcpklnnbgcjaa
