/- Plain words for package uplift: the cost of a day, its error, how long it is, and the cost of a day that is split. -/
import Derived.Test.YtfokholpgakjpaaUnits
import Derived.Test.YtfokholpgakjpaaCostL
namespace Go.Proofs.Ytfokholpgakjpaa
open Go.RowKit

/-- What the first k hours cost. -/
def U.hours (u : U) (ran : List Bool) (gs : List Rat) : Nat → Rat
  | 0 => 0
  | k + 1 => u.hours ran gs k + (if ran.getD k false then ((u.idle : Int) : Rat) else 0) + costV u.steps (gs.getD k 0)
/-- What Cost has summed behind k hours. -/
def U.dayTo (u : U) (plan ran : List Bool) (gs : List Rat) (k : Nat) : Rat := ((u.start : Int) : Rat) * ((u.starts plan : Int) : Rat) + u.hours ran gs k
/-- May the unit produce that in an hour? -/
def U.hourOk (u : U) (r : Bool) (q : Rat) : Prop := ¬ q < 0 ∧ ¬ ((u.top : Int) : Rat) < q ∧ (r = false → q = 0)
instance (u : U) (r : Bool) (q : Rat) : Decidable (u.hourOk r q) := by unfold U.hourOk; exact inferInstance
def U.hoursOk (u : U) (ran : List Bool) (gs : List Rat) (k : Nat) : Prop := ∀ i, i < k → u.hourOk (ran.getD i false) (gs.getD i 0)
instance (u : U) (ran : List Bool) (gs : List Rat) (k : Nat) : Decidable (u.hoursOk ran gs k) := by unfold U.hoursOk; exact inferInstance
/-- The error of Cost. -/
def U.dayE (u : U) (plan ran : List Bool) (gs : List Rat) : Int :=
  if u.check 6 ≠ 0 then u.check 6 else if 8 < plan.length then 5 else if ran.length ≠ plan.length ∨ gs.length ≠ plan.length then 3 else if u.hoursOk ran gs plan.length then 0 else 1
/-- The cost of a day, 0 where there is an error. -/
def U.dayV (u : U) (plan ran : List Bool) (gs : List Rat) : Rat := if u.dayE plan ran gs = 0 then u.dayTo plan ran gs plan.length else 0
theorem dayE_zero {u : U} {plan ran : List Bool} {gs : List Rat} : u.dayE plan ran gs = 0 ↔ u.ok = true ∧ plan.length ≤ 8 ∧ ran.length = plan.length ∧ gs.length = plan.length ∧ u.hoursOk ran gs plan.length := by
  unfold U.dayE U.ok
  by_cases h0 : u.check 6 = 0
  · rw [if_neg (by simp [h0])]
    by_cases h1 : 8 < plan.length
    · rw [if_pos h1]; constructor
      · intro h; omega
      · rintro ⟨_, h, _⟩; omega
    · rw [if_neg h1]
      by_cases h2 : ran.length ≠ plan.length ∨ gs.length ≠ plan.length
      · rw [if_pos h2]; constructor
        · intro h; omega
        · rintro ⟨_, _, a, b, _⟩; rcases h2 with h2 | h2
          · exact absurd a h2
          · exact absurd b h2
      · rw [if_neg h2]
        by_cases h3 : u.hoursOk ran gs plan.length
        · rw [if_pos h3]
          exact ⟨fun _ => ⟨by simp [h0], by omega, by omega, by omega, h3⟩, fun _ => rfl⟩
        · rw [if_neg h3]
          exact ⟨fun h => by omega, fun ⟨_, _, _, _, h⟩ => absurd h h3⟩
  · rw [if_pos h0]
    exact ⟨fun h => absurd h h0, fun ⟨h, _⟩ => absurd (of_decide_eq_true h) h0⟩
theorem allocE_ok {u : U} (h : u.ok = true) {q : Rat} (h0 : ¬ q < 0) (h1 : ¬ ((u.top : Int) : Rat) < q) : allocE u.steps q = 0 := by
  have hc := U.chk0 h
  unfold U.top at h1
  rw [if_pos hc] at h1
  unfold allocE
  rw [if_neg (by simp [crv_of_chk hc]), if_neg]
  rintro (e | e)
  · exact h0 e
  · exact h1 e
theorem hours_succ (u : U) (ran : List Bool) (gs : List Rat) (k : Nat) : u.hours ran gs (k + 1) = u.hours ran gs k + (if ran.getD k false then ((u.idle : Int) : Rat) else 0) + costV u.steps (gs.getD k 0) := rfl
theorem dayTo_succ (u : U) (plan ran : List Bool) (gs : List Rat) (k : Nat) : u.dayTo plan ran gs (k + 1) = u.dayTo plan ran gs k + (if ran.getD k false then ((u.idle : Int) : Rat) else 0) + costV u.steps (gs.getD k 0) := by
  unfold U.dayTo
  rw [hours_succ]
  grind
theorem dayTo_zero (u : U) (plan ran : List Bool) (gs : List Rat) : u.dayTo plan ran gs 0 = ((u.start : Int) : Rat) * ((u.starts plan : Int) : Rat) := by
  unfold U.dayTo U.hours
  grind
/-- The sizes of the sums. -/
theorem sz_dayTo {u : U} (h : u.ok = true) {plan ran : List Bool} {gs : List Rat} {K : Nat} (hp : plan.length ≤ 8) (hz : ∀ i, i < gs.length → Sz K (gs.getD i 0)) : ∀ k, k ≤ gs.length → Sz (2 + k * (K + 8)) (u.dayTo plan ran gs k)
  | 0, _ => by
    have hb := ustarts_bd u plan
    have g := U.good h
    obtain ⟨⟩ := g
    rw [dayTo_zero]
    exact ((sz_small (z := u.start) (by omega) (by omega)).mul (sz_small (z := u.starts plan) (by omega) (by omega))).mono (by omega)
  | k + 1, hk => by
    have ih := sz_dayTo (ran := ran) h hp hz k (by omega)
    have g := U.good h
    obtain ⟨⟩ := g
    rw [dayTo_succ]
    have h1 : Sz 1 (if ran.getD k false then ((u.idle : Int) : Rat) else 0) := by
      split
      · exact sz_small (by omega) (by omega)
      · exact sz_zero
    have h2 := szL_costV (xs := u.steps) (hz k (by omega))
    refine ((ih.add h1).add h2).mono ?_
    rw [Nat.succ_mul]
    omega
theorem sz_dayV {u : U} {plan ran : List Bool} {gs : List Rat} {K : Nat} (hz : ∀ i, i < gs.length → Sz K (gs.getD i 0)) : Sz (2 + 8 * (K + 8)) (u.dayV plan ran gs) := by
  unfold U.dayV
  split
  · obtain ⟨h1, h2, h3, h4, h5⟩ := dayE_zero.1 ‹_›
    rw [← h4]
    exact (sz_dayTo h1 h2 hz gs.length (Nat.le_refl _)).mono (by have := Nat.mul_le_mul_right (K + 8) (show gs.length ≤ 8 by omega); omega)
  · exact sz_zero.mono (by omega)

/-- The unit with another state at the start. -/
def U.onAt (u : U) (s : Int) : U := { u with on := s }
theorem onAt_ok {u : U} (h : u.ok = true) {s : Int} (hs : s = 1 ∨ s = -1) : (u.onAt s).ok = true := by
  have h0 : u.check 6 = 0 := of_decide_eq_true h
  unfold U.check at h0
  refine decide_eq_true ?_
  unfold U.check
  show (if u.okBus 6 then (if chk true u.steps = 0 then (if u.okMin && u.okHold && u.okMoney && u.okSpin && (u.onAt s).okOn then 0 else 1) else chk true u.steps) else 1) = 0
  have ho : (u.onAt s).okOn = true := by
    show (decide (s ≠ 0) && decide (-6 ≤ s) && decide (s ≤ 6)) = true
    rcases hs with rfl | rfl <;> rfl
  rw [ho]
  by_cases hb : u.okBus 6 = true
  · rw [if_pos hb] at h0 ⊢
    by_cases hc : chk true u.steps = 0
    · rw [if_pos hc] at h0 ⊢
      by_cases hr : (u.okMin && u.okHold && u.okMoney && u.okSpin && u.okOn) = true
      · simp only [Bool.and_eq_true] at hr
        rw [if_pos (by simp only [Bool.and_eq_true]; exact ⟨⟨⟨⟨hr.1.1.1.1, hr.1.1.1.2⟩, hr.1.1.2⟩, hr.1.2⟩, trivial⟩)]
      · rw [if_neg hr] at h0; omega
    · rw [if_neg hc] at h0; omega
  · rw [if_neg hb] at h0; omega
theorem startsFrom_split : ∀ (xs : List Bool) (p : Bool) (k : Nat), 0 < k → k ≤ xs.length → startsFrom p xs = startsFrom p (xs.take k) + startsFrom (xs.getD (k - 1) false) (xs.drop k)
  | [], _, k, h, hk => by simp at hk; omega
  | b :: r, p, 1, _, _ => by simp [startsFrom]
  | b :: r, p, k + 2, _, hk => by
    have ih := startsFrom_split r b (k + 1) (by omega) (by simpa using hk)
    simp only [List.take_succ_cons, List.drop_succ_cons, startsFrom] at ih ⊢
    rw [ih]
    have e : (b :: r).getD (k + 2 - 1) false = r.getD (k + 1 - 1) false := rfl
    rw [e]
    omega
theorem hours_take (u : U) (ran : List Bool) (gs : List Rat) (m : Nat) : ∀ k, k ≤ m → u.hours (ran.take m) (gs.take m) k = u.hours ran gs k
  | 0, _ => rfl
  | k + 1, hk => by
    rw [hours_succ, hours_succ, hours_take u ran gs m k (by omega)]
    have e1 : (ran.take m).getD k false = ran.getD k false := by simp [List.getD, show k < m by omega]
    have e2 : (gs.take m).getD k 0 = gs.getD k 0 := by simp [List.getD, show k < m by omega]
    rw [e1, e2]
theorem hours_drop (u : U) (ran : List Bool) (gs : List Rat) (m : Nat) : ∀ k, u.hours ran gs (m + k) = u.hours ran gs m + u.hours (ran.drop m) (gs.drop m) k
  | 0 => by show _ = _ + (0 : Rat); rw [Nat.add_zero]; grind
  | k + 1 => by
    rw [← Nat.add_assoc, hours_succ, hours_succ, hours_drop u ran gs m k]
    have e1 : (ran.drop m).getD k false = ran.getD (m + k) false := by simp [List.getD]
    have e2 : (gs.drop m).getD k 0 = gs.getD (m + k) 0 := by simp [List.getD]
    rw [e1, e2]
    grind
theorem onAt_hours (u : U) (s : Int) (ran : List Bool) (gs : List Rat) : ∀ k, (u.onAt s).hours ran gs k = u.hours ran gs k
  | 0 => rfl
  | k + 1 => by rw [hours_succ, hours_succ, onAt_hours u s ran gs k]; rfl
/-- The state behind a part of a day. -/
def onOf (plan : List Bool) (k : Nat) : Int := if plan.getD (k - 1) false then 1 else -1
/-- A day's two parts. -/
theorem day_split {u : U} {plan ran : List Bool} {gs : List Rat} (h : u.dayE plan ran gs = 0) {k : Nat} (h0 : 0 < k) (hk : k ≤ plan.length) :
    u.dayE (plan.take k) (ran.take k) (gs.take k) = 0 ∧ (u.onAt (onOf plan k)).dayE (plan.drop k) (ran.drop k) (gs.drop k) = 0 ∧
      u.dayV (plan.take k) (ran.take k) (gs.take k) + (u.onAt (onOf plan k)).dayV (plan.drop k) (ran.drop k) (gs.drop k) = u.dayV plan ran gs := by
  obtain ⟨hok, h8, hr, hg, hh⟩ := dayE_zero.1 h
  have hon : onOf plan k = 1 ∨ onOf plan k = -1 := by unfold onOf; split <;> simp
  have e1 : u.dayE (plan.take k) (ran.take k) (gs.take k) = 0 := by
    refine dayE_zero.2 ⟨hok, by simp; omega, by simp [hr], by simp [hg], fun i hi => ?_⟩
    have hi2 : i < k := by simp at hi; omega
    rw [show (ran.take k).getD i false = ran.getD i false by simp [List.getD, hi2], show (gs.take k).getD i 0 = gs.getD i 0 by simp [List.getD, hi2]]
    exact hh i (by omega)
  have e2 : (u.onAt (onOf plan k)).dayE (plan.drop k) (ran.drop k) (gs.drop k) = 0 := by
    refine dayE_zero.2 ⟨onAt_ok hok hon, by simp; omega, by simp [hr], by simp [hg], fun i hi => ?_⟩
    have hi2 : k + i < plan.length := by simp at hi; omega
    rw [show (ran.drop k).getD i false = ran.getD (k + i) false by simp [List.getD], show (gs.drop k).getD i 0 = gs.getD (k + i) 0 by simp [List.getD]]
    exact hh (k + i) hi2
  refine ⟨e1, e2, ?_⟩
  unfold U.dayV
  rw [if_pos e1, if_pos e2, if_pos h]
  unfold U.dayTo
  have l1 : (plan.take k).length = k := by simp; omega
  have l2 : (plan.drop k).length = plan.length - k := by simp
  rw [l1, l2, hours_take u ran gs k k (Nat.le_refl _), onAt_hours]
  have e3 := hours_drop u ran gs k (plan.length - k)
  rw [show k + (plan.length - k) = plan.length by omega] at e3
  rw [e3]
  have s1 : u.starts plan = u.starts (plan.take k) + (u.onAt (onOf plan k)).starts (plan.drop k) := by
    unfold U.starts
    rw [if_pos hok, if_pos hok, if_pos (onAt_ok hok hon), startsFrom_split plan _ k h0 hk]
    have : decide (0 < (u.onAt (onOf plan k)).on) = plan.getD (k - 1) false := by
      show decide (0 < onOf plan k) = _
      unfold onOf
      cases plan.getD (k - 1) false <;> rfl
    rw [this]
  have s2 : (u.onAt (onOf plan k)).start = u.start := rfl
  rw [s2, s1, Rat.intCast_add]
  grind
theorem startsFrom_off : ∀ (p : Bool) (k : Nat), startsFrom p (List.replicate k false) = 0
  | _, 0 => rfl
  | p, k + 1 => by
    show (if false && !p then 1 else 0) + startsFrom false (List.replicate k false) = 0
    rw [startsFrom_off false k]
    simp
theorem costV_zero (xs : List (Int × Int)) : costV xs 0 = 0 := by
  have hp : ∀ (l : List (Int × Int)), (∀ x ∈ l, 1 ≤ x.1 ∧ x.1 ≤ 1000000 ∧ -1000000 ≤ x.2 ∧ x.2 ≤ 1000000) → restR 0 l = 0 := by
    intro l
    induction l with
    | nil => intro _; rfl
    | cons x l ih =>
      intro h
      have h1 := h x List.mem_cons_self
      show restR (0 - minQ 0 (x.1 : Rat)) l = 0
      have : minQ 0 ((x.1 : Int) : Rat) = 0 := by
        unfold minQ
        rw [if_neg]
        have : ((0 : Int) : Rat) ≤ (x.1 : Rat) := Rat.intCast_le_intCast.2 (by omega)
        simpa [Rat.not_lt] using this
      rw [this, show (0 : Rat) - 0 = 0 by grind]
      exact ih fun y hy => h y (List.mem_cons_of_mem _ hy)
  unfold costV
  split
  · obtain ⟨_, _, hr⟩ := crv_range (allocE_range ‹_›)
    have : ∀ k, k ≤ xs.length → costTo 0 xs k = 0 := by
      intro k
      induction k with
      | zero => intro _; rfl
      | succ k ih =>
        intro hk
        have h1 := hr (xs.getD k (0, 0)) (by simp [List.getD, show k < xs.length by omega])
        show costTo 0 xs k + partAt 0 xs k * (((xs.getD k (0, 0)).2 : Int) : Rat) = 0
        have : partAt 0 xs k = 0 := by
          unfold partAt
          rw [hp (xs.take k) fun x hx => hr x (List.mem_of_mem_take hx)]
          unfold minQ
          rw [if_neg]
          have : ((0 : Int) : Rat) ≤ ((xs.getD k (0, 0)).1 : Rat) := Rat.intCast_le_intCast.2 (by omega)
          simpa [Rat.not_lt] using this
        rw [this, ih (by omega)]
        grind
    exact this _ (Nat.le_refl _)
  · rfl
/-- A day off costs nothing. -/
theorem day_off {u : U} (h : u.ok = true) {k : Nat} (hk : k ≤ 8) : u.dayE (List.replicate k false) (List.replicate k false) (List.replicate k 0) = 0 ∧ u.dayV (List.replicate k false) (List.replicate k false) (List.replicate k 0) = 0 := by
  have ht : ¬ ((u.top : Int) : Rat) < 0 := by
    have := total_bd u.steps
    unfold U.top
    rw [Rat.not_lt]
    have h1 : ((0 : Int) : Rat) ≤ ((if chk true u.steps = 0 then total u.steps else 0 : Int) : Rat) := Rat.intCast_le_intCast.2 (by split <;> omega)
    simpa using h1
  have e1 : u.dayE (List.replicate k false) (List.replicate k false) (List.replicate k 0) = 0 := by
    refine dayE_zero.2 ⟨h, by simpa using hk, by simp, by simp, fun i hi => ?_⟩
    have hi2 : i < k := by simpa using hi
    rw [show (List.replicate k (0 : Rat)).getD i 0 = 0 by simp [List.getD, hi2]]
    exact ⟨by decide, ht, fun _ => rfl⟩
  refine ⟨e1, ?_⟩
  unfold U.dayV
  rw [if_pos e1]
  unfold U.dayTo
  have hh : ∀ j, u.hours (List.replicate k false) (List.replicate k 0) j = 0 := by
    intro j
    induction j with
    | zero => rfl
    | succ j ih =>
      rw [hours_succ, ih]
      have a1 : (List.replicate k false).getD j false = false := by simp only [List.getD]; by_cases hj : j < k <;> simp [hj]
      have a2 : (List.replicate k (0 : Rat)).getD j 0 = 0 := by simp only [List.getD]; by_cases hj : j < k <;> simp [hj]
      rw [a1, a2, costV_zero]
      simp
      grind
  rw [hh]
  have : u.starts (List.replicate k false) = 0 := by
    unfold U.starts
    rw [if_pos h]
    exact startsFrom_off _ k
  rw [this]
  simp
  grind
end Go.Proofs.Ytfokholpgakjpaa
