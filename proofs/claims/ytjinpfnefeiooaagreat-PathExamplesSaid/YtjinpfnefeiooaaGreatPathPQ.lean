/- A part of the proof. -/
import Derived.Test.YtjinpfnefeiooaaGreatCurveP
import Derived.Test.YtjinpfnefeiooaaGreatUnits
namespace Go.Proofs.YtjinpfnefeiooaaGreat
open Go.RowKit

def U.hq (u : U) (p : Rat) : Int := max (wantL true u.steps p) u.mn
def U.hp (u : U) (p : Rat) : Rat := p * ((u.hq p : Int) : Rat) - (costV u.steps ((u.hq p : Int) : Rat) + ((u.idle : Int) : Rat))
theorem total_is {xs : List (Int × Int)} (h : crv xs = 0) : total xs = sumQ xs := by unfold total; rw [if_pos h]
theorem U.okm {u : U} (h : u.ok = true) : 0 ≤ u.mn ∧ u.mn ≤ total u.steps := by
 replace h : u.check 6 = 0 := of_decide_eq_true h
 unfold U.check at h
 by_cases hb : u.okBus 6 = true
 ·rw [if_pos hb] at h
  by_cases hc : chk true u.steps = 0
  ·rw [if_pos hc] at h
   by_cases hr : (u.okMin && u.okHold && u.okMoney && u.okSpin && u.okOn) = true
   ·simp only [U.okMin, U.okHold, U.okMoney, U.okSpin, U.okOn, Bool.and_eq_true, decide_eq_true_eq] at hr
    omega
   ·rw [if_neg hr] at h; omega
  ·rw [if_neg hc] at h; omega
 ·rw [if_neg hb] at h; omega
theorem wantL_bd {u : U} (h : u.ok = true) (p : Rat) : 0 ≤ wantL true u.steps p ∧ wantL true u.steps p ≤ total u.steps := by
 have hc := U.chk0 h
 have hv := crv_of_chk hc
 have hw := will_bd (-1) p (crv_range hv).2.2
 unfold wantL
 rw [if_pos hc, total_is hv]
 simp only [if_true]
 omega
theorem U.hq_range {u : U} (h : u.ok = true) (p : Rat) : 0 ≤ u.hq p ∧ u.mn ≤ u.hq p ∧ u.hq p ≤ total u.steps ∧ u.hq p ≤ 3000000 := by
 have h1 := wantL_bd h p
 have h2 := U.okm h
 have h3 := total_bd u.steps
 unfold U.hq
 omega
theorem alloc_at {u : U} (h : u.ok = true) {q : Rat} (h0 : 0 ≤ q) (h1 : q ≤ ((total u.steps : Int) : Rat)) : allocE u.steps q = 0 := by
 have hv := crv_of_chk (U.chk0 h)
 rw [total_is hv] at h1
 exact alloc_ok.2 ⟨hv, h0, h1⟩
theorem U.hq_alloc {u : U} (h : u.ok = true) (p : Rat) : allocE u.steps ((u.hq p : Int) : Rat) = 0 := by
 have h1 := u.hq_range h p
 exact alloc_at h (Rat.intCast_nonneg.2 h1.1) (Rat.intCast_le_intCast.2 h1.2.2.1)
structure Ch where
 v : Rat
 on : Bool
 after : Int
def Ch.zero : Ch := ⟨0, false, 0⟩
def U.chOff (u : U) (later : Int → Ch) (s : Int) : Ch := if u.nextGB s false then ⟨(later (u.nextG s false)).v, false, u.nextG s false⟩ else Ch.zero
def U.onV (u : U) (g : Rat) (later : Int → Ch) (s : Int) : Rat := if s < 0 then g + (later (u.nextG s true)).v - ((u.start : Int) : Rat) else g + (later (u.nextG s true)).v
def U.choice (u : U) (g : Rat) (later : Int → Ch) (s : Int) : Ch :=
 if u.nextGB s true then (if u.nextGB s false = false ∨ (u.chOff later s).v < u.onV g later s then ⟨u.onV g later s, true, u.nextG s true⟩ else u.chOff later s) else u.chOff later s
def U.dp (u : U) : List Rat → Int → Ch
 | [], _ => Ch.zero
 | p :: ps, s => u.choice (u.hp p) (u.dp ps) s
def U.path (u : U) : List Rat → Int → List Bool
 | [], _ => []
 | p :: ps, s => (u.dp (p :: ps) s).on :: u.path ps (u.dp (p :: ps) s).after
def U.pv (u : U) : List Rat → List Bool → Int → Rat
 | p :: ps, b :: r, s => (if b then u.hp p - (if s < 0 then ((u.start : Int) : Rat) else 0) else 0) + u.pv ps r (u.next s b)
 | _, _, _ => 0
def lexAfter : List Bool → List Bool → Prop
 | a :: r, b :: t => if a = b then lexAfter r t else a = true
 | _, _ => True
theorem nextG_is {u : U} (h : u.ok = true) {s : Int} (hs : u.isState s = true) (on : Bool) : u.nextG s on = u.next s on := by unfold U.nextG; rw [h, hs]; rfl
theorem nextGB_is {u : U} (h : u.ok = true) {s : Int} (hs : u.isState s = true) (on : Bool) : u.nextGB s on = decide (u.next s on ≠ 0) := by unfold U.nextGB; rw [nextG_is h hs]
theorem next_some {u : U} (g : u.Good) {s : Int} (hs : u.isState s = true) : u.next s true ≠ 0 ∨ u.next s false ≠ 0 := by
 obtain ⟨⟩ := g
 simp only [U.isState, Bool.and_eq_true, decide_eq_true_eq] at hs
 by_cases h : 0 < s
 ·left; unfold U.next; rw [if_pos rfl, if_pos h]; omega
 ·right; unfold U.next; rw [if_neg (by simp), if_pos (by omega)]; omega
theorem feas_cons {u : U} {s : Int} {b : Bool} {r : List Bool} (h : u.feasFrom s (b :: r) = true) : u.next s b ≠ 0 ∧ u.feasFrom (u.next s b) r = true := by
 unfold U.feasFrom at h
 by_cases e : u.next s b = 0
 ·rw [if_pos e] at h; cases h
 ·rw [if_neg e] at h; exact ⟨e, h⟩
theorem feas_mk {u : U} {s : Int} {b : Bool} {r : List Bool} (h1 : u.next s b ≠ 0) (h2 : u.feasFrom (u.next s b) r = true) : u.feasFrom s (b :: r) = true := by
 unfold U.feasFrom
 rw [if_neg h1]; exact h2
theorem onV_is {u : U} (h : u.ok = true) {s : Int} (hs : u.isState s = true) (g : Rat) (later : Int → Ch) :
  u.onV g later s = (g - (if s < 0 then ((u.start : Int) : Rat) else 0)) + (later (u.next s true)).v := by
 unfold U.onV
 rw [nextG_is h hs]
 split
 ·grind
 ·grind
theorem dp_main {u : U} (h : u.ok = true) : ∀ (ps : List Rat) (s : Int), u.isState s = true →
  u.feasFrom s (u.path ps s) = true ∧ (u.path ps s).length = ps.length ∧ u.pv ps (u.path ps s) s = (u.dp ps s).v ∧
  ∀ r : List Bool, r.length = ps.length → u.feasFrom s r = true → u.pv ps r s ≤ (u.dp ps s).v ∧ (u.pv ps r s = (u.dp ps s).v → lexAfter r (u.path ps s))
 | [], s, _ => ⟨rfl, rfl, rfl, fun r hr _ => by
   have : r = [] := by cases r; rfl; simp at hr
   subst this
   exact ⟨Rat.le_refl, fun _ => trivial⟩⟩
 | p :: ps, s, hs => by
  have g := U.good h
  have hsome := next_some g hs
  have hdp : u.dp (p :: ps) s = u.choice (u.hp p) (u.dp ps) s := rfl
  have hpa : u.path (p :: ps) s = (u.dp (p :: ps) s).on :: u.path ps (u.dp (p :: ps) s).after := rfl
  have hon := onV_is h hs (u.hp p) (u.dp ps)
  have IH := fun b (hb : u.next s b ≠ 0) => dp_main h ps (u.next s b) (U.next_state g hs hb)
  have hoff : u.next s false ≠ 0 → u.chOff (u.dp ps) s = ⟨(u.dp ps (u.next s false)).v, false, u.next s false⟩ := fun e => by
   unfold U.chOff
   rw [nextGB_is h hs, if_pos (by simpa using e), nextG_is h hs]
  have hpvT : ∀ r, u.pv (p :: ps) (true :: r) s = (u.hp p - (if s < 0 then ((u.start : Int) : Rat) else 0)) + u.pv ps r (u.next s true) := fun r => rfl
  have hpvF : ∀ r, u.pv (p :: ps) (false :: r) s = u.pv ps r (u.next s false) := fun r => by
   show (0 : Rat) + _ = _
   exact Rat.zero_add _
  by_cases hon1 : u.next s true ≠ 0 ∧ (u.next s false = 0 ∨ (u.dp ps (u.next s false)).v < u.onV (u.hp p) (u.dp ps) s)
  ·obtain ⟨h1, h2⟩ := hon1
   have hch : u.choice (u.hp p) (u.dp ps) s = ⟨u.onV (u.hp p) (u.dp ps) s, true, u.next s true⟩ := by
    unfold U.choice
    rw [nextGB_is h hs, if_pos (by simpa using h1), nextGB_is h hs, if_pos ?_, nextG_is h hs]
    rcases h2 with h2 | h2
    ·left; simp [h2]
    ·by_cases h3 : u.next s false = 0
     ·left; simp [h3]
     ·right; rw [hoff h3]; exact h2
   rw [hdp, hch] at hpa
   rw [hpa, hdp, hch]
   obtain ⟨a1, a2, a3, a4⟩ := IH true h1
   refine ⟨feas_mk h1 a1, by simp [a2], by rw [hpvT, hon, a3], ?_⟩
   intro r hr hf
   cases r with
   | nil => simp at hr
   | cons b r =>
    obtain ⟨f1, f2⟩ := feas_cons hf
    have hr' : r.length = ps.length := by simpa using hr
    cases b with
    | true =>
     obtain ⟨k1, k2⟩ := a4 r hr' f2
     rw [hpvT]
     show _ ≤ u.onV (u.hp p) (u.dp ps) s ∧ (_ = u.onV (u.hp p) (u.dp ps) s → _)
     rw [hon]
     refine ⟨by grind, fun e => ?_⟩
     have e2 : u.pv ps r (u.next s true) = (u.dp ps (u.next s true)).v := by grind
     simp only [lexAfter, if_true]
     exact k2 e2
    | false =>
     obtain ⟨_, _, _, b4⟩ := IH false f1
     obtain ⟨k1, _⟩ := b4 r hr' f2
     rw [hpvF]
     show _ ≤ u.onV (u.hp p) (u.dp ps) s ∧ (_ = u.onV (u.hp p) (u.dp ps) s → _)
     have h3 : (u.dp ps (u.next s false)).v < u.onV (u.hp p) (u.dp ps) s := by
      rcases h2 with h2 | h2
      ·exact absurd h2 f1
      ·exact h2
     have h4 := rlt_of_le_of_lt k1 h3
     exact ⟨Rat.le_of_lt h4, fun e => by rw [e] at h4; exact absurd h4 Rat.lt_irrefl⟩
  ·have h1 : u.next s false ≠ 0 := by
    rcases hsome with e | e
    ·intro e2; exact hon1 ⟨e, .inl e2⟩
    ·exact e
   have hle : u.next s true ≠ 0 → u.onV (u.hp p) (u.dp ps) s ≤ (u.dp ps (u.next s false)).v := fun e => Rat.not_lt.1 fun e2 => hon1 ⟨e, .inr e2⟩
   have hch : u.choice (u.hp p) (u.dp ps) s = ⟨(u.dp ps (u.next s false)).v, false, u.next s false⟩ := by
    unfold U.choice
    rw [hoff h1, nextGB_is h hs, nextGB_is h hs]
    split
    ·rename_i e
     rw [if_neg ?_]
     rintro (e2 | e2)
     ·simp [h1] at e2
     ·exact Rat.not_lt.2 (hle (by simpa using e)) e2
    ·rfl
   rw [hdp, hch] at hpa
   rw [hpa, hdp, hch]
   obtain ⟨a1, a2, a3, a4⟩ := IH false h1
   refine ⟨feas_mk h1 a1, by simp [a2], by rw [hpvF, a3], ?_⟩
   intro r hr hf
   cases r with
   | nil => simp at hr
   | cons b r =>
    obtain ⟨f1, f2⟩ := feas_cons hf
    have hr' : r.length = ps.length := by simpa using hr
    cases b with
    | false =>
     obtain ⟨k1, k2⟩ := a4 r hr' f2
     rw [hpvF]
     refine ⟨k1, fun e => ?_⟩
     simp only [lexAfter, if_true]
     exact k2 e
    | true =>
     obtain ⟨_, _, _, b4⟩ := IH true f1
     obtain ⟨k1, _⟩ := b4 r hr' f2
     rw [hpvT]
     have h3 := hle f1
     rw [hon] at h3
     refine ⟨?_, fun _ => by simp [lexAfter]⟩
     show _ ≤ (u.dp ps (u.next s false)).v
     grind
end Go.Proofs.YtjinpfnefeiooaaGreat
namespace Go.Proofs.YtjinpfnefeiooaaGreat
open Go.RowKit

def U.profTo (u : U) (ps : List Rat) (row : List Bool) : Nat → Rat
 | 0 => ((-u.start * u.starts row : Int) : Rat)
 | k + 1 => if row.getD k false = true then u.profTo ps row k + u.hp (ps.getD k 0) else u.profTo ps row k
def U.gainTo (u : U) (ps : List Rat) (row : List Bool) : Nat → Rat
 | 0 => 0
 | k + 1 => u.gainTo ps row k + (if row.getD k false = true then u.hp (ps.getD k 0) else 0)
theorem profTo_gain (u : U) (ps : List Rat) (row : List Bool) : ∀ k, u.profTo ps row k = ((-u.start * u.starts row : Int) : Rat) + u.gainTo ps row k
 | 0 => by simp only [U.profTo, U.gainTo, Rat.add_zero]
 | k + 1 => by
  simp only [U.profTo, U.gainTo, profTo_gain u ps row k]
  split
  ·grind
  ·grind
theorem gainTo_cons (u : U) (p : Rat) (ps : List Rat) (b : Bool) (r : List Bool) : ∀ k, u.gainTo (p :: ps) (b :: r) (k + 1) = (if b = true then u.hp p else 0) + u.gainTo ps r k
 | 0 => by simp only [U.gainTo, List.getD_cons_zero, Rat.zero_add, Rat.add_zero]
 | k + 1 => by
  rw [U.gainTo, gainTo_cons u p ps b r k]
  simp only [U.gainTo, List.getD_cons_succ, Rat.add_assoc]
theorem next_pos {u : U} (g : u.Good) {s : Int} (hs : u.isState s = true) {b : Bool} (hn : u.next s b ≠ 0) : decide (0 < u.next s b) = b := by
 obtain ⟨⟩ := g
 simp only [U.isState, Bool.and_eq_true, decide_eq_true_eq] at hs
 unfold U.next at *
 cases b
 ·simp only [Bool.false_eq_true, if_false] at *
  by_cases h1 : s < 0
  ·simp only [if_pos h1] at *; simp; omega
  ·simp only [if_neg h1] at *
   by_cases h2 : s = u.up
   ·simp only [if_pos h2] at *; simp
   ·simp only [if_neg h2] at *; omega
 ·simp only [if_true] at *
  by_cases h1 : 0 < s
  ·simp only [if_pos h1] at *; simp; omega
  ·simp only [if_neg h1] at *
   by_cases h2 : s = -u.down
   ·simp only [if_pos h2] at *; simp
   ·simp only [if_neg h2] at *; omega
theorem pv_gain {u : U} (h : u.ok = true) : ∀ (ps : List Rat) (row : List Bool) (s : Int), u.isState s = true → u.feasFrom s row = true → row.length = ps.length →
  u.pv ps row s = u.gainTo ps row ps.length - ((u.start * startsFrom (decide (0 < s)) row : Int) : Rat)
 | [], row, s, _, _, hl => by
  have : row = [] := by cases row; rfl; simp at hl
  subst this
  simp only [U.pv, U.gainTo, startsFrom, List.length_nil, Int.mul_zero]
  decide +kernel
 | p :: ps, [], s, _, _, hl => by simp at hl
 | p :: ps, b :: r, s, hs, hf, hl => by
  have g := U.good h
  obtain ⟨f1, f2⟩ := feas_cons hf
  have ih := pv_gain h ps r (u.next s b) (U.next_state g hs f1) f2 (by simpa using hl)
  rw [next_pos g hs f1] at ih
  have hs' := hs
  simp only [U.isState, Bool.and_eq_true, decide_eq_true_eq] at hs'
  rw [U.pv, List.length_cons, gainTo_cons, ih]
  simp only [startsFrom]
  cases b
  ·simp only [Bool.false_eq_true, if_false, Bool.false_and, Int.zero_add]
   grind
  ·by_cases h0 : 0 < s
   ·simp only [if_true, if_neg (show ¬ s < 0 by omega), decide_eq_true h0, Bool.not_true, Bool.and_false, Bool.false_eq_true, if_false, Int.zero_add]
    grind
   ·simp only [if_true, if_pos (show s < 0 by omega), decide_eq_false h0, Bool.not_false, Bool.and_true, Int.mul_add, Int.mul_one, Rat.intCast_add]
    grind
theorem init_pos {u : U} (g : u.Good) : decide (0 < u.init) = decide (0 < u.on) := by
 obtain ⟨⟩ := g
 unfold U.init
 by_cases h : 0 < u.on
 ·rw [decide_eq_true h, decide_eq_true (by omega)]
 ·rw [decide_eq_false h, decide_eq_false (by omega)]
theorem feas_parts {u : U} {row : List Bool} (h : u.feas row = true) : u.ok = true ∧ u.feasFrom u.init row = true := by
 unfold U.feas at h
 simpa using h
theorem feas_of {u : U} {row : List Bool} (h : u.ok = true) (hf : u.feasFrom u.init row = true) : u.feas row = true := by
 unfold U.feas
 rw [h, hf]; rfl
theorem prof_pv {u : U} {ps : List Rat} {row : List Bool} (hf : u.feas row = true) (hl : row.length = ps.length) : u.profTo ps row ps.length = u.pv ps row u.init := by
 obtain ⟨h, hf⟩ := feas_parts hf
 have g := U.good h
 rw [profTo_gain, pv_gain h ps row u.init (U.init_state g) hf hl, init_pos g]
 unfold U.starts
 rw [if_pos h, Int.neg_mul, Rat.intCast_neg]
 grind
theorem starts_len : ∀ (p : Bool) (row : List Bool), 0 ≤ startsFrom p row ∧ startsFrom p row ≤ row.length
 | _, [] => by simp [startsFrom]
 | p, b :: r => by
  have := starts_len b r
  simp only [startsFrom, List.length_cons]
  split <;> omega
theorem choice_after {u : U} (h : u.ok = true) {s : Int} (hs : u.isState s = true) (p : Rat) (ps : List Rat) : (u.dp (p :: ps) s).after = u.next s (u.dp (p :: ps) s).on ∧ u.next s (u.dp (p :: ps) s).on ≠ 0 := by
 have hm := dp_main h (p :: ps) s hs
 have hf := feas_cons (show u.feasFrom s ((u.dp (p :: ps) s).on :: u.path ps (u.dp (p :: ps) s).after) = true from hm.1)
 refine ⟨?_, hf.1⟩
 have hsome := next_some (U.good h) hs
 have hdp : u.dp (p :: ps) s = u.choice (u.hp p) (u.dp ps) s := rfl
 rw [hdp]
 unfold U.choice U.chOff
 rw [nextGB_is h hs, nextGB_is h hs, nextG_is h hs, nextG_is h hs]
 by_cases h1 : u.next s true = 0
 ·by_cases h2 : u.next s false = 0
  ·rcases hsome with e | e
   ·exact absurd h1 e
   ·exact absurd h2 e
  ·simp only [h1, h2, ne_eq, not_true, not_false_eq_true, decide_true, decide_false, Bool.false_eq_true, if_false, if_true]
 ·by_cases h2 : u.next s false = 0
  ·simp only [h1, h2, ne_eq, not_true, not_false_eq_true, decide_true, decide_false, Bool.false_eq_true, if_false, if_true, true_or]
  ·simp only [h1, h2, ne_eq, not_false_eq_true, decide_true, if_true, Bool.true_eq_false, false_or]
   split <;> rfl
theorem sz_hp {u : U} (h : u.ok = true) {K : Nat} {p : Rat} (hp : Sz K p) : Sz (K + 8028) (u.hp p) := by
 have h1 := u.hq_range h p
 have g := U.good h
 obtain ⟨⟩ := g
 have hq : Sz 1 ((u.hq p : Int) : Rat) := sz_small (by omega) (by omega)
 have hi : Sz 1 ((u.idle : Int) : Rat) := sz_small (by omega) (by omega)
 exact ((hp.mul hq).sub ((sz_costV (hq.mono (by omega))).add hi)).mono (by omega)
theorem sz_dp {u : U} (h : u.ok = true) {K : Nat} : ∀ (ps : List Rat), (∀ i, i < ps.length → Sz K (ps.getD i 0)) → ∀ s, Sz ((K + 8031) * ps.length + 1) (u.dp ps s).v
 | [], _, s => sz_zero
 | p :: ps, hk, s => by
  have hp : Sz K p := by simpa using hk 0 (by simp)
  have ih := sz_dp h ps fun i hi => by simpa using hk (i + 1) (by simpa using hi)
  have g := U.good h
  obtain ⟨⟩ := g
  have hst : Sz 1 ((u.start : Int) : Rat) := sz_small (by omega) (by omega)
  have hoff : Sz ((K + 8031) * (ps.length + 1) + 1) (u.chOff (u.dp ps) s).v := by
   unfold U.chOff
   split
   ·exact (ih _).mono (by rw [Nat.mul_add]; omega)
   ·exact sz_zero.mono (by omega)
  have hon : Sz ((K + 8031) * (ps.length + 1) + 1) (u.onV (u.hp p) (u.dp ps) s) := by
   have h1 := (sz_hp h hp).add (ih (u.nextG s true))
   unfold U.onV
   split
   ·exact (h1.sub hst).mono (by rw [Nat.mul_add]; omega)
   ·exact h1.mono (by rw [Nat.mul_add]; omega)
  show Sz ((K + 8031) * (ps.length + 1) + 1) (u.choice (u.hp p) (u.dp ps) s).v
  unfold U.choice
  split
  ·split
   ·exact hon
   ·exact hoff
  ·exact hoff
end Go.Proofs.YtjinpfnefeiooaaGreat
