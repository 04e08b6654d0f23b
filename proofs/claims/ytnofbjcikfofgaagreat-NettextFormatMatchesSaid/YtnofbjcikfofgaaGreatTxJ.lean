/- Plain: what ParseNet and ParseOutage compute; where the parser stands. -/
import Derived.Test.YtnofbjcikfofgaaGreatTxO
namespace Go.Proofs.YtnofbjcikfofgaaGreat

def linesP (l : Bs) : Nat → PS → List (List Int) → PS × List (List Int)
  | 0, p, acc => (p, acc)
  | f + 1, p, acc => if psMore l p then linesP l f (lineP l p) (acc ++ [lineV l p]) else (p, acc)
/-- buses, lines, offset, error -/
structure NR where
  b : Int
  ls : List (List Int)
  nx : Int
  e : Int
def netE (l : Bs) (p : PS) (b : Int) (ls : List (List Int)) : Int := if (psE l p 2).e = 0 then netC b ls else (psE l p 2).e
def netEnd (l : Bs) (p : PS) (b : Int) (ls : List (List Int)) : NR := if netE l p b ls ≠ 0 then ⟨0, [], 0, netE l p b ls⟩ else ⟨b, ls, (psE l p 2).k, 0⟩
def netHd (l : Bs) (k : Int) : PS := psW l (psE l ⟨k, 0⟩ 1) [110, 101, 116]
def netR (l : Bs) (k : Int) : NR := netEnd l (linesP l (l.length + 2) (psI l (netHd l k)) []).1 (psV l (netHd l k)) (linesP l (l.length + 2) (psI l (netHd l k)) []).2
theorem nextT_small {l : Bs} {k : Int} (h : (nextT l k).e = 0) : l.length ≤ 65536 := by
  unfold nextT at h
  by_cases h1 : 65536 < l.length
  · rw [if_pos h1] at h; cases h
  · omega
/-- p' lies behind p. -/
def Aft (l : Bs) (p p' : PS) : Prop := p'.e = 0 → p.e = 0 ∧ p.k ≤ p'.k ∧ (p = p' ∨ (p.k < p'.k ∧ 0 ≤ p.k ∧ p'.k ≤ l.length))
theorem Aft.rfl {l : Bs} {p : PS} : Aft l p p := fun h => ⟨h, Int.le_refl _, .inl _root_.rfl⟩
theorem Aft.trans {l : Bs} {a b c : PS} (h : Aft l a b) (k : Aft l b c) : Aft l a c := fun e => by
  obtain ⟨k1, k2, k3⟩ := k e
  obtain ⟨h1, h2, h3⟩ := h k1
  refine ⟨h1, by omega, ?_⟩
  rcases h3 with rfl | ⟨h4, h5, h6⟩
  · exact k3
  · rcases k3 with rfl | ⟨k4, k5, k6⟩
    · exact .inr ⟨h4, h5, h6⟩
    · exact .inr ⟨by omega, h5, k6⟩
theorem aft_E (l : Bs) (p : PS) (kd : Int) : Aft l p (psE l p kd) ∧ ((psE l p kd).e = 0 → p.k < (psE l p kd).k ∧ p.e = 0 ∧ (nextT l p.k).e = 0) := by
  by_cases h0 : p.e ≠ 0
  · have e : psE l p kd = p := by unfold psE; rw [if_pos h0]
    rw [e]
    exact ⟨Aft.rfl, fun h => absurd h h0⟩
  · have e : psE l p kd = p.adv (expectT l p.k kd).nx (expectT l p.k kd).e := by unfold psE; rw [if_neg h0]
    rw [e]
    by_cases h1 : (expectT l p.k kd).e = 0
    · have h2 := expectT_ok h1
      have h3 := nextT_ok h2.1
      have e2 : p.adv (expectT l p.k kd).nx (expectT l p.k kd).e = ⟨(nextT l p.k).nx, 0⟩ := by unfold PS.adv; rw [if_pos h1, h2.2.2]
      rw [e2]
      exact ⟨fun _ => ⟨by omega, by simp only; omega, .inr ⟨by simp only; omega, h3.1, h3.2.2⟩⟩, fun _ => ⟨by simp only; omega, by omega, h2.1⟩⟩
    · have e2 : p.adv (expectT l p.k kd).nx (expectT l p.k kd).e = ⟨p.k, (expectT l p.k kd).e⟩ := by unfold PS.adv; rw [if_neg h1]
      rw [e2]
      exact ⟨fun h => absurd h h1, fun h => absurd h h1⟩
theorem aft_W (l : Bs) (p : PS) (wd : Bs) : Aft l p (psW l p wd) := by
  by_cases h0 : p.e ≠ 0
  · have e : psW l p wd = p := by unfold psW; rw [if_pos h0]
    rw [e]
    exact Aft.rfl
  · have e : psW l p wd = p.adv (ewordT l p.k wd).1 (ewordT l p.k wd).2 := by unfold psW; rw [if_neg h0]
    rw [e]
    by_cases h1 : (expectT l p.k 3).e = 0
    · have h2 := expectT_ok h1
      have h3 := nextT_ok h2.1
      unfold ewordT
      rw [if_neg (by omega)]
      by_cases h4 : (expectT l p.k 3).t.text ≠ wd
      · rw [if_pos h4]
        exact fun h => by simp [PS.adv] at h
      · rw [if_neg h4, h2.2.2]
        exact fun _ => ⟨by omega, by simp [PS.adv]; omega, .inr ⟨by simp [PS.adv]; omega, h3.1, by simp [PS.adv]; omega⟩⟩
    · unfold ewordT
      rw [if_pos h1]
      intro h
      unfold PS.adv at h
      rw [if_neg h1] at h
      exact absurd h h1
theorem aft_I (l : Bs) (p : PS) : Aft l p (psI l p) := by
  by_cases h0 : p.e ≠ 0
  · have e : psI l p = p := by unfold psI; rw [if_pos h0]
    rw [e]
    exact Aft.rfl
  · have e : psI l p = p.adv (eintT l p.k).2.1 (eintT l p.k).2.2 := by unfold psI; rw [if_neg h0]
    rw [e]
    by_cases h1 : (expectT l p.k 4).e = 0
    · have h2 := expectT_ok h1
      have h3 := nextT_ok h2.1
      unfold eintT
      rw [if_neg (by omega)]
      by_cases h4 : i64B (expectT l p.k 4).t.num.num = false ∨ (expectT l p.k 4).t.num.den ≠ 1
      · rw [if_pos h4]
        exact fun h => by simp [PS.adv] at h
      · rw [if_neg h4, h2.2.2]
        exact fun _ => ⟨by omega, by simp [PS.adv]; omega, .inr ⟨by simp [PS.adv]; omega, h3.1, by simp [PS.adv]; omega⟩⟩
    · unfold eintT
      rw [if_pos h1]
      intro h
      unfold PS.adv at h
      rw [if_neg h1] at h
      exact absurd h h1
theorem aft_Is (l : Bs) : ∀ (n : Nat) (p : PS), Aft l p (psIs l n p)
  | 0, _ => Aft.rfl
  | n + 1, p => (aft_I l p).trans (aft_Is l n (psI l p))
theorem aft_line (l : Bs) (p : PS) : Aft l p (lineP l p) := (((aft_E l p 1).1.trans (aft_W l _ _)).trans (aft_Is l 4 _)).trans (aft_E l _ 2).1
theorem line_lt {l : Bs} {p : PS} (h : (lineP l p).e = 0) : p.k < (lineP l p).k := by
  have h1 := (aft_E l (psIs l 4 (psW l (psE l p 1) [108, 105, 110, 101])) 2).2 h
  have h2 := (((aft_E l p 1).1.trans (aft_W l _ _)).trans (aft_Is l 4 _)) h1.2.1
  have h3 : (lineP l p).k = (psE l (psIs l 4 (psW l (psE l p 1) [108, 105, 110, 101])) 2).k := rfl
  omega
/-- How far the loop over the lines may still go. -/
def psF (l : Bs) (p : PS) : Nat := if p.e = 0 then l.length + 1 - p.k.toNat else 0
theorem more_spec {l : Bs} {p : PS} (h : psMore l p = true) : p.e = 0 ∧ 0 ≤ p.k ∧ p.k < l.length ∧ l.length ≤ 65536 := by
  unfold psMore peekT at h
  simp only [Bool.and_eq_true, decide_eq_true_eq] at h
  have h1 := nextT_ok h.2.1
  exact ⟨h.1, h1.1, by omega, nextT_small h.2.1⟩
theorem more_dec {l : Bs} {p : PS} (h : psMore l p = true) : psF l (lineP l p) < psF l p := by
  obtain ⟨h1, h2, h3, _⟩ := more_spec h
  unfold psF
  rw [if_pos h1]
  by_cases h4 : (lineP l p).e = 0
  · rw [if_pos h4]
    have := line_lt h4
    omega
  · rw [if_neg h4]
    omega
theorem linesP_more {l : Bs} {f : Nat} {p : PS} {acc : List (List Int)} (h : psMore l p = true) : linesP l (f + 1) p acc = linesP l f (lineP l p) (acc ++ [lineV l p]) := by
  rw [linesP, if_pos h]
theorem linesP_stop {l : Bs} {f : Nat} {p : PS} {acc : List (List Int)} (h : psMore l p = false) : linesP l f p acc = (p, acc) := by
  cases f with
  | zero => rfl
  | succ f => rw [linesP, if_neg (by rw [h]; simp)]
theorem psIs_len (l : Bs) : ∀ (n : Nat) (p : PS), (psVs l n p).length = n
  | 0, _ => rfl
  | n + 1, p => by rw [psVs, List.length_cons, psIs_len]
end Go.Proofs.YtnofbjcikfofgaaGreat
