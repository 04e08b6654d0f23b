/- Plain: a parser's state, lines and networks as read from a text. -/
import Derived.Test.YtnofbjcikfofgaaGreatTxP
namespace Go.Proofs.YtnofbjcikfofgaaGreat

/-- Offset and error. -/
structure PS where
  k : Int
  e : Int
def PS.adv (p : PS) (nx e : Int) : PS := if e = 0 then ⟨nx, 0⟩ else ⟨p.k, e⟩
def psE (l : Bs) (p : PS) (kd : Int) : PS := if p.e ≠ 0 then p else p.adv (expectT l p.k kd).nx (expectT l p.k kd).e
def psT (l : Bs) (p : PS) (kd : Int) : Tok := if p.e ≠ 0 then tok0 else (expectT l p.k kd).t
def psW (l : Bs) (p : PS) (wd : Bs) : PS := if p.e ≠ 0 then p else p.adv (ewordT l p.k wd).1 (ewordT l p.k wd).2
def psI (l : Bs) (p : PS) : PS := if p.e ≠ 0 then p else p.adv (eintT l p.k).2.1 (eintT l p.k).2.2
def psV (l : Bs) (p : PS) : Int := if p.e ≠ 0 then 0 else (eintT l p.k).1
def psMore (l : Bs) (p : PS) : Bool := decide (p.e = 0) && peekT l p.k 1
/-- n integers -/
def psIs (l : Bs) : Nat → PS → PS
  | 0, p => p
  | n + 1, p => psIs l n (psI l p)
def psVs (l : Bs) : Nat → PS → List Int
  | 0, _ => []
  | n + 1, p => psV l p :: psVs l n (psI l p)

/- where a text may be read -/
theorem endC_ge (p : UInt8 → Bool) (l : Bs) (k : Nat) : k ≤ endC p l k := by unfold endC; omega
theorem endC_len {p : UInt8 → Bool} {l : Bs} {k : Nat} (h : k ≤ l.length) : endC p l k ≤ l.length := by
  unfold endC
  have := (List.takeWhile_sublist (l := l.drop k) p).length_le
  rw [List.length_drop] at this
  omega
theorem runT_ok {r : Bs} {b : Nat} (h : (runT r b).e = 0) : (runT r b).nx = b ∧ r ≠ [] := by
  unfold runT at h ⊢
  by_cases h1 : allC isLow r = true
  · rw [if_pos h1]
    exact ⟨rfl, (allC_all h1).2⟩
  · rw [if_neg h1] at h ⊢
    by_cases h2 : (!allC isNumr r) = true
    · rw [if_pos h2] at h; cases h
    · rw [if_neg h2] at h ⊢
      by_cases h3 : qE r ≠ 0
      · rw [if_pos h3] at h; exact absurd h h3
      · rw [if_neg h3]
        have h4 : allC isNumr r = true := by simpa using h2
        exact ⟨rfl, (allC_all h4).2⟩
theorem nextT_ok {l : Bs} {k : Int} (h : (nextT l k).e = 0) : 0 ≤ k ∧ k < (nextT l k).nx ∧ (nextT l k).nx ≤ l.length := by
  unfold nextT at h ⊢
  by_cases h1 : 65536 < l.length
  · rw [if_pos h1] at h; cases h
  · rw [if_neg h1] at h ⊢
    by_cases h2 : k < 0 ∨ (l.length : Int) < k
    · rw [if_pos h2] at h; cases h
    · rw [if_neg h2] at h ⊢
      have g1 := endC_ge isSep l k.toNat
      have g2 := endC_len (p := isSep) (l := l) (k := k.toNat) (by omega)
      generalize endC isSep l k.toNat = a at *
      unfold nextC at h ⊢
      by_cases h3 : a = l.length
      · rw [if_pos h3] at h; cases h
      · rw [if_neg h3] at h ⊢
        by_cases h4 : l.getD a 0 = 40
        · rw [if_pos h4]; simp only; omega
        · rw [if_neg h4] at h ⊢
          by_cases h5 : l.getD a 0 = 41
          · rw [if_pos h5]; simp only; omega
          · rw [if_neg h5] at h ⊢
            obtain ⟨e1, e2⟩ := runT_ok h
            rw [e1]
            have g3 := endC_len (p := isRun) (l := l) (k := a) g2
            have g4 : a < endC isRun l a := by
              unfold endC
              have : 0 < ((l.drop a).takeWhile isRun).length := List.length_pos_iff.2 e2
              omega
            omega
/-- A token of a kind that is asked for is read. -/
theorem expectT_rd {l : Bs} {k : Int} {t : Tok} {m : Int} (h : nextT l k = ⟨t, m, 0⟩) : expectT l k t.kind = ⟨t, m, 0⟩ := by
  unfold expectT
  rw [h]
  simp
theorem expectT_ok {l : Bs} {k kd : Int} (h : (expectT l k kd).e = 0) : (nextT l k).e = 0 ∧ (nextT l k).t.kind = kd ∧ expectT l k kd = nextT l k := by
  unfold expectT at h ⊢
  by_cases h1 : (nextT l k).e = 8
  · rw [if_pos h1] at h; cases h
  · rw [if_neg h1] at h ⊢
    by_cases h2 : (nextT l k).e ≠ 0
    · rw [if_pos h2] at h; exact absurd h h2
    · rw [if_neg h2] at h ⊢
      by_cases h3 : (nextT l k).t.kind ≠ kd
      · rw [if_pos h3] at h; cases h
      · rw [if_neg h3]
        exact ⟨by omega, by omega, rfl⟩
theorem psE_rd {l : Bs} {k : Int} {t : Tok} {ts : List Tok} {k' : Int} (h : Rd l k (t :: ts) k') : ∃ m, psE l ⟨k, 0⟩ t.kind = ⟨m, 0⟩ ∧ Rd l m ts k' ∧ psT l ⟨k, 0⟩ t.kind = t := by
  obtain ⟨m, h1, h2⟩ := h
  refine ⟨m, ?_, h2, ?_⟩
  · unfold psE PS.adv
    rw [if_neg (by simp), expectT_rd h1]
    simp
  · unfold psT
    rw [if_neg (by simp), expectT_rd h1]
theorem psW_rd {l : Bs} {k : Int} {w : Bs} {ts : List Tok} {k' : Int} (h : Rd l k (tokW w :: ts) k') : ∃ m, psW l ⟨k, 0⟩ w = ⟨m, 0⟩ ∧ Rd l m ts k' := by
  obtain ⟨m, h1, h2⟩ := h
  refine ⟨m, ?_, h2⟩
  unfold psW PS.adv ewordT
  have := expectT_rd h1
  rw [show (tokW w).kind = 3 from rfl] at this
  rw [this]
  simp [tokW]
theorem psI_rd {l : Bs} {k : Int} {z : Int} {ts : List Tok} {k' : Int} (hz : -9223372036854775808 ≤ z ∧ z ≤ 9223372036854775807) (h : Rd l k (tokN (z : Rat) :: ts) k') : ∃ m, psI l ⟨k, 0⟩ = ⟨m, 0⟩ ∧ Rd l m ts k' ∧ psV l ⟨k, 0⟩ = z := by
  obtain ⟨m, h1, h2⟩ := h
  have he : eintT l k = (z, m, 0) := by
    unfold eintT
    have := expectT_rd h1
    rw [show (tokN (z : Rat)).kind = 4 from rfl] at this
    rw [this]
    have hb : i64B z = true := by unfold i64B; exact decide_eq_true hz
    simp [tokN, hb]
  refine ⟨m, ?_, h2, ?_⟩
  · unfold psI PS.adv
    rw [he]
    simp
  · unfold psV
    rw [he]
    simp
theorem psIs_rd {l : Bs} : ∀ {zs : List Int} {k : Int} {ts : List Tok} {k' : Int}, (∀ z ∈ zs, -9223372036854775808 ≤ z ∧ z ≤ 9223372036854775807) → Rd l k (zs.map (fun (z : Int) => tokN (z : Rat)) ++ ts) k' → ∃ m, psIs l zs.length ⟨k, 0⟩ = ⟨m, 0⟩ ∧ Rd l m ts k' ∧ psVs l zs.length ⟨k, 0⟩ = zs
  | [], k, ts, k', _, h => ⟨k, rfl, h, rfl⟩
  | z :: zs, k, ts, k', hz, h => by
    obtain ⟨m, h1, h2, h3⟩ := psI_rd (hz z (by simp)) h
    obtain ⟨m2, h4, h5, h6⟩ := psIs_rd (fun x hx => hz x (by simp [hx])) h2
    refine ⟨m2, ?_, h5, ?_⟩
    · rw [List.length_cons, psIs, h1, h4]
    · rw [List.length_cons, psVs, h1, h3, h6]
theorem peek_rd {l : Bs} {k : Int} {t : Tok} {ts : List Tok} {k' : Int} (h : Rd l k (t :: ts) k') (kd : Int) : peekT l k kd = decide (t.kind = kd) := by
  obtain ⟨m, h1, _⟩ := h
  unfold peekT
  rw [h1]
  simp
theorem rd_len {l : Bs} : ∀ {ts : List Tok} {k k' : Int}, Rd l k ts k' → k + ts.length ≤ k' ∧ (ts = [] ∨ (0 ≤ k ∧ k' ≤ l.length))
  | [], k, k', h => ⟨by rw [show k = k' from h]; simp, .inl rfl⟩
  | t :: ts, k, k', h => by
    obtain ⟨m, h1, h2⟩ := h
    have h0 := nextT_ok (l := l) (k := k) (by rw [h1])
    rw [h1] at h0
    have h3 := rd_len h2
    simp only [List.length_cons] at *
    refine ⟨by omega, .inr ⟨h0.1, ?_⟩⟩
    rcases h3.2 with e | e
    · rw [e] at h2
      rw [← show m = k' from h2]
      exact h0.2.2
    · exact e.2
end Go.Proofs.YtnofbjcikfofgaaGreat
