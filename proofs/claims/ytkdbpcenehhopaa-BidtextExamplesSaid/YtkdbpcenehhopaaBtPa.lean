/- Plain: steps, units and bids as read from a text; their tokens; longer texts. By hand. Contracts of the methods of bidtext's parser (advance, word, integer, expect, step). Printed by gen_btl.py. The contracts of bidtext's list and checkBid. Printed by gen_btp.py. The contracts of bidtext's checkBid, ParseBid and ParseUnit. Printed by gen_btu.py. -/
import Derived.Test.YtkdbpcenehhopaaTxPC
import Derived.Test.YtkdbpcenehhopaaUnits
import Derived.Test.YtkdbpcenehhopaaTxL
import Derived.Test.YtkdbpcenehhopaaTxI
namespace Go.Proofs.Ytkdbpcenehhopaa
def stepP (l : Bs) (p : PS) : PS := psE l (psIs l 2 (psE l p 1)) 2
def stepV (l : Bs) (p : PS) : Int × Int := (psV l (psE l p 1), psV l (psI l (psE l p 1)))
def stepsP (l : Bs) : Nat → PS → List (Int × Int) → PS × List (Int × Int)
  | 0, p, acc => (p, acc)
  | f + 1, p, acc => if psMore l p then (if (stepP l p).e = 0 then stepsP l f (stepP l p) (acc ++ [stepV l p]) else (stepP l p, acc)) else (p, acc)
theorem stepsP_more {l : Bs} {f : Nat} {p : PS} {acc : List (Int × Int)} (h : psMore l p = true) (h0 : (stepP l p).e = 0) : stepsP l (f + 1) p acc = stepsP l f (stepP l p) (acc ++ [stepV l p]) := by
  rw [stepsP, if_pos h, if_pos h0]
theorem stepsP_bad {l : Bs} {f : Nat} {p : PS} {acc : List (Int × Int)} (h : psMore l p = true) (h0 : ¬ (stepP l p).e = 0) : stepsP l (f + 1) p acc = (stepP l p, acc) := by
  rw [stepsP, if_pos h, if_neg h0]
theorem stepsP_stop {l : Bs} {f : Nat} {p : PS} {acc : List (Int × Int)} (h : psMore l p = false) : stepsP l f p acc = (p, acc) := by
  cases f with
  | zero => rfl
  | succ f => rw [stepsP, if_neg (by rw [h]; simp)]
/-- the steps and the closing parenthesis -/
def listP (l : Bs) (p : PS) : PS := (stepsP l (l.length + 2) p []).1
def listV (l : Bs) (p : PS) : List (Int × Int) := (stepsP l (l.length + 2) p []).2
structure UR where
  u : U
  nx : Int
  e : Int
def U0 : U := ⟨0, 0, 0, 0, 0, 0, 0, 0, []⟩
def unitU (zs : List Int) (xs : List (Int × Int)) : U := ⟨zs.getD 0 0, zs.getD 1 0, zs.getD 2 0, zs.getD 3 0, zs.getD 4 0, zs.getD 5 0, zs.getD 6 0, zs.getD 7 0, xs⟩
def unitZs (u : U) : List Int := [u.bus, u.mn, u.up, u.down, u.start, u.idle, u.spin, u.on]
theorem unitU_back (u : U) : unitU (unitZs u) u.steps = u := rfl
def unitEnd (p : PS) (u : U) : UR := if p.e ≠ 0 then ⟨U0, 0, p.e⟩ else if u.check 6 ≠ 0 then ⟨U0, 0, u.check 6⟩ else ⟨u, p.k, 0⟩
def unitHd (l : Bs) (k : Int) : PS := psW l (psE l ⟨k, 0⟩ 1) [117, 110, 105, 116]
def unitR (l : Bs) (k : Int) : UR := unitEnd (psE l (listP l (psIs l 8 (unitHd l k))) 2) (unitU (psVs l 8 (unitHd l k)) (listV l (psIs l 8 (unitHd l k))))
structure BR where
  b : Int
  xs : List (Int × Int)
  nx : Int
  e : Int
def bidC (b : Int) (xs : List (Int × Int)) : Int := if b < 0 ∨ 6 ≤ b then 1 else chk false xs
def bidEnd (p : PS) (b : Int) (xs : List (Int × Int)) : BR := if p.e ≠ 0 then ⟨0, [], 0, p.e⟩ else if bidC b xs ≠ 0 then ⟨0, [], 0, bidC b xs⟩ else ⟨b, xs, p.k, 0⟩
def bidHd (l : Bs) (k : Int) : PS := psW l (psE l ⟨k, 0⟩ 1) [98, 105, 100]
def bidR (l : Bs) (k : Int) : BR := bidEnd (psE l (listP l (psI l (bidHd l k))) 2) (psV l (bidHd l k)) (listV l (psI l (bidHd l k)))
/- where the parser stands -/
theorem aft_step (l : Bs) (p : PS) : Aft l p (stepP l p) := ((aft_E l p 1).1.trans (aft_Is l 2 _)).trans (aft_E l _ 2).1
theorem step_lt {l : Bs} {p : PS} (h : (stepP l p).e = 0) : p.k < (stepP l p).k := by
  have h1 := (aft_E l (psIs l 2 (psE l p 1)) 2).2 h
  have h2 := ((aft_E l p 1).1.trans (aft_Is l 2 _)) h1.2.1
  have h3 : (stepP l p).k = (psE l (psIs l 2 (psE l p 1)) 2).k := rfl
  omega
theorem sdec {l : Bs} {p : PS} (h : psMore l p = true) : psF l (stepP l p) < psF l p := by
  obtain ⟨h1, h2, h3, _⟩ := more_spec h
  unfold psF
  rw [if_pos h1]
  by_cases h4 : (stepP l p).e = 0
  · rw [if_pos h4]
    have := step_lt h4
    omega
  · rw [if_neg h4]
    omega
theorem aft_steps (l : Bs) : ∀ (f : Nat) (p : PS) (acc : List (Int × Int)), Aft l p (stepsP l f p acc).1
  | 0, p, acc => Aft.rfl
  | f + 1, p, acc => by
    by_cases hm : psMore l p = true
    · by_cases h0 : (stepP l p).e = 0
      · rw [stepsP_more hm h0]
        exact (aft_step l p).trans (aft_steps l f (stepP l p) (acc ++ [stepV l p]))
      · rw [stepsP_bad hm h0]
        exact aft_step l p
    · rw [stepsP_stop (by simpa using hm)]
      exact Aft.rfl
theorem unit_ok {l : Bs} {k : Int} : ((unitR l k).e = 0 → (unitR l k).u.check 6 = 0 ∧ k < (unitR l k).nx ∧ (unitR l k).nx ≤ l.length) ∧ ((unitR l k).e ≠ 0 → (unitR l k).u = U0 ∧ (unitR l k).nx = 0) := by
  unfold unitR
  have ha := (((aft_W l (psE l ⟨k, 0⟩ 1) [117, 110, 105, 116]).trans (aft_Is l 8 _)).trans (aft_steps l (l.length + 2) (psIs l 8 (unitHd l k)) [])).trans (aft_E l _ 2).1
  change Aft l (psE l ⟨k, 0⟩ 1) (psE l (listP l (psIs l 8 (unitHd l k))) 2) at ha
  generalize unitU (psVs l 8 (unitHd l k)) (listV l (psIs l 8 (unitHd l k))) = u at *
  generalize psE l (listP l (psIs l 8 (unitHd l k))) 2 = q at *
  unfold unitEnd
  by_cases h1 : q.e ≠ 0
  · rw [if_pos h1]
    exact ⟨fun h => absurd h h1, fun _ => ⟨rfl, rfl⟩⟩
  · rw [if_neg h1]
    by_cases h2 : u.check 6 ≠ 0
    · rw [if_pos h2]
      exact ⟨fun h => absurd h h2, fun _ => ⟨rfl, rfl⟩⟩
    · rw [if_neg h2]
      exact ⟨fun _ => ⟨by simpa using h2, aft_pos ha (by simpa using h1)⟩, fun h => absurd rfl h⟩
theorem bid_ok {l : Bs} {k : Int} : ((bidR l k).e = 0 → bidC (bidR l k).b (bidR l k).xs = 0 ∧ k < (bidR l k).nx ∧ (bidR l k).nx ≤ l.length) ∧ ((bidR l k).e ≠ 0 → (bidR l k).nx = 0) := by
  unfold bidR
  have ha := (((aft_W l (psE l ⟨k, 0⟩ 1) [98, 105, 100]).trans (aft_I l _)).trans (aft_steps l (l.length + 2) (psI l (bidHd l k)) [])).trans (aft_E l _ 2).1
  change Aft l (psE l ⟨k, 0⟩ 1) (psE l (listP l (psI l (bidHd l k))) 2) at ha
  generalize listV l (psI l (bidHd l k)) = xs at *
  generalize psV l (bidHd l k) = b at *
  generalize psE l (listP l (psI l (bidHd l k))) 2 = q at *
  unfold bidEnd
  by_cases h1 : q.e ≠ 0
  · rw [if_pos h1]
    exact ⟨fun h => absurd h h1, fun _ => rfl⟩
  · rw [if_neg h1]
    by_cases h2 : bidC b xs ≠ 0
    · rw [if_pos h2]
      exact ⟨fun h => absurd h h2, fun _ => rfl⟩
    · rw [if_neg h2]
      exact ⟨fun _ => ⟨by simpa using h2, aft_pos ha (by simpa using h1)⟩, fun h => absurd rfl h⟩
/- tokens -/
def stTok (x : Int × Int) : List Tok := [tokO, numT x.1, numT x.2, tokC]
def stepsToks (xs : List (Int × Int)) : List Tok := xs.flatMap stTok ++ [tokC]
def unitToks (u : U) : List Tok := tokO :: tokW [117, 110, 105, 116] :: ((unitZs u).map (fun (z : Int) => tokN (z : Rat)) ++ stepsToks u.steps)
def bidToks (b : Int) (xs : List (Int × Int)) : List Tok := tokO :: tokW [98, 105, 100] :: numT b :: stepsToks xs
theorem step_rd {l : Bs} {k k' : Int} {x : Int × Int} {ts : List Tok} (hi : I64r x.1 ∧ I64r x.2) (h : Rd l k (stTok x ++ ts) k') : psMore l ⟨k, 0⟩ = true ∧ ∃ m, stepP l ⟨k, 0⟩ = ⟨m, 0⟩ ∧ stepV l ⟨k, 0⟩ = x ∧ Rd l m ts k' := by
  have h1 : Rd l k (tokO :: tokN (x.1 : Rat) :: tokN (x.2 : Rat) :: (tokC :: ts)) k' := h
  refine ⟨?_, ?_⟩
  · unfold psMore
    rw [peek_rd h1 1]
    rfl
  · obtain ⟨m1, e1, h2, -⟩ := psE_rd h1
    obtain ⟨m2, e2, h3, v2⟩ := psI_rd hi.1 h2
    obtain ⟨m3, e3, h4, v3⟩ := psI_rd hi.2 h3
    obtain ⟨m4, e4, h5, -⟩ := psE_rd h4
    have f1 : psE l ⟨k, 0⟩ 1 = ⟨m1, 0⟩ := e1
    have f4 : psE l ⟨m3, 0⟩ 2 = ⟨m4, 0⟩ := e4
    refine ⟨m4, ?_, ?_, h5⟩
    · unfold stepP
      rw [f1, psIs, psIs, psIs, e2, e3, f4]
    · unfold stepV
      rw [f1, v2, e2, v3]
theorem steps_rd {l : Bs} : ∀ {xs : List (Int × Int)} {k k' : Int} {f : Nat} {acc : List (Int × Int)}, (∀ x ∈ xs, I64r x.1 ∧ I64r x.2) → Rd l k (stepsToks xs) k' → xs.length < f → ∃ m, stepsP l f ⟨k, 0⟩ acc = (⟨m, 0⟩, acc ++ xs) ∧ psE l ⟨m, 0⟩ 2 = ⟨k', 0⟩
  | [], k, k', f, acc, _, h, _ => by
    have h1 : Rd l k (tokC :: []) k' := h
    have h2 : psMore l ⟨k, 0⟩ = false := by
      unfold psMore
      rw [peek_rd h1 1]
      rfl
    obtain ⟨m, e, h3, -⟩ := psE_rd h1
    have h4 : m = k' := h3
    exact ⟨k, by rw [stepsP_stop h2, List.append_nil], by rw [← h4]; exact e⟩
  | x :: xs, k, k', 0, acc, _, _, hf => by omega
  | x :: xs, k, k', f + 1, acc, hi, h, hf => by
    have h1 : Rd l k (stTok x ++ stepsToks xs) k' := by
      unfold stepsToks at h ⊢
      rw [← List.append_assoc]
      exact h
    obtain ⟨hm, m, e1, e2, h2⟩ := step_rd (hi x List.mem_cons_self) h1
    obtain ⟨m2, e3, h3⟩ := steps_rd (f := f) (acc := acc ++ [x]) (fun y hy => hi y (List.mem_cons_of_mem _ hy)) h2 (by simp at hf; omega)
    refine ⟨m2, ?_, h3⟩
    rw [stepsP_more hm (by rw [e1]), e1, e2, e3]
    simp
theorem stToks_len (xs : List (Int × Int)) : (xs.flatMap stTok).length = xs.length * 4 := by
  induction xs with
  | nil => rfl
  | cons x r ih => rw [List.flatMap_cons, List.length_append, ih, List.length_cons]; simp [stTok]; omega
theorem list_rd {l : Bs} {xs : List (Int × Int)} {k k' : Int} (hi : ∀ x ∈ xs, I64r x.1 ∧ I64r x.2) (h : Rd l k (stepsToks xs) k') : psE l (listP l ⟨k, 0⟩) 2 = ⟨k', 0⟩ ∧ listV l ⟨k, 0⟩ = xs := by
  have hlen := rd_len h
  have hll : xs.length < l.length + 2 := by
    have h1 : (stepsToks xs).length = xs.length * 4 + 1 := by unfold stepsToks; rw [List.length_append, stToks_len]; rfl
    rcases hlen.2 with e | ⟨_, h2⟩
    · rw [e] at h1; simp at h1
    · have h3 := hlen.1
      omega
  obtain ⟨m, e1, e2⟩ := steps_rd (acc := []) hi h hll
  unfold listP listV
  rw [e1]
  exact ⟨e2, rfl⟩
theorem unit_rd {l : Bs} {k k' : Int} {u : U} (hz : ∀ z ∈ unitZs u, I64r z) (hi : ∀ x ∈ u.steps, I64r x.1 ∧ I64r x.2) (h : Rd l k (unitToks u) k') : unitR l k = unitEnd ⟨k', 0⟩ u := by
  obtain ⟨m1, e1, h1, -⟩ := psE_rd h
  obtain ⟨m2, e2, h2⟩ := psW_rd h1
  obtain ⟨m3, e3, h3, ev⟩ := psIs_rd hz h2
  obtain ⟨e4, e5⟩ := list_rd hi h3
  have f1 : psE l ⟨k, 0⟩ 1 = ⟨m1, 0⟩ := e1
  have f3 : psIs l 8 ⟨m2, 0⟩ = ⟨m3, 0⟩ := e3
  have f4 : psVs l 8 ⟨m2, 0⟩ = unitZs u := ev
  have hd : unitHd l k = ⟨m2, 0⟩ := by unfold unitHd; rw [f1, e2]
  unfold unitR
  rw [hd, f3, f4, e4, e5, unitU_back]
theorem bid_rd {l : Bs} {k k' b : Int} {xs : List (Int × Int)} (hb : I64r b) (hi : ∀ x ∈ xs, I64r x.1 ∧ I64r x.2) (h : Rd l k (bidToks b xs) k') : bidR l k = bidEnd ⟨k', 0⟩ b xs := by
  obtain ⟨m1, e1, h1, -⟩ := psE_rd h
  obtain ⟨m2, e2, h2⟩ := psW_rd h1
  obtain ⟨m3, e3, h3, ev⟩ := psI_rd hb h2
  obtain ⟨e4, e5⟩ := list_rd hi h3
  have f1 : psE l ⟨k, 0⟩ 1 = ⟨m1, 0⟩ := e1
  have hd : bidHd l k = ⟨m2, 0⟩ := by unfold bidHd; rw [f1, e2]
  unfold bidR
  rw [hd, e3, ev, e4, e5]
/- longer texts -/
theorem step_longer {P R : Bs} (hl : (P ++ R).length ≤ 65536) {p : PS} (h : (stepP P p).e = 0) : stepP (P ++ R) p = stepP P p ∧ stepV (P ++ R) p = stepV P p := by
  unfold stepP at h ⊢
  unfold stepV
  obtain ⟨a1, a2, a3⟩ := aft_lt h
  have b1 := aft_Is P 2 _ a1
  obtain ⟨e1, -⟩ := psE_longer (R := R) b1.1 (.inr (.inl rfl)) hl
  obtain ⟨e3, -⟩ := psIs_longer (R := R) hl 2 a1 (by omega)
  obtain ⟨e5, -⟩ := psE_longer (R := R) h (.inr (.inr rfl)) hl
  have g2 : (psI P (psI P (psE P p 1))).e = 0 := a1
  have g3 : (psI P (psI P (psE P p 1))).k < P.length := by
    have : psI P (psI P (psE P p 1)) = psIs P 2 (psE P p 1) := rfl
    rw [this]
    omega
  have c1 := aft_I P (psI P (psE P p 1)) g2
  obtain ⟨e6, e7⟩ := psI_longer (R := R) c1.1 (by omega) hl
  obtain ⟨-, e8⟩ := psI_longer (R := R) g2 g3 hl
  refine ⟨by rw [e1, e3, e5], ?_⟩
  rw [e1, e7, e6, e8]
theorem steps_longer {P R : Bs} (hl : (P ++ R).length ≤ 65536) : ∀ (f g : Nat) {p : PS} {acc : List (Int × Int)}, f ≤ g → (psE P (stepsP P f p acc).1 2).e = 0 → stepsP (P ++ R) g p acc = stepsP P f p acc
  | 0, g, p, acc, _, h => stepsP_stop (more_none hl h)
  | f + 1, g, p, acc, hg, h => by
    by_cases hm : psMore P p = true
    · obtain ⟨g, rfl⟩ : ∃ g', g = g' + 1 := ⟨g - 1, by omega⟩
      by_cases h0 : (stepP P p).e = 0
      · rw [stepsP_more hm h0] at h ⊢
        obtain ⟨e1, e2⟩ := step_longer (R := R) hl h0
        rw [stepsP_more (more_longer hl hm) (by rw [e1]; exact h0), e1, e2]
        exact steps_longer hl f g (by omega) h
      · rw [stepsP_bad hm h0] at h
        exact absurd ((aft_E P _ 2).2 h).2.1 h0
    · have hm2 : psMore P p = false := by simpa using hm
      rw [stepsP_stop hm2] at h ⊢
      exact stepsP_stop (more_none hl h)
theorem list_longer {P R : Bs} (hl : (P ++ R).length ≤ 65536) {p : PS} (h : (psE P (listP P p) 2).e = 0) : psE (P ++ R) (listP (P ++ R) p) 2 = psE P (listP P p) 2 ∧ listV (P ++ R) p = listV P p := by
  unfold listP listV at *
  have e4 := steps_longer (R := R) hl (P.length + 2) ((P ++ R).length + 2) (by rw [List.length_append]; omega) h
  rw [e4]
  exact ⟨(psE_longer (R := R) h (.inr (.inr rfl)) hl).1, rfl⟩
theorem unit_longer {P R : Bs} (hl : (P ++ R).length ≤ 65536) {k : Int} (h : (unitR P k).e = 0) : unitR (P ++ R) k = unitR P k := by
  have hx : (psE P (listP P (psIs P 8 (unitHd P k))) 2).e = 0 := by
    unfold unitR unitEnd at h
    by_cases h1 : (psE P (listP P (psIs P 8 (unitHd P k))) 2).e = 0
    · exact h1
    · rw [if_pos h1] at h
      exact absurd h h1
  obtain ⟨a1, a2, a3⟩ := aft_lt hx
  have c1 := aft_steps P (P.length + 2) (psIs P 8 (unitHd P k)) [] a1
  have d1 := aft_Is P 8 _ c1.1
  have f1 := aft_W P (psE P ⟨k, 0⟩ 1) [117, 110, 105, 116] d1.1
  have k1 : (psIs P 8 (unitHd P k)).k < P.length := by
    have := c1.2.1
    change _ ≤ (listP P (psIs P 8 (unitHd P k))).k at this
    omega
  obtain ⟨e1, -⟩ := psE_longer (R := R) f1.1 (.inr (.inl rfl)) hl
  have e2 := psW_longer (R := R) d1.1 (by have := d1.2.1; unfold unitHd at *; omega) hl
  have e3 := psIs_longer (R := R) hl 8 c1.1 k1
  have hd : unitHd (P ++ R) k = unitHd P k := by unfold unitHd; rw [e1, e2]
  obtain ⟨e4, e5⟩ := list_longer (R := R) hl hx
  unfold unitR
  rw [hd, e3.1, e3.2, e4, e5]
theorem bid_longer {P R : Bs} (hl : (P ++ R).length ≤ 65536) {k : Int} (h : (bidR P k).e = 0) : bidR (P ++ R) k = bidR P k := by
  have hx : (psE P (listP P (psI P (bidHd P k))) 2).e = 0 := by
    unfold bidR bidEnd at h
    by_cases h1 : (psE P (listP P (psI P (bidHd P k))) 2).e = 0
    · exact h1
    · rw [if_pos h1] at h
      exact absurd h h1
  obtain ⟨a1, a2, a3⟩ := aft_lt hx
  have c1 := aft_steps P (P.length + 2) (psI P (bidHd P k)) [] a1
  have d1 := aft_I P _ c1.1
  have f1 := aft_W P (psE P ⟨k, 0⟩ 1) [98, 105, 100] d1.1
  have k1 : (psI P (bidHd P k)).k < P.length := by
    have := c1.2.1
    change _ ≤ (listP P (psI P (bidHd P k))).k at this
    omega
  obtain ⟨e1, -⟩ := psE_longer (R := R) f1.1 (.inr (.inl rfl)) hl
  have e2 := psW_longer (R := R) d1.1 (by have := d1.2.1; unfold bidHd at *; omega) hl
  have e3 := psI_longer (R := R) c1.1 k1 hl
  have hd : bidHd (P ++ R) k = bidHd P k := by unfold bidHd; rw [e1, e2]
  obtain ⟨e4, e5⟩ := list_longer (R := R) hl hx
  unfold bidR
  rw [hd, e3.1, e3.2, e4, e5]
/- formatted text -/
theorem unit_zs {u : U} (h : u.check 6 = 0) : (∀ z ∈ unitZs u, I64r z) ∧ (∀ x ∈ u.steps, I64r x.1 ∧ I64r x.2) ∧ u.steps.length ≤ 3 := by
  have hk : u.ok = true := by unfold U.ok; exact decide_eq_true h
  obtain ⟨h1, h2, h3⟩ := chk_range (U.chk0 hk)
  have h9 := h
  unfold U.check at h9
  by_cases hb : u.okBus 6 = true
  · rw [if_pos hb, if_pos (U.chk0 hk)] at h9
    by_cases hr : (u.okMin && u.okHold && u.okMoney && u.okSpin && u.okOn) = true
    · have ht := total_bd u.steps
      simp only [U.okMin, U.okHold, U.okMoney, U.okSpin, U.okOn, Bool.and_eq_true, decide_eq_true_eq] at hr
      simp only [U.okBus, Bool.and_eq_true, decide_eq_true_eq] at hb
      refine ⟨fun z hz => ?_, fun x hx => ?_, h2⟩
      · simp only [unitZs, List.mem_cons, List.not_mem_nil, or_false] at hz
        unfold I64r
        rcases hz with rfl | rfl | rfl | rfl | rfl | rfl | rfl | rfl <;> omega
      · have := h3 x hx
        unfold I64r
        omega
    · rw [if_neg hr] at h9; omega
  · rw [if_neg hb] at h9; omega
theorem bid_zs {b : Int} {xs : List (Int × Int)} (h : bidC b xs = 0) : I64r b ∧ (∀ x ∈ xs, I64r x.1 ∧ I64r x.2) ∧ xs.length ≤ 3 := by
  unfold bidC at h
  by_cases h0 : b < 0 ∨ 6 ≤ b
  · rw [if_pos h0] at h; omega
  · rw [if_neg h0] at h
    obtain ⟨h1, h2, h3⟩ := chk_range h
    refine ⟨by unfold I64r; omega, fun x hx => ?_, h2⟩
    have := h3 x hx
    unfold I64r
    omega
theorem steps_good {xs : List (Int × Int)} (hi : ∀ x ∈ xs, I64r x.1 ∧ I64r x.2) : ∀ t ∈ xs.flatMap stTok, GoodT t ∧ (pieceT t).length ≤ 20 := by
  intro t ht
  obtain ⟨x, hx, ht⟩ := List.mem_flatMap.1 ht
  have := hi x hx
  simp only [stTok, List.mem_cons, List.not_mem_nil, or_false] at ht
  rcases ht with rfl | rfl | rfl | rfl
  · exact ⟨.inl rfl, by simp [pieceT, tokO]⟩
  · exact ⟨good_num this.1, piece_num this.1⟩
  · exact ⟨good_num this.2, piece_num this.2⟩
  · exact ⟨.inr (.inl rfl), by simp [pieceT, tokC]⟩
/-- the tokens of a unit, but the last -/
def unitInit (u : U) : List Tok := tokO :: tokW [117, 110, 105, 116] :: ((unitZs u).map (fun (z : Int) => tokN (z : Rat)) ++ u.steps.flatMap stTok)
theorem unitToks_init (u : U) : unitToks u = unitInit u ++ [tokC] := by unfold unitToks unitInit stepsToks; simp
def bidInit (b : Int) (xs : List (Int × Int)) : List Tok := tokO :: tokW [98, 105, 100] :: numT b :: xs.flatMap stTok
theorem bidToks_init (b : Int) (xs : List (Int × Int)) : bidToks b xs = bidInit b xs ++ [tokC] := by unfold bidToks bidInit stepsToks; simp
theorem unit_good {u : U} (hz : ∀ z ∈ unitZs u, I64r z) (hi : ∀ x ∈ u.steps, I64r x.1 ∧ I64r x.2) : ∀ t ∈ unitToks u, GoodT t ∧ (pieceT t).length ≤ 20 := by
  intro t ht
  rw [unitToks_init] at ht
  unfold unitInit at ht
  simp only [List.cons_append, List.append_assoc, List.mem_cons, List.mem_append, List.not_mem_nil, or_false] at ht
  rcases ht with rfl | rfl | ht | ht | rfl
  · exact ⟨.inl rfl, by simp [pieceT, tokO]⟩
  · exact ⟨.inr (.inr (.inl ⟨_, rfl, by decide +kernel⟩)), by simp [pieceT, tokW]⟩
  · obtain ⟨z, hz2, rfl⟩ := List.mem_map.1 ht
    exact ⟨good_num (hz z hz2), piece_num (hz z hz2)⟩
  · exact steps_good hi t ht
  · exact ⟨.inr (.inl rfl), by simp [pieceT, tokC]⟩
theorem bid_good {b : Int} {xs : List (Int × Int)} (hb : I64r b) (hi : ∀ x ∈ xs, I64r x.1 ∧ I64r x.2) : ∀ t ∈ bidToks b xs, GoodT t ∧ (pieceT t).length ≤ 20 := by
  intro t ht
  rw [bidToks_init] at ht
  unfold bidInit at ht
  simp only [List.cons_append, List.mem_cons, List.mem_append, List.not_mem_nil, or_false] at ht
  rcases ht with rfl | rfl | rfl | ht | rfl
  · exact ⟨.inl rfl, by simp [pieceT, tokO]⟩
  · exact ⟨.inr (.inr (.inl ⟨_, rfl, by decide +kernel⟩)), by simp [pieceT, tokW]⟩
  · exact ⟨good_num hb, piece_num hb⟩
  · exact steps_good hi t ht
  · exact ⟨.inr (.inl rfl), by simp [pieceT, tokC]⟩
theorem unitToks_len (u : U) : (unitToks u).length = u.steps.length * 4 + 11 := by
  rw [unitToks_init]
  unfold unitInit
  simp only [List.length_append, List.length_cons, List.length_map, List.length_nil, stToks_len]
  simp [unitZs]
  omega
theorem bidToks_len (b : Int) (xs : List (Int × Int)) : (bidToks b xs).length = xs.length * 4 + 4 := by
  rw [bidToks_init]
  unfold bidInit
  simp only [List.length_append, List.length_cons, List.length_nil, stToks_len]
theorem unit_fmt_len {u : U} (hz : ∀ z ∈ unitZs u, I64r z) (hi : ∀ x ∈ u.steps, I64r x.1 ∧ I64r x.2) : (fmtT (unitToks u)).length ≤ 21 * (u.steps.length * 4 + 11) := by
  have h1 := spaced_len (unitToks u) true (fun t ht => (unit_good hz hi t ht).2)
  rw [unitToks_len] at h1
  exact h1
theorem bid_fmt_len {b : Int} {xs : List (Int × Int)} (hb : I64r b) (hi : ∀ x ∈ xs, I64r x.1 ∧ I64r x.2) : (fmtT (bidToks b xs)).length ≤ 21 * (xs.length * 4 + 4) := by
  have h1 := spaced_len (bidToks b xs) true (fun t ht => (bid_good hb hi t ht).2)
  rw [bidToks_len] at h1
  exact h1
/-- Formatted text is read back, whatever stands ahead of it and behind it. -/
theorem unit_back (pre rest : Bs) {u : U} (hz : ∀ z ∈ unitZs u, I64r z) (hi : ∀ x ∈ u.steps, I64r x.1 ∧ I64r x.2) (hl : (pre ++ (fmtT (unitToks u) ++ rest)).length ≤ 65536) :
    unitR (pre ++ (fmtT (unitToks u) ++ rest)) pre.length = unitEnd ⟨((pre.length + (fmtT (unitToks u)).length : Nat) : Int), 0⟩ u := by
  refine unit_rd hz hi ?_
  rw [unitToks_init] at hl ⊢
  exact rd_fmt pre rest (unitInit u) (fun t ht => (unit_good hz hi t (by rw [unitToks_init]; exact List.mem_append_left _ ht)).1) hl
theorem bid_back (pre rest : Bs) {b : Int} {xs : List (Int × Int)} (hb : I64r b) (hi : ∀ x ∈ xs, I64r x.1 ∧ I64r x.2) (hl : (pre ++ (fmtT (bidToks b xs) ++ rest)).length ≤ 65536) :
    bidR (pre ++ (fmtT (bidToks b xs) ++ rest)) pre.length = bidEnd ⟨((pre.length + (fmtT (bidToks b xs)).length : Nat) : Int), 0⟩ b xs := by
  refine bid_rd hb hi ?_
  rw [bidToks_init] at hl ⊢
  exact rd_fmt pre rest (bidInit b xs) (fun t ht => (bid_good hb hi t (by rw [bidToks_init]; exact List.mem_append_left _ ht)).1) hl
theorem unit_cut {u : U} (hc : u.check 6 = 0) {c : Nat} (hlt : c < (fmtT (unitToks u)).length) : (unitR ((fmtT (unitToks u)).take c) 0).e ≠ 0 := by
  intro h
  obtain ⟨hz, hi, h3⟩ := unit_zs hc
  have hl := unit_fmt_len hz hi
  have h1 := unit_back [] [] hz hi (by simp; omega)
  simp only [List.nil_append, List.append_nil, List.length_nil, Nat.zero_add] at h1
  generalize fmtT (unitToks u) = s at *
  have h2 := unit_longer (P := s.take c) (R := s.drop c) (by rw [List.take_append_drop]; omega) h
  rw [List.take_append_drop] at h2
  have h5 := (unit_ok.1 h).2.2
  have h1' := h1
  rw [show ((0 : Nat) : Int) = 0 from rfl] at h1'
  rw [← h2, h1'] at h5
  unfold unitEnd at h5
  simp [hc] at h5
  omega
theorem bid_cut {b : Int} {xs : List (Int × Int)} (hc : bidC b xs = 0) {c : Nat} (hlt : c < (fmtT (bidToks b xs)).length) : (bidR ((fmtT (bidToks b xs)).take c) 0).e ≠ 0 := by
  intro h
  obtain ⟨hz, hi, h3⟩ := bid_zs hc
  have hl := bid_fmt_len hz hi
  have h1 := bid_back [] [] hz hi (by simp; omega)
  simp only [List.nil_append, List.append_nil, List.length_nil, Nat.zero_add] at h1
  generalize fmtT (bidToks b xs) = s at *
  have h2 := bid_longer (P := s.take c) (R := s.drop c) (by rw [List.take_append_drop]; omega) h
  rw [List.take_append_drop] at h2
  have h5 := (bid_ok.1 h).2.2
  have h1' := h1
  rw [show ((0 : Nat) : Int) = 0 from rfl] at h1'
  rw [← h2, h1'] at h5
  unfold bidEnd at h5
  simp [hc] at h5
  omega
end Go.Proofs.Ytkdbpcenehhopaa

namespace Go.Proofs.Ytkdbpcenehhopaa
open Go.RowKit

/-- The parser in block g. -/
def BAt (w : World) (g : Nat) (s : ByteArray) (p : PS) : Prop := w.heap[g]? = some (.cells #[.string s, .int .i64 p.k, .int .i64 p.e] 60 (0, 0))
theorem BAt.blk {w : World} {g : Nat} {s : ByteArray} {p : PS} (h : BAt w g s p) : Blk w g 60 #[.string s, .int .i64 p.k, .int .i64 p.e] := h
theorem BAt.ext {w w' : World} {g : Nat} {s : ByteArray} {p : PS} (h : BAt w g s p) (hb : Ext w w') : BAt w' g s p := (hb.block g h.blk.lt).trans h
theorem BAt.cells {w : World} {g : Nat} {s : ByteArray} {p : PS} (h : BAt w g s p) : (w.cell? ⟨g, 0, none⟩ = some (.string s) ∧ w.cell? ⟨g, 1, none⟩ = some (.int .i64 p.k) ∧ w.cell? ⟨g, 2, none⟩ = some (.int .i64 p.e)) ∧ w.frozen? ⟨g, 1, none⟩ = false ∧ w.frozen? ⟨g, 2, none⟩ = false ∧ g < w.heap.size :=
  ⟨⟨by rw [h.blk.cell]; rfl, by rw [h.blk.cell]; rfl, by rw [h.blk.cell]; rfl⟩, h.blk.frozen 1, h.blk.frozen 2, h.blk.lt⟩
theorem BAt.touch {w w' : World} {g r : Nat} {s : ByteArray} {p : PS} (h : BAt w g s p) (ht : Touch r w w') (hne : g ≠ r) : BAt w' g s p := (ht.block g hne).trans h
set_option maxHeartbeats 1000000 in
theorem badv_any (g : Nat) (s : ByteArray) (p : PS) (nx er : Int) (w : World) (h : BAt w g s p) (hp : p.e = 0) :
    Calls Try.prog 37 #[.pointer (some ⟨g, 0, none⟩), .int .i64 nx, .int .i64 er] w fun e w' => e = .returned (.tuple #[]) ∧ BAt w' g s (p.adv nx er) ∧ Mv g w w' := by
  obtain ⟨⟨c0, c1, c2⟩, f1, f2, hl⟩ := h.cells
  have H := Lib.hid h
  have HP := Lib.hid hp
  clear h
  by_cases h0 : er = 0
  · have hb : (er != 0) = false := by simp [h0]
    have HR : Hid (p.adv nx er = ⟨nx, p.e⟩) := by unfold Hid PS.adv; rw [if_pos h0, HP.out]
    clear h0 hp
    go_enter Try.func37, Try.ntmps37
    go_wp2_with fail
    go_end0
    refine ⟨rfl, ?_, Mv.set (grown_refl w _) _ _⟩
    rw [HR.out]
    exact H.out.blk.put 1 (.int .i64 nx)
  · have hb : (er != 0) = true := by simp [h0]
    have HR : Hid (p.adv nx er = ⟨p.k, er⟩) := by unfold Hid PS.adv; rw [if_neg h0]
    clear h0 hp
    go_enter Try.func37, Try.ntmps37
    go_wp2_with fail
    refine bodyPost_ret (v := .tuple #[]) (by simp [results, Try.results37, go_sem]) rfl ?_
    refine ⟨rfl, ?_, Mv.set (grown_refl w _) _ _⟩
    rw [HR.out]
    exact H.out.blk.put 2 (.int .i64 er)

set_option maxRecDepth 100000 in
set_option maxHeartbeats 4000000 in
theorem bword_any (g : Nat) (s : ByteArray) (p : PS) (W : ByteArray) (w : World) (h : BAt w g s p) (hs : s.size ≤ maxLen) :
    Calls Try.prog 25 #[.pointer (some ⟨g, 0, none⟩), .string W] w fun e w' => e = .returned (.tuple #[]) ∧ BAt w' g s (psW s.data.toList p W.data.toList) ∧ Mv g w w' := by
  obtain ⟨⟨c0, c1, c2⟩, f1, f2, hl⟩ := h.cells
  have H := Lib.hid h
  have HS := Lib.hid hs
  clear h hs
  obtain ⟨pk, pe⟩ := p
  simp only at c1 c2
  by_cases h0 : pe = 0
  rotate_left
  · have hb : (pe != 0) = true := by simp [h0]
    have HR : Hid (psW s.data.toList ⟨pk, pe⟩ W.data.toList = ⟨pk, pe⟩) := by unfold Hid psW; rw [if_pos h0]
    clear h0
    go_enter Try.func25, Try.ntmps25
    go_wp2_with fail
    refine bodyPost_ret (v := .tuple #[]) (by simp [results, Try.results25, go_sem]) rfl ?_
    rw [HR.out]
    exact ⟨rfl, H.out, grown_refl _ _⟩
  · subst h0
    go_enter Try.func25, Try.ntmps25
    go_wp2_with fail
    have x0 := fun x : ExtOf w => x.cell c0
    have x1 := fun x : ExtOf w => x.cell c1
    clear c0 c1 c2 f1 f2 hl
    refine wp_region_ext (by kernel_rfl) (by kernel_rfl) ?_
    repeat (go_big_quiet_step (exact ext_call (eword_any s pk W _ HS.out)))
    refine wpQuiet_nil ?_
    rintro _ ⟨x, rfl⟩
    have HX := Lib.hid x.h
    clear x0 x1
    generalize x.w = w2 at *
    have HR : Hid (psW s.data.toList ⟨pk, 0⟩ W.data.toList = PS.adv ⟨pk, 0⟩ (ewordT s.data.toList pk W.data.toList).1 (ewordT s.data.toList pk W.data.toList).2) := by unfold Hid psW; rw [if_neg (by simp)]
    generalize ewordT s.data.toList pk W.data.toList = Y at *
    obtain ⟨y1, y2⟩ := Y
    go_wp2_with fail
    refine (badv_any g s ⟨pk, 0⟩ _ _ w2 (H.out.ext HX.out) rfl).mono ?_
    rintro e w3 ⟨rfl, hp3, hm3⟩
    go_wp2_with fail
    go_end0
    rw [HR.out]
    exact ⟨rfl, hp3, Mv.trans (Mv.of HX.out) hm3⟩
set_option maxRecDepth 100000 in
set_option maxHeartbeats 4000000 in
theorem bint_any (g : Nat) (s : ByteArray) (p : PS) (w : World) (h : BAt w g s p) (hs : s.size ≤ maxLen) :
    Calls Try.prog 26 #[.pointer (some ⟨g, 0, none⟩)] w fun e w' => e = .returned (.int .i64 (psV s.data.toList p)) ∧ BAt w' g s (psI s.data.toList p) ∧ Mv g w w' := by
  obtain ⟨⟨c0, c1, c2⟩, f1, f2, hl⟩ := h.cells
  have H := Lib.hid h
  have HS := Lib.hid hs
  clear h hs
  obtain ⟨pk, pe⟩ := p
  simp only at c1 c2
  by_cases h0 : pe = 0
  rotate_left
  · have hb : (pe != 0) = true := by simp [h0]
    have HR : Hid (psI s.data.toList ⟨pk, pe⟩ = ⟨pk, pe⟩ ∧ psV s.data.toList ⟨pk, pe⟩ = 0) := by unfold Hid psI psV; rw [if_pos h0, if_pos h0]; exact ⟨rfl, rfl⟩
    clear h0
    go_enter Try.func26, Try.ntmps26
    go_wp2_with fail
    go_ret
    rw [HR.out.1, HR.out.2]
    exact ⟨rfl, H.out, grown_refl _ _⟩
  · subst h0
    go_enter Try.func26, Try.ntmps26
    go_wp2_with fail
    have x0 := fun x : ExtOf w => x.cell c0
    have x1 := fun x : ExtOf w => x.cell c1
    clear c0 c1 c2 f1 f2 hl
    refine wp_region_ext (by kernel_rfl) (by kernel_rfl) ?_
    repeat (go_big_quiet_step (exact ext_call (eint_any s pk _ HS.out)))
    refine wpQuiet_nil ?_
    rintro _ ⟨x, rfl⟩
    have HX := Lib.hid x.h
    clear x0 x1
    generalize x.w = w2 at *
    have HR : Hid (psI s.data.toList ⟨pk, 0⟩ = PS.adv ⟨pk, 0⟩ (eintT s.data.toList pk).2.1 (eintT s.data.toList pk).2.2 ∧ psV s.data.toList ⟨pk, 0⟩ = (eintT s.data.toList pk).1) := by unfold Hid psI psV; rw [if_neg (by simp), if_neg (by simp)]; exact ⟨rfl, rfl⟩
    generalize eintT s.data.toList pk = Y at *
    obtain ⟨y1, y2, y3⟩ := Y
    go_wp2_with fail
    refine (badv_any g s ⟨pk, 0⟩ _ _ w2 (H.out.ext HX.out) rfl).mono ?_
    rintro e w3 ⟨rfl, hp3, hm3⟩
    go_wp2_with fail
    go_ret
    rw [HR.out.1, HR.out.2]
    exact ⟨rfl, hp3, Mv.trans (Mv.of HX.out) hm3⟩
set_option maxRecDepth 100000 in
set_option maxHeartbeats 8000000 in
theorem bexpect_any (g : Nat) (s : ByteArray) (p : PS) (kd : Int) (w : World) (h : BAt w g s p) (hs : s.size ≤ maxLen) :
    Calls Try.prog 24 #[.pointer (some ⟨g, 0, none⟩), .int .u8 kd] w fun e w' => e = .returned (.tuple #[]) ∧ BAt w' g s (psE s.data.toList p kd) ∧ Mv g w w' := by
  obtain ⟨⟨c0, c1, c2⟩, f1, f2, hl⟩ := h.cells
  have H := Lib.hid h
  have HLT := Lib.hid h.blk.lt
  have HS := Lib.hid hs
  clear h hs
  obtain ⟨pk, pe⟩ := p
  simp only at c1 c2
  by_cases h0 : pe = 0
  rotate_left
  · have hb : (pe != 0) = true := by simp [h0]
    have HR : Hid (psE s.data.toList ⟨pk, pe⟩ kd = ⟨pk, pe⟩) := by unfold Hid psE; rw [if_pos h0]
    clear h0
    go_enter Try.func24, Try.ntmps24
    go_wp2_with fail
    refine bodyPost_ret (v := .tuple #[]) (by simp [results, Try.results24, go_sem]) rfl ?_
    rw [HR.out]
    exact ⟨rfl, H.out, grown_refl _ _⟩
  · subst h0
    have HR : Hid (psE s.data.toList ⟨pk, 0⟩ kd = PS.adv ⟨pk, 0⟩ (expectT s.data.toList pk kd).nx (expectT s.data.toList pk kd).e) := by unfold Hid psE; rw [if_neg (by simp)]
    go_enter Try.func24, Try.ntmps24
    go_wp2_with fail
    clear c0 c1 c2 f1 f2 hl
    refine wp_region_havS [14] [0, 1, 2, 3, 4, 5, 6, 7, 8, 9, 10, 11, 12, 13] [15, 16, 17] (fun _ => .cells #[.int .u8 0, .string ⟨#[]⟩, .bool false, .slice none 0 0, .bool false, .slice none 0 0] 75) (by kernel_rfl) (by kernel_rfl) ?_ ?_
    · intro f hf
      simp only [List.mem_cons, List.not_mem_nil, or_false] at hf
      rcases hf with rfl
      all_goals exact makes_t (by rfl) rfl
    have hE : Ext w w.drew := Ext.rfl'.drew
    generalize w.drew = w1 at *
    have Ew1 := Lib.hid hE
    clear hE
    have fg0 := fun z : ExtX w1 [] => z.cell (p := ⟨g, 0, none⟩) (H.out.ext Ew1.out).cells.1.1 (by simp)
    have fg1 := fun z : ExtX w1 [] => z.cell (p := ⟨g, 1, none⟩) (H.out.ext Ew1.out).cells.1.2.1 (by simp)
    intro w2 hE
    have Ew2 := Lib.hid hE
    clear hE
    repeat (refine havAt_still (by rfl) (by rfl) ?_; go_big_quiet_step (fail); refine wpQuiet_nil ?_)
    refine havAt_move (by rfl) (by rfl) (by kernel_rfl) ?_
    go_wp2_with fail
    refine (expect_any s pk kd w2 HS.out).mono ?_
    rintro e w3 ⟨su, Au, nu, cu, tu, Bu, mu, du, rfl, hT, hE⟩
    have Ew3 := Lib.hid hE
    clear hE
    clear hT
    generalize expectT s.data.toList pk kd = X at *
    obtain ⟨⟨xk, xt, xq⟩, xn, xe⟩ := X
    simp only
    go_wp2_with fail
    refine And.intro Ew3.out (fun w4 hE => ?_)
    have Ew4 := Lib.hid hE
    clear hE
    repeat (refine havAt_still (by rfl) (by rfl) ?_; go_big_quiet_step (fail); refine wpQuiet_nil ?_)
    refine havAt_end ?_
    intro gs hgs hne
    have hp6 := hgs 14 (by simp)
    change IdxAt _ _ _ _ _ _ (Act.put _ (some 4) (.pointer (some ⟨gs 14, 0, none⟩))) _
    generalize gs 14 = gb at *
    clear hgs hne
    simp only [Act.put, List.setIfInBounds_toArray, List.set_cons_succ, List.set_cons_zero]
    have HGB := Lib.hid hp6.1
    have hrb := RowN.of_blk hp6.2.1
    have HRB := Lib.hid (show RowN _ gb 6 from hrb)
    clear hp6 hrb
    have HTB := Lib.hid (HRB.out.there (o := 0) (k := 6) (by simp))
    refine idxAt_move (by rfl) (by rfl) (by kernel_rfl) ?_
    refine wpList_storeV rfl 75 _ _ rfl gb 0 [.int .u8 xk, .string (bs xt), .bool su, .slice Au nu cu, .bool tu, .slice Bu mu du] rfl rfl HTB.out (by kernel_rfl) rfl ?_
    intro wB hpv
    go_wp2_with fail
    have NJb := Lib.hid (hpv.touch.ext w1 (Ext.trans Ew2.out (Ext.trans Ew3.out Ew4.out)) HGB.out)
    clear hpv HTB
    refine And.intro (inX_of_ext _ NJb.out) ?_
    repeat (refine idxAt_still (by rfl) (by rfl) ?_; go_big_quiet_step (fail); refine wpQuiet_nil ?_)
    refine idxAt_nil ?_
    clear fg0 fg1
    go_wp2_with fail
    have HEX := Lib.hid (Ext.trans Ew1.out NJb.out)
    have HPW : Hid (BAt wB g s ⟨pk, 0⟩) := H.out.ext HEX.out
    refine (badv_any g s ⟨pk, 0⟩ _ _ wB HPW.out rfl).mono ?_
    rintro e w8 ⟨rfl, hp8, hm8⟩
    go_wp2_with fail
    go_end0
    rw [HR.out]
    exact ⟨rfl, hp8, Mv.trans (Mv.of HEX.out) hm8⟩
set_option maxRecDepth 100000 in
set_option maxHeartbeats 8000000 in
theorem bstep_any (g : Nat) (s : ByteArray) (p : PS) (z : Int × Int) (w : World) (h : BAt w g s p) (hs : s.size ≤ maxLen) (hz : stepV s.data.toList p = z) :
    Calls Try.prog 28 #[.pointer (some ⟨g, 0, none⟩)] w fun e w' => e = .returned (.agg #[.int .i64 z.1, .int .i64 z.2]) ∧ BAt w' g s (stepP s.data.toList p) ∧ Mv g w w' := by
  have HP : Hid (stepP s.data.toList p = psE s.data.toList (psI s.data.toList (psI s.data.toList (psE s.data.toList p 1))) 2) := rfl
  have HV : Hid (z = (psV s.data.toList (psE s.data.toList p 1), psV s.data.toList (psI s.data.toList (psE s.data.toList p 1)))) := hz.symm
  have HGL := Lib.hid h.blk.lt
  have HS := Lib.hid hs
  have H := Lib.hid h
  clear h hs hz
  go_enter Try.func28, Try.ntmps28
  go_wp2_with fail
  have hR := RowN.of_blk (World.alloc_heap_new w (.cells #[.int .i64 0, .int .i64 0] 40))
  have hE : Ext w (w.alloc (.cells #[.int .i64 0, .int .i64 0] 40)) := Ext.al Ext.rfl' _
  have hsz : (w.alloc (.cells #[.int .i64 0, .int .i64 0] 40)).heap.size = w.heap.size + 1 := by simp
  generalize (w.alloc (.cells #[.int .i64 0, .int .i64 0] 40)) = w0 at *
  have RN0 := Lib.hid (show RowN w0 w.heap.size 2 from hR)
  have HM0 := Lib.hid (Mv.of (g := g) hE)
  have HP0 := Lib.hid (H.out.ext hE)
  clear hR hsz hE
  refine (bexpect_any g s p 1 w0 HP0.out HS.out).mono ?_
  rintro e w1 ⟨rfl, hp, hm⟩
  have HP1 := Lib.hid hp
  have HM1 := Lib.hid (Mv.trans HM0.out hm)
  have RN1 := Lib.hid (RN0.out.mv hm (by have := HGL.out; omega))
  clear hp hm
  go_wp2_with fail
  refine (bint_any g s _ w1 HP1.out HS.out).mono ?_
  rintro e w2 ⟨rfl, hp, hm⟩
  have HP2 := Lib.hid hp
  have HM2 := Lib.hid (Mv.trans HM1.out hm)
  have RN2 := Lib.hid (RN1.out.mv hm (by have := HGL.out; omega))
  clear hp hm
  obtain ⟨q, hq⟩ : ∃ q, psV s.data.toList (psE s.data.toList p 1) = q := ⟨_, rfl⟩
  rw [hq] at HV ⊢
  clear hq
  go_wp2_with fail
  refine (bint_any g s _ w2 HP2.out HS.out).mono ?_
  rintro e w3 ⟨rfl, hp, hm⟩
  have HP3 := Lib.hid hp
  have HM3 := Lib.hid (Mv.trans HM2.out hm)
  have RN3 := Lib.hid (RN2.out.mv hm (by have := HGL.out; omega))
  clear hp hm
  obtain ⟨r, hr⟩ : ∃ r, psV s.data.toList (psI s.data.toList (psE s.data.toList p 1)) = r := ⟨_, rfl⟩
  rw [hr] at HV ⊢
  clear hr
  go_wp2_with fail
  refine (bexpect_any g s _ 2 w3 HP3.out HS.out).mono ?_
  rintro e w4 ⟨rfl, hp, hm⟩
  have HP4 := Lib.hid hp
  have HM4 := Lib.hid (Mv.trans HM3.out hm)
  have RN4 := Lib.hid (RN3.out.mv hm (by have := HGL.out; omega))
  clear hp hm
  obtain rfl : z = (q, r) := HV.out
  have HT := Lib.hid (RN4.out.there (o := 0) (k := 2) (by omega))
  go_wp2_with (
    refine wpList_storeV rfl 40 _ _ rfl w.heap.size 0 [.int .i64 q, .int .i64 r] rfl rfl HT.out (by kernel_rfl) rfl ?_
    intro w9 hp
    have HP9 := Lib.hid hp
    clear hp)
  have c0 := HP9.out.here 0 _ rfl
  have c1 := HP9.out.here 1 _ rfl
  simp only [Nat.zero_add] at c0 c1
  refine bodyPost_ret (v := .agg #[.int .i64 q, .int .i64 r]) (by simp [results, Try.results28, go_sem, c0, c1]) rfl ?_
  rw [HP.out]
  exact ⟨rfl, HP4.out.touch HP9.out.touch (by have := HGL.out; omega), Mv.touch HM4.out HP9.out.touch (Nat.le_refl _)⟩
end Go.Proofs.Ytkdbpcenehhopaa

namespace Go.Proofs.Ytkdbpcenehhopaa
open Go.RowKit
theorem BAt.of {w : World} {g : Nat} {s : ByteArray} {p : PS} (h : BAt w g s p) : psOf w g = p := by
  unfold psOf
  rw [h.cells.1.2.1, h.cells.1.2.2]
def stCell (x : Int × Int) : List Value := [.int .i64 x.1, .int .i64 x.2]
def stCells (xs : List (Int × Int)) : List Value := xs.flatMap stCell
theorem stCells_get : ∀ (ls : List (Int × Int)) (i : Nat), i < ls.length → (stCells ls)[i * 2]? = some (.int .i64 (ls.getD i (0, 0)).1) ∧ (stCells ls)[i * 2 + 1]? = some (.int .i64 (ls.getD i (0, 0)).2)
  | [], i, h => by simp at h
  | z :: ls, 0, _ => ⟨rfl, rfl⟩
  | z :: ls, i + 1, h => by
    have := stCells_get ls i (by simpa using h)
    have e1 : (stCells (z :: ls))[(i + 1) * 2]? = (stCells ls)[i * 2]? := by
      show (stCell z ++ stCells ls)[(i + 1) * 2]? = _
      rw [List.getElem?_append_right (by simp [stCell]; omega)]
      congr 1
      simp [stCell]
      omega
    have e2 : (stCells (z :: ls))[(i + 1) * 2 + 1]? = (stCells ls)[i * 2 + 1]? := by
      show (stCell z ++ stCells ls)[(i + 1) * 2 + 1]? = _
      rw [List.getElem?_append_right (by simp [stCell]; omega)]
      congr 1
      simp [stCell]
      omega
    rw [e1, e2]
    simpa [List.getD] using this
/-- Steps that the call owns. -/
def RowSt (w : World) (B : Nat) (v : Value) (xs : List (Int × Int)) : Prop := w.ownsRow B 40 2 v xs.length (stCells xs)
theorem RowSt.steps {w : World} {B : Nat} {v : Value} {xs : List (Int × Int)} (h : RowSt w B v xs) : ∃ A c, v = .slice A xs.length c ∧ StepsAt w A xs.length xs := by
  rcases h.2 with ⟨rfl, h0⟩ | ⟨g, cap, cur, rfl, hg, hb, _⟩
  · rw [h0]
    exact ⟨none, 0, rfl, h0, fun h => absurd h (by omega)⟩
  · refine ⟨_, cap, rfl, rfl, fun _ => ⟨g, 0, rfl, (Array.getElem?_eq_some_iff.1 hb).1, fun i hi => ?_⟩⟩
    obtain ⟨h0, h1⟩ := stCells_get xs i hi
    have a0 := h.cells (g := g) rfl (i * 2) _ h0
    have a1 := h.cells (g := g) rfl (i * 2 + 1) _ h1
    have hadd : ∀ x, (⟨g, 0, none⟩ : Addr).add x = ⟨g, x, none⟩ := fun x => by by_cases h : x = 0 <;> simp [Addr.add, h]
    rw [hadd] at a0 a1
    simp only [Nat.zero_add]
    exact ⟨a0, a1⟩
theorem info_st : (Try.prog.info? 40).map (fun i => (i.zero, i.size, i.bytes)) = some (some (.agg #[.int .i64 0, .int .i64 0]), 2, 16) := by kernel_rfl
theorem rowst_mv {g : Nat} {w w' : World} {B : Nat} {v : Value} {ls : List (Int × Int)} (h : RowSt w B v ls) (hm : Mv g w w') (hg : g < B) : RowSt w' B v ls := own_keep h fun x hx => hm.block x (own_lt h hx).1 (fun e => by have := (own_lt h hx).2; injection e with e; omega)
theorem rowst_ext {w w' : World} {B : Nat} {v : Value} {ls : List (Int × Int)} (h : RowSt w B v ls) (hb : Ext w w') : RowSt w' B v ls := own_keep h fun x hx => hb.block x (own_lt h hx).1
theorem rowst_touch {x : Nat} {w w' : World} {B : Nat} {v : Value} {ls : List (Int × Int)} (h : RowSt w B v ls) (ht : Touch x w w') (hx : x < B) : RowSt w' B v ls := own_keep h fun b hb => ht.block b (by have := (own_lt h hb).2; omega)
theorem RowSt.at {w : World} {B n c : Nat} {A : Option Addr} {ls : List (Int × Int)} (h : RowSt w B (.slice A n c) ls) : StepsAt w A ls.length ls := by
  obtain ⟨A', c', e, h'⟩ := h.steps
  injection e with e1 e2 e3
  rw [e1]
  exact h'
theorem psF_le (l : Bs) (p : PS) : psF l p ≤ l.length + 2 := by
  unfold psF
  split <;> omega

set_option maxRecDepth 100000 in
set_option maxHeartbeats 16000000 in
theorem blist_any (g : Nat) (s : ByteArray) (p : PS) (w : World) (h : BAt w g s p) (hs : s.size ≤ maxLen) :
    Calls Try.prog 27 #[.pointer (some ⟨g, 0, none⟩), .func (.func 28) #[.pointer (some ⟨g, 0, none⟩)] #[]] w fun e w' => (∃ v, e = .returned v ∧ RowSt w' w.heap.size v (listV s.data.toList p)) ∧ BAt w' g s (listP s.data.toList p) ∧ Mv g w w' := by
  obtain ⟨i0, hi, hz0, hz1, hz2⟩ := info_parts info_st
  obtain ⟨PF, hPF⟩ : ∃ x, stepsP s.data.toList (s.data.toList.length + 2) p [] = x := ⟨_, rfl⟩
  have HRP : Hid (listP s.data.toList p = PF.1 ∧ listV s.data.toList p = PF.2) := by unfold Hid listP listV; rw [hPF]; exact ⟨rfl, rfl⟩
  have HPF := Lib.hid hPF
  have HS := Lib.hid hs
  have H := Lib.hid h
  have hgl := h.blk.lt
  clear hPF hs h
  go_enter Try.func27, Try.ntmps27
  go_wp2_with fail
  obtain ⟨B, hB⟩ : ∃ B, w.heap.size = B := ⟨_, rfl⟩
  have HBW := Lib.hid hB
  have hgB : g < B := by omega
  have HS0 : Hid (B ≤ w.heap.size) := Nat.le_of_eq hB.symm
  clear hB hgl
  go_loopw [5] (fun v wr => ∃ (q : PS) (acc : List (Int × Int)) (f : Nat), Hid (BAt wr g s q) ∧ Hid (RowSt wr B v acc) ∧ Hid (stepsP s.data.toList f q acc = PF) ∧ Hid (psF s.data.toList q ≤ f) ∧ Hid (acc.length + f ≤ s.data.toList.length + 2) ∧ Hid (Mv g w wr) ∧ Hid (B ≤ wr.heap.size)) (fun _ wr => psF s.data.toList (psOf wr g))
  case atStart => exact ⟨p, [], _, H, ⟨by simp [stCells], .inl ⟨rfl, rfl⟩⟩, HPF, psF_le _ _, by simp [Hid], grown_refl _ _, HS0⟩
  case round =>
    obtain ⟨q, acc, f, HP, HRow, HL, HF, HAF, HM, HBS⟩ := hrel
    obtain ⟨⟨p0, p1, p2⟩, q1, q2, pl⟩ := HP.out.cells
    obtain ⟨mb, hmb⟩ : ∃ b, psMore s.data.toList q = b := ⟨_, rfl⟩
    have HMB := Lib.hid hmb
    clear hmb
    by_cases h0 : q.e = 0
    rotate_left
    · have hb : (q.e == 0) = false := by simp [h0]
      have hm0 : mb = false := by rw [← HMB.out]; unfold psMore; rw [decide_eq_false h0]; rfl
      subst hm0
      clear h0
      have HLS : Hid (PF = (q, acc)) := by unfold Hid; rw [← HL.out, stepsP_stop HMB.out]
      have x0 := fun x : ExtOf wr => x.cell p2
      clear HL HF HAF HMB
      go_wp2_with fail
      clear p0 p1 p2 q1 q2 pl
      refine wp_region_ext (by kernel_rfl) (by kernel_rfl) ?_
      repeat (go_big_quiet_step (exact ext_call (peek_any s q.k 1 _ HS.out)))
      refine wpQuiet_nil ?_
      rintro _ ⟨x, rfl⟩
      have HX := Lib.hid x.h
      clear x0
      generalize x.w = w2 at *
      go_wp2_with fail
      go_ret
      rw [HRP.out.1, HRP.out.2, HLS.out, HBW.out]
      exact ⟨⟨_, rfl, rowst_ext HRow.out HX.out⟩, HP.out.ext HX.out, Mv.trans HM.out (Mv.of HX.out)⟩
    · have hb : (q.e == 0) = true := by simp [h0]
      have HMP : Hid (peekT s.data.toList q.k 1 = mb) := by unfold Hid; rw [← HMB.out]; unfold psMore; rw [decide_eq_true h0]; rfl
      have HME : Hid (psOf wr g = q) := HP.out.of
      have HQ0 := Lib.hid h0
      clear h0
      go_wp2_with fail
      have x0 := fun x : ExtOf wr => x.cell p0
      have x1 := fun x : ExtOf wr => x.cell p1
      have x2 := fun x : ExtOf wr => x.cell p2
      clear p0 p1 p2 q1 q2 pl
      refine wp_region_ext (by kernel_rfl) (by kernel_rfl) ?_
      repeat (go_big_quiet_step (exact ext_call (peek_any s q.k 1 _ HS.out)))
      refine wpQuiet_nil ?_
      rintro _ ⟨x, rfl⟩
      have HX := Lib.hid x.h
      clear x0 x1 x2 hb
      generalize x.w = w2 at *
      rw [HMP.out]
      have HP2 := Lib.hid (HP.out.ext HX.out)
      have HRow2 := Lib.hid (rowst_ext HRow.out HX.out)
      have HM2 := Lib.hid (Mv.trans HM.out (Mv.of HX.out))
      have HBS2 : Hid (B ≤ w2.heap.size) := Nat.le_trans HBS.out HX.out.size
      clear HMP HP HRow HM HBS HX
      cases mb
      · have HLS : Hid (PF = (q, acc)) := by unfold Hid; rw [← HL.out, stepsP_stop HMB.out]
        clear HL HF HAF HMB
        go_wp2_with fail
        go_ret
        rw [HRP.out.1, HRP.out.2, HLS.out, HBW.out]
        exact ⟨⟨_, rfl, HRow2.out⟩, HP2.out, HM2.out⟩
      · have HDEC := Lib.hid (sdec HMB.out)
        have HSPEC := Lib.hid (more_spec HMB.out)
        obtain ⟨f, rfl⟩ : ∃ f', f = f' + 1 := ⟨f - 1, by have := HDEC.out; have := HF.out; omega⟩
        have HLG : Hid ((stepP s.data.toList q).e = 0 → stepsP s.data.toList f (stepP s.data.toList q) (acc ++ [stepV s.data.toList q]) = PF) := fun h => by rw [← HL.out, stepsP_more HMB.out h]
        have HLB : Hid (¬ (stepP s.data.toList q).e = 0 → PF = (stepP s.data.toList q, acc)) := fun h => by rw [← HL.out, stepsP_bad HMB.out h]
        clear HL HMB
        go_wp2_with fail
        obtain ⟨z, hz⟩ : ∃ z, stepV s.data.toList q = z := ⟨_, rfl⟩
        rw [hz] at HLG
        refine (bstep_any g s q z w2 HP2.out HS.out hz).mono ?_
        clear hz
        obtain ⟨z1, z2⟩ := z
        generalize stepP s.data.toList q = q3 at *
        obtain ⟨k3, e3⟩ := q3
        rintro e w3 ⟨rfl, hp, hm⟩
        simp only at HLG HLB
        have hE : Ext w3 (w3.alloc (.cells #[.int .i64 z1, .int .i64 z2] 40)) := Ext.al Ext.rfl' _
        have HC := Lib.hid (Cell2.new w3 _ rfl (.int .i64 z1) (.int .i64 z2) 40)
        have HP3 := Lib.hid (hp.ext hE)
        have HRow3 := Lib.hid (rowst_ext (rowst_mv HRow2.out hm hgB) hE)
        have HM3 := Lib.hid (Mv.trans (Mv.trans HM2.out hm) (Mv.of hE))
        have HBS3 : Hid (B ≤ (w3.alloc (.cells #[.int .i64 z1, .int .i64 z2] 40)).heap.size) := Nat.le_trans (Nat.le_trans HBS2.out hm.size) hE.size
        have hacc : acc.length ≤ 65538 := by have := HAF.out; have := HSPEC.out.2.2.2; omega
        obtain ⟨⟨p0, p1, p2⟩, -, -, pl⟩ := HP3.out.cells
        simp only at p1 p2
        clear hp hm hE HP2 HRow2 HM2 HBS2
        by_cases h3 : e3 = 0
        rotate_left
        · have hb : (e3 == 0) = false := by simp [h3]
          have HPF2 : Hid (stepsP s.data.toList f ⟨k3, e3⟩ acc = PF) := by
            unfold Hid
            rw [HLB.out h3]
            refine stepsP_stop ?_
            unfold psMore
            rw [decide_eq_false h3]
            rfl
          clear h3 HLG HLB
          go_wp2_with fail
          go_roundw
          case rel => exact ⟨⟨k3, e3⟩, acc, f, HP3.out, HRow3.out, HPF2.out, by have := HDEC.out; have := HF.out; unfold Hid; omega, by have := HAF.out; unfold Hid; omega, HM3.out, HBS3.out⟩
          case measure =>
            rw [HP3.out.of, HME.out]
            exact HDEC.out
        · subst h3
          have HPF2 : Hid (stepsP s.data.toList f ⟨k3, 0⟩ (acc ++ [(z1, z2)]) = PF) := HLG.out rfl
          clear HLG HLB
          have hE2 : Ext (w3.alloc (.cells #[.int .i64 z1, .int .i64 z2] 40)) ((w3.alloc (.cells #[.int .i64 z1, .int .i64 z2] 40)).alloc (.cells #[.int .i64 z1, .int .i64 z2] 40)) := Ext.al Ext.rfl' _
          have HP4 := Lib.hid (HP3.out.ext hE2)
          have HRow4 := Lib.hid (rowst_ext HRow3.out hE2)
          have HM4 := Lib.hid (Mv.trans HM3.out (Mv.of hE2))
          have HBS4 : Hid (B ≤ ((w3.alloc (.cells #[.int .i64 z1, .int .i64 z2] 40)).alloc (.cells #[.int .i64 z1, .int .i64 z2] 40)).heap.size) := Nat.le_trans HBS3.out hE2.size
          have hsz : (w3.alloc (.cells #[.int .i64 z1, .int .i64 z2] 40)).heap.size = w3.heap.size + 1 := by simp
          have hnw := World.news_of_block (cs := #[.int .i64 z1, .int .i64 z2]) (t := 40) (fr := (0, 0)) (heap_alloc_new (w3.alloc (.cells #[.int .i64 z1, .int .i64 z2] 40)) (.cells #[.int .i64 z1, .int .i64 z2] 40))
          rw [hsz] at hnw
          have HNW := Lib.hid hnw
          clear hE2 hsz hnw HP3 HRow3 HM3 HBS3
          obtain ⟨c0, c1, -, -, -⟩ := HC.out
          go_wp2_with (
            at_builtin
            refine wpList_append_own _ rfl (.tmp 30) (.tmp 32) 28 rfl B 40 i0 _ 2 16 Try.underlying28 hi hz0 hz1 hz2 rfl (by omega) u5 acc.length (stCells acc) rfl HRow4.out ⟨w3.heap.size + 1, 0, none⟩ 1 1 [.int .i64 z1, .int .i64 z2] rfl rfl HNW.out (by simp [Value.oneCell']) (by unfold maxLen; omega) (by omega) HBS4.out ?_
            intro v2 w9 hown hg hv2
            have HRow9 : Hid (RowSt w9 B v2 (acc ++ [(z1, z2)])) := by
              unfold Hid RowSt
              rw [show stCells (acc ++ [(z1, z2)]) = stCells acc ++ [.int .i64 z1, .int .i64 z2] by simp [stCells, stCell], List.length_append]
              exact hown
            have HP9 : Hid (BAt w9 g s ⟨k3, 0⟩) := (hg.block g HP4.out.blk.lt (fun e => by have := (own_lt HRow4.out e.symm).2; omega)).trans HP4.out
            have HM9 : Hid (Mv g w w9) := ⟨hg.os.trans HM4.out.os, hg.tape.trans HM4.out.tape, hg.output.trans HM4.out.output, Nat.le_trans HM4.out.size hg.size, fun x hx hn => (hg.block x (Nat.lt_of_lt_of_le hx HM4.out.size) (fun e => by have := (own_lt HRow4.out e.symm).2; have := HBW.out; omega)).trans (HM4.out.block x hx hn)⟩
            have HBS9 : Hid (B ≤ w9.heap.size) := Nat.le_trans HBS4.out hg.size
            clear hown hg hv2 c0 c1 p0 p1 p2 pl)
          go_roundw
          case rel => exact ⟨⟨k3, 0⟩, acc ++ [(z1, z2)], f, HP9.out, HRow9.out, HPF2.out, by have := HDEC.out; have := HF.out; unfold Hid; omega, by have := HAF.out; unfold Hid; simp only [List.length_append, List.length_singleton]; omega, HM9.out, HBS9.out⟩
          case measure =>
            rw [HP9.out.of, HME.out]
            exact HDEC.out
end Go.Proofs.Ytkdbpcenehhopaa

namespace Go.Proofs.Ytkdbpcenehhopaa
open Go.RowKit
theorem inX_touch {w w' : World} {X : List Nat} {r : Nat} (hr : r ∈ X) (ht : Touch r w w') : InX w X w' := ⟨⟨w', by rw [ht.size]; exact Nat.le_refl _, fun k _ hX => ht.block k (fun e => hX (by rw [e]; exact hr))⟩, rfl⟩
theorem blk_same {r : Nat} {t : TypeId} {cs : Array Value} : ∀ (vs : List Value) (o : Nat) (w : World), Blk w r t cs → (∀ j v, vs[j]? = some v → cs[o + j]? = some v) → Blk (w.setCells r o vs) r t cs
  | [], _, _, h, _ => h
  | v :: vs, o, w, h, hv => by
    have e : cs.setIfInBounds o v = cs := by
      have h0 := hv 0 v rfl
      rw [Nat.add_zero] at h0
      obtain ⟨hlt, hget⟩ := Array.getElem?_eq_some_iff.1 h0
      rw [Array.setIfInBounds, dif_pos hlt, ← hget, Array.set_getElem_self]
    have h2 := h.put o v
    rw [e] at h2
    exact blk_same vs (o + 1) _ h2 (fun j u hj => by
      have := hv (j + 1) u (by simpa using hj)
      rw [show o + 1 + j = o + (j + 1) by omega]
      exact this)
theorem inX_blk {w w' : World} {r : Nat} {t : TypeId} {cs : Array Value} (h : Blk w r t cs) (h' : Blk w' r t cs) (ht : Touch r w w') : InX w [] w' := ⟨⟨w', by rw [ht.size]; exact Nat.le_refl _, fun x _ _ => by
  by_cases e : x = r
  · rw [e]; exact h'.trans h.symm
  · exact ht.block x e⟩, rfl⟩
theorem RowN.blk {w : World} {g : Nat} {t : TypeId} {cs : Array Value} (h : Blk w g t cs) : RowN w g cs.size := RowN.of_blk h
theorem stepsP_len (l : Bs) : ∀ (f : Nat) (p : PS) (acc : List (Int × Int)), (stepsP l f p acc).2.length ≤ acc.length + f
  | 0, _, _ => Nat.le_refl _
  | f + 1, p, acc => by
    by_cases hm : psMore l p = true
    · by_cases h0 : (stepP l p).e = 0
      · rw [stepsP_more hm h0]
        have := stepsP_len l f (stepP l p) (acc ++ [stepV l p])
        simp only [List.length_append, List.length_singleton] at this
        omega
      · rw [stepsP_bad hm h0]
        simp only
        omega
    · rw [stepsP_stop (by simpa using hm)]
      simp only
      omega
theorem listV_len (l : Bs) (p : PS) : (listV l p).length ≤ 65538 := by
  unfold listV
  by_cases hm : psMore l p = true
  · have h1 := (more_spec hm).2.2.2
    have h2 := stepsP_len l (l.length + 2) p []
    simp only [List.length_nil] at h2
    omega
  · rw [stepsP_stop (by simpa using hm)]
    simp
theorem steps_none (w : World) : StepsAt w none 0 [] := ⟨rfl, fun h => absurd h (by omega)⟩
def RetBid (w : World) (x : BR) (e : Ending) (w' : World) : Prop := ∃ A c, e = .returned (.tuple #[.agg #[.int .i64 x.b, .slice A x.xs.length c], .int .i64 x.nx, .int .i64 x.e]) ∧ StepsAt w' A x.xs.length x.xs ∧ Ext w w'
def RetUnit (w : World) (x : UR) (e : Ending) (w' : World) : Prop := ∃ A c, e = .returned (.tuple #[x.u.val A x.u.steps.length c, .int .i64 x.nx, .int .i64 x.e]) ∧ StepsAt w' A x.u.steps.length x.u.steps ∧ Ext w w'
set_option maxHeartbeats 4000000 in
theorem bcheck_any (b : Int) (A : Option Addr) (n c : Nat) (xs : List (Int × Int)) (w : World) (hs : StepsAt w A n xs) (hn : n ≤ maxLen) :
    Calls Try.prog 21 #[.agg #[.int .i64 b, .slice A n c]] w fun e w' => e = .returned (.int .i64 (bidC b xs)) ∧ Ext w w' := by
  have H := Lib.hid hs
  clear hs
  have HE := Lib.hid (show Ext w (w.alloc (.cells #[.int .i64 b, .slice A n c] 33)) from Ext.al Ext.rfl' _)
  have HC := Lib.hid (Cell2.new w _ rfl (.int .i64 b) (.slice A n c) 33)
  obtain ⟨X, hX⟩ : ∃ X, bidC b xs = X := ⟨_, rfl⟩
  rw [hX]
  have HX : Hid (X = if b < 0 ∨ 6 ≤ b then 1 else chk false xs) := hX.symm
  clear hX
  by_cases h0 : b < 0
  · have t0 : decide (b < 0) = true := decide_eq_true h0
    obtain rfl : X = 1 := by rw [HX.out, if_pos (.inl h0)]
    clear h0
    go_enter Try.func21, Try.ntmps21
    obtain ⟨c0, c1, -, -, -⟩ := HC.out
    go_wp2_with fail
    go_ret
    exact ⟨rfl, HE.out⟩
  · have t0 : decide (b < 0) = false := decide_eq_false h0
    by_cases h1 : 6 ≤ b
    · have t1 : decide (6 ≤ b) = true := decide_eq_true h1
      obtain rfl : X = 1 := by rw [HX.out, if_pos (.inr h1)]
      clear h0 h1
      go_enter Try.func21, Try.ntmps21
      obtain ⟨c0, c1, -, -, -⟩ := HC.out
      go_wp2_with fail
      go_ret
      exact ⟨rfl, HE.out⟩
    · have t1 : decide (6 ≤ b) = false := decide_eq_false h1
      obtain rfl : X = chk false xs := by rw [HX.out, if_neg (by omega)]
      clear h0 h1
      go_enter Try.func21, Try.ntmps21
      obtain ⟨c0, c1, -, -, -⟩ := HC.out
      go_wp2_with fail
      clear c0 c1
      refine (checkBid_any A n c xs _ (H.out.below HE.out) hn).mono ?_
      rintro e w2 ⟨rfl, hE⟩
      go_wp2_with fail
      go_ret
      exact ⟨rfl, Ext.trans HE.out hE⟩
set_option maxRecDepth 100000 in
set_option maxHeartbeats 32000000 in
theorem parsebid_any (s : ByteArray) (k : Int) (w : World) (hs : s.size ≤ maxLen) :
    Calls Try.prog 16 #[.string s, .int .i64 k] w (RetBid w (bidR s.data.toList k)) := by
  obtain ⟨NF, hNF⟩ : ∃ x, bidR s.data.toList k = x := ⟨_, rfl⟩
  rw [hNF]
  have HN := Lib.hid hNF
  have HS := Lib.hid hs
  clear hNF hs
  go_enter Try.func16, Try.ntmps16
  go_wp2_with fail
  have hP0 : BAt ((w.alloc (.cells #[.int .i64 0, .slice none 0 0] 33)).alloc (.cells #[.string s, .int .i64 k, .int .i64 0] 60)) (w.heap.size + 1) s ⟨k, 0⟩ := by
    have := Blk.new (w.alloc (.cells #[.int .i64 0, .slice none 0 0] 33)) 60 #[.string s, .int .i64 k, .int .i64 0]
    simp only [World.size_alloc] at this
    exact this
  have hB0 : Blk ((w.alloc (.cells #[.int .i64 0, .slice none 0 0] 33)).alloc (.cells #[.string s, .int .i64 k, .int .i64 0] 60)) w.heap.size 33 #[.int .i64 0, .slice none 0 0] := (Blk.new w 33 _).alloc _
  have hE0 : Ext w ((w.alloc (.cells #[.int .i64 0, .slice none 0 0] 33)).alloc (.cells #[.string s, .int .i64 k, .int .i64 0] 60)) := Ext.al (Ext.al Ext.rfl' _) _
  generalize ((w.alloc (.cells #[.int .i64 0, .slice none 0 0] 33)).alloc (.cells #[.string s, .int .i64 k, .int .i64 0] 60)) = w0 at *
  obtain ⟨r, hr⟩ : ∃ r, w.heap.size = r := ⟨_, rfl⟩
  rw [hr] at hP0 hB0 ⊢
  obtain ⟨g, hg⟩ : ∃ g, r + 1 = g := ⟨_, rfl⟩
  rw [hg] at hP0 ⊢
  have hgr : r < g := by omega
  have HP0 := Lib.hid hP0
  have HB0 := Lib.hid hB0
  have HE0 := Lib.hid hE0
  have HR := Lib.hid hr
  clear hP0 hB0 hE0 hr hg
  refine (bexpect_any g s ⟨k, 0⟩ 1 w0 HP0.out HS.out).mono ?_
  rintro e w1 ⟨rfl, hp, hm⟩
  have HP1 := Lib.hid hp
  have HB1 := Lib.hid (blk_mv HB0.out hm (by omega))
  have HE1 := Lib.hid (Mv.ext hm HE0.out (by rw [HR.out]; omega))
  clear hp hm HP0 HB0 HE0
  go_wp2_with fail
  refine (bword_any g s _ ⟨#[98, 105, 100]⟩ w1 HP1.out HS.out).mono ?_
  rintro e w2 ⟨rfl, hp, hm⟩
  have HP2 : Hid (BAt w2 g s (bidHd s.data.toList k)) := hp
  have HB2 := Lib.hid (blk_mv HB1.out hm (by omega))
  have HE2 := Lib.hid (Mv.ext hm HE1.out (by rw [HR.out]; omega))
  clear hp hm HP1 HB1 HE1
  go_wp2_with fail
  have HNR : Hid (NF = bidEnd (psE s.data.toList (listP s.data.toList (psI s.data.toList (bidHd s.data.toList k))) 2) (psV s.data.toList (bidHd s.data.toList k)) (listV s.data.toList (psI s.data.toList (bidHd s.data.toList k)))) := HN.out.symm
  clear HN
  generalize bidHd s.data.toList k = ph at *
  refine (bint_any g s ph w2 HP2.out HS.out).mono ?_
  rintro e w3 ⟨rfl, hp, hm⟩
  obtain ⟨v0, hbv⟩ : ∃ b, psV s.data.toList ph = b := ⟨_, rfl⟩
  rw [hbv] at HNR ⊢
  clear hbv
  generalize psI s.data.toList ph = p0x at *
  have HP3 := Lib.hid hp
  have HB3 := Lib.hid (blk_mv HB2.out hm (by omega))
  have HE3 := Lib.hid (Mv.ext hm HE2.out (by rw [HR.out]; omega))
  clear hp hm HP2 HB2 HE2
  have x0 : w3.cell? ⟨r, 0, none⟩ = some (.int .i64 0) := by rw [HB3.out.cell]; rfl
  have f0 := HB3.out.frozen 0
  go_wp2_with fail
  clear x0 f0
  have HB4 : Hid (Blk (w3.setCell ⟨r, 0, none⟩ (.int .i64 v0)) r 33 #[.int .i64 v0, .slice none 0 0]) := HB3.out.put 0 _
  have HP4 : Hid (BAt (w3.setCell ⟨r, 0, none⟩ (.int .i64 v0)) g s p0x) := HP3.out.touch ((Touch.refl r w3).set 0 _) (by omega)
  have HE4 : Hid (Ext w (w3.setCell ⟨r, 0, none⟩ (.int .i64 v0))) := Below.setCell HE3.out (p := ⟨r, 0, none⟩) (by rw [HR.out]; exact Nat.le_refl _) _
  clear HP3 HB3 HE3
  generalize (w3.setCell ⟨r, 0, none⟩ (.int .i64 v0)) = w4 at *
  refine (blist_any g s p0x w4 HP4.out HS.out).mono ?_
  rintro e w5 ⟨⟨v, rfl, hrow⟩, hp, hm⟩
  obtain ⟨xs, hxs⟩ : ∃ xs, listV s.data.toList p0x = xs := ⟨_, rfl⟩
  have HXL : Hid (xs.length ≤ 65538) := by rw [← hxs]; exact listV_len _ _
  rw [hxs] at HNR hrow
  clear hxs
  generalize listP s.data.toList p0x = pl at *
  obtain ⟨A, c, rfl, hst⟩ := hrow.steps
  obtain ⟨B, hB⟩ : ∃ B, w4.heap.size = B := ⟨_, rfl⟩
  rw [hB] at hrow
  have hrB : r < B := by have := HB4.out.lt; omega
  have hgB : g < B := by have := HP4.out.blk.lt; omega
  have HRow := Lib.hid hrow
  have HP5 := Lib.hid hp
  have HB5 := Lib.hid (blk_mv HB4.out hm (by omega))
  have HE5 := Lib.hid (Mv.ext hm HE4.out (by rw [HR.out]; omega))
  clear hp hm hrow hst hB HP4 HB4 HE4
  have x0 : w5.cell? ⟨r, 1, none⟩ = some (.slice none 0 0) := by rw [HB5.out.cell]; rfl
  have f0 := HB5.out.frozen 1
  go_wp2_with fail
  clear x0 f0
  have HB6 : Hid (Blk (w5.setCell ⟨r, 1, none⟩ (.slice A xs.length c)) r 33 #[.int .i64 v0, .slice A xs.length c]) := HB5.out.put 1 _
  have HP6 : Hid (BAt (w5.setCell ⟨r, 1, none⟩ (.slice A xs.length c)) g s pl) := HP5.out.touch ((Touch.refl r w5).set 1 _) (by omega)
  have HE6 : Hid (Ext w (w5.setCell ⟨r, 1, none⟩ (.slice A xs.length c))) := Below.setCell HE5.out (p := ⟨r, 1, none⟩) (by rw [HR.out]; exact Nat.le_refl _) _
  have HRow2 := Lib.hid (rowst_touch HRow.out ((Touch.refl r w5).set 1 (.slice A xs.length c)) hrB)
  clear HP5 HB5 HE5 HRow
  generalize (w5.setCell ⟨r, 1, none⟩ (.slice A xs.length c)) = w6 at *
  refine (bexpect_any g s pl 2 w6 HP6.out HS.out).mono ?_
  rintro e w6 ⟨rfl, hp, hm⟩
  generalize psE s.data.toList pl 2 = p6 at *
  obtain ⟨k6, e6⟩ := p6
  have HP6 := Lib.hid hp
  have HB6 := Lib.hid (blk_mv HB6.out hm (by omega))
  have HE6 := Lib.hid (Mv.ext hm HE6.out (by rw [HR.out]; omega))
  have HR6 := Lib.hid (rowst_mv HRow2.out hm hgB)
  clear hp hm HRow2
  obtain ⟨⟨z0, z1, z2⟩, q1, q2, zl⟩ := HP6.out.cells
  simp only at z1 z2
  have HD : Hid (NF = if e6 ≠ 0 then (⟨0, [], 0, e6⟩ : BR) else if bidC v0 xs ≠ 0 then (⟨0, [], 0, bidC v0 xs⟩ : BR) else (⟨v0, xs, k6, 0⟩ : BR)) := HNR.out
  clear HNR
  by_cases h6 : e6 = 0
  rotate_left
  · have hb2 : (e6 != 0) = true := by simp [h6]
    have HRES : Hid (NF = (⟨0, [], 0, e6⟩ : BR)) := by unfold Hid; rw [HD.out, if_pos h6]
    clear h6 HD
    go_wp2_with fail
    clear z0 z1 z2 q1 q2 zl
    have HEX : Hid (Ext w6 w6.drew) := Ext.rfl'.drew
    have hB9 : Blk w6.drew r 33 #[.int .i64 v0, .slice A xs.length c] := HB6.out.keep (HEX.out.block r HB6.out.lt)
    have hP9 := HP6.out.ext HEX.out
    have hR9 := rowst_ext HR6.out HEX.out
    have hE9 := Ext.trans HE6.out HEX.out
    refine wp_region_lexS (C := InX w6.drew [r]) (by kernel_rfl) (by kernel_rfl) (inX_self _ _) ?_
    generalize w6.drew = w9 at *
    obtain ⟨⟨z0, z1, z2⟩, -, -, -⟩ := hP9.cells
    have HB9 := Lib.hid hB9
    have zz1 := fun z : ExtX w9 [r] => z.cell (p := ⟨g, 1, none⟩) z1 (by simp; omega)
    have zz2 := fun z : ExtX w9 [r] => z.cell (p := ⟨g, 2, none⟩) z2 (by simp; omega)
    have HE9 := Lib.hid hE9
    have HR9 := Lib.hid hR9
    clear z0 z1 z2 hE9 hR9 hP9 hB9
    repeat (refine lexAt_still (by rfl) ?_; go_big_quiet_step (fail); refine wpQuiet_nil ?_)
    have HT := Lib.hid ((RowN.blk HB9.out).there (o := 0) (k := 2) (by simp))
    refine lexAt_move (by rfl) (by kernel_rfl) ?_
    refine wpList_storeV rfl 33 _ _ rfl r 0 [.int .i64 0, .slice none 0 0] rfl rfl HT.out (by kernel_rfl) rfl ?_
    intro wf hpv
    go_wp2_with fail
    have HPV := Lib.hid hpv
    clear hpv
    refine And.intro (inX_touch (by simp) HPV.out.touch) ?_
    repeat (refine lexAt_still (by rfl) ?_; go_big_quiet_step (fail); refine wpQuiet_nil ?_)
    refine lexAt_nil ?_
    clear zz1 zz2
    have HEf : Hid (Ext w wf) := HPV.out.touch.ext w HE9.out (by rw [HR.out]; exact Nat.le_refl _)
    go_wp2_with fail
    have y0 := HPV.out.here 0 _ rfl
    have y1 := HPV.out.here 1 _ rfl
    simp only [Nat.zero_add] at y0 y1
    refine bodyPost_ret (v := .tuple #[.agg #[.int .i64 0, .slice none 0 0], .int .i64 0, .int .i64 e6]) (by simp [results, Try.results16, go_sem, y0, y1]) rfl ?_
    rw [HRES.out]
    exact ⟨none, 0, rfl, steps_none _, HEf.out⟩
  · subst h6
    have HD2 : Hid (NF = if bidC v0 xs ≠ 0 then (⟨0, [], 0, bidC v0 xs⟩ : BR) else (⟨v0, xs, k6, 0⟩ : BR)) := by unfold Hid; rw [HD.out, if_neg (by simp)]
    clear HD
    have x0 : w6.cell? ⟨r, 0, none⟩ = some (.int .i64 v0) := by rw [HB6.out.cell]; rfl
    have x1 : w6.cell? ⟨r, 1, none⟩ = some (.slice A xs.length c) := by rw [HB6.out.cell]; rfl
    go_wp2_with fail
    clear x0 x1 z0 z1 z2 q1 q2 zl
    refine (bcheck_any v0 A xs.length c xs w6 HR6.out.at (by have := HXL.out; unfold maxLen; omega)).mono ?_
    rintro e w7 ⟨rfl, hE7⟩
    generalize bidC v0 xs = ec at *
    have HP7 := Lib.hid (HP6.out.ext hE7)
    have HB7 := Lib.hid (HB6.out.keep (hE7.block r HB6.out.lt))
    have HE7 := Lib.hid (Ext.trans HE6.out hE7)
    have HR7 := Lib.hid (rowst_ext HR6.out hE7)
    clear hE7 HP6 HB6 HE6 HR6
    obtain ⟨⟨z0, z1, z2⟩, q1, q2, zl⟩ := HP7.out.cells
    simp only at z1 z2
    by_cases hec : ec = 0
    rotate_left
    · have hb2 : (ec != 0) = true := by simp [hec]
      have HRES : Hid (NF = (⟨0, [], 0, ec⟩ : BR)) := by unfold Hid; rw [HD2.out, if_pos hec]
      clear hec HD2
      have HT := Lib.hid ((RowN.blk HB7.out).there (o := 0) (k := 2) (by simp))
      go_wp2_with (
        refine wpList_storeV rfl 33 _ _ rfl r 0 [.int .i64 0, .slice none 0 0] rfl rfl HT.out (by kernel_rfl) rfl ?_
        intro wf hpv
        have HPV := Lib.hid hpv
        clear hpv)
      have y0 := HPV.out.here 0 _ rfl
      have y1 := HPV.out.here 1 _ rfl
      simp only [Nat.zero_add] at y0 y1
      have HEf : Hid (Ext w wf) := HPV.out.touch.ext w HE7.out (by rw [HR.out]; exact Nat.le_refl _)
      refine bodyPost_ret (v := .tuple #[.agg #[.int .i64 0, .slice none 0 0], .int .i64 0, .int .i64 ec]) (by simp [results, Try.results16, go_sem, y0, y1]) rfl ?_
      rw [HRES.out]
      exact ⟨none, 0, rfl, steps_none _, HEf.out⟩
    · subst hec
      have HRES : Hid (NF = (⟨v0, xs, k6, 0⟩ : BR)) := by unfold Hid; rw [HD2.out, if_neg (by simp)]
      clear HD2
      go_wp2_with fail
      clear z0 z1 z2 q1 q2 zl
      have HEX : Hid (Ext w7 w7.drew) := Ext.rfl'.drew
      have hB9 : Blk w7.drew r 33 #[.int .i64 v0, .slice A xs.length c] := HB7.out.keep (HEX.out.block r HB7.out.lt)
      have hP9 := HP7.out.ext HEX.out
      have hR9 := rowst_ext HR7.out HEX.out
      have hE9 := Ext.trans HE7.out HEX.out
      refine wp_region_lexS (C := InX w7.drew []) (by kernel_rfl) (by kernel_rfl) (inX_self _ _) ?_
      generalize w7.drew = w9 at *
      obtain ⟨⟨z0, z1, z2⟩, -, -, -⟩ := hP9.cells
      have HB9 := Lib.hid hB9
      have zz1 := fun z : ExtX w9 [] => z.cell (p := ⟨g, 1, none⟩) z1 (by simp)
      have zz2 := fun z : ExtX w9 [] => z.cell (p := ⟨g, 2, none⟩) z2 (by simp)
      have b0 : w9.cell? ⟨r, 0, none⟩ = some (.int .i64 v0) := by rw [HB9.out.cell]; rfl
      have bb0 := fun z : ExtX w9 [] => z.cell (p := ⟨r, 0, none⟩) b0 (by simp)
      have b1 : w9.cell? ⟨r, 1, none⟩ = some (.slice A xs.length c) := by rw [HB9.out.cell]; rfl
      have bb1 := fun z : ExtX w9 [] => z.cell (p := ⟨r, 1, none⟩) b1 (by simp)
      have HE9 := Lib.hid hE9
      have HR9 := Lib.hid hR9
      clear z0 z1 z2 hE9 hR9 hP9 hB9 b0 b1
      repeat (refine lexAt_still (by rfl) ?_; go_big_quiet_step (fail); refine wpQuiet_nil ?_)
      have HT := Lib.hid ((RowN.blk HB9.out).there (o := 0) (k := 2) (by simp))
      refine lexAt_move (by rfl) (by kernel_rfl) ?_
      refine wpList_store_mid rfl 33 _ _ rfl r 0 #[.int .i64 v0, .slice A xs.length c] rfl rfl HT.out (by kernel_rfl) (by simp [Value.oneCell']) ?_
      have HPV := Lib.hid (putVs_set (vs := [.int .i64 v0, .slice A xs.length c]) HT.out)
      have hBf : Blk (w9.setCells r 0 [.int .i64 v0, .slice A xs.length c]) r 33 #[.int .i64 v0, .slice A xs.length c] := blk_same _ 0 w9 HB9.out (fun j v hj => by simpa using hj)
      change wpList _ _ _ _ _ (w9.setCells r 0 [.int .i64 v0, .slice A xs.length c])
      have HBf := Lib.hid hBf
      clear hBf
      generalize (w9.setCells r 0 [.int .i64 v0, .slice A xs.length c]) = wf at *
      go_wp2_with fail
      refine And.intro (inX_blk HB9.out HBf.out HPV.out.touch) ?_
      repeat (refine lexAt_still (by rfl) ?_; go_big_quiet_step (fail); refine wpQuiet_nil ?_)
      refine lexAt_nil ?_
      clear zz1 zz2 bb0 bb1
      have HEf : Hid (Ext w wf) := HPV.out.touch.ext w HE9.out (by rw [HR.out]; exact Nat.le_refl _)
      have HRf := Lib.hid (rowst_touch HR9.out HPV.out.touch hrB)
      go_wp2_with fail
      have y0 := HPV.out.here 0 _ rfl
      have y1 := HPV.out.here 1 _ rfl
      simp only [Nat.zero_add] at y0 y1
      refine bodyPost_ret (v := .tuple #[.agg #[.int .i64 v0, .slice A xs.length c], .int .i64 k6, .int .i64 0]) (by simp [results, Try.results16, go_sem, y0, y1]) rfl ?_
      rw [HRES.out]
      exact ⟨A, c, rfl, HRf.out.at, HEf.out⟩
set_option maxRecDepth 100000 in
set_option maxHeartbeats 32000000 in
theorem parseunit_any (s : ByteArray) (k : Int) (w : World) (hs : s.size ≤ maxLen) :
    Calls Try.prog 15 #[.string s, .int .i64 k] w (RetUnit w (unitR s.data.toList k)) := by
  obtain ⟨NF, hNF⟩ : ∃ x, unitR s.data.toList k = x := ⟨_, rfl⟩
  rw [hNF]
  have HN := Lib.hid hNF
  have HS := Lib.hid hs
  clear hNF hs
  go_enter Try.func15, Try.ntmps15
  go_wp2_with fail
  have hP0 : BAt ((w.alloc (.cells #[.int .i64 0, .int .i64 0, .slice none 0 0, .int .i64 0, .int .i64 0, .int .i64 0, .int .i64 0, .int .i64 0, .int .i64 0] 30)).alloc (.cells #[.string s, .int .i64 k, .int .i64 0] 60)) (w.heap.size + 1) s ⟨k, 0⟩ := by
    have := Blk.new (w.alloc (.cells #[.int .i64 0, .int .i64 0, .slice none 0 0, .int .i64 0, .int .i64 0, .int .i64 0, .int .i64 0, .int .i64 0, .int .i64 0] 30)) 60 #[.string s, .int .i64 k, .int .i64 0]
    simp only [World.size_alloc] at this
    exact this
  have hB0 : Blk ((w.alloc (.cells #[.int .i64 0, .int .i64 0, .slice none 0 0, .int .i64 0, .int .i64 0, .int .i64 0, .int .i64 0, .int .i64 0, .int .i64 0] 30)).alloc (.cells #[.string s, .int .i64 k, .int .i64 0] 60)) w.heap.size 30 #[.int .i64 0, .int .i64 0, .slice none 0 0, .int .i64 0, .int .i64 0, .int .i64 0, .int .i64 0, .int .i64 0, .int .i64 0] := (Blk.new w 30 _).alloc _
  have hE0 : Ext w ((w.alloc (.cells #[.int .i64 0, .int .i64 0, .slice none 0 0, .int .i64 0, .int .i64 0, .int .i64 0, .int .i64 0, .int .i64 0, .int .i64 0] 30)).alloc (.cells #[.string s, .int .i64 k, .int .i64 0] 60)) := Ext.al (Ext.al Ext.rfl' _) _
  generalize ((w.alloc (.cells #[.int .i64 0, .int .i64 0, .slice none 0 0, .int .i64 0, .int .i64 0, .int .i64 0, .int .i64 0, .int .i64 0, .int .i64 0] 30)).alloc (.cells #[.string s, .int .i64 k, .int .i64 0] 60)) = w0 at *
  obtain ⟨r, hr⟩ : ∃ r, w.heap.size = r := ⟨_, rfl⟩
  rw [hr] at hP0 hB0 ⊢
  obtain ⟨g, hg⟩ : ∃ g, r + 1 = g := ⟨_, rfl⟩
  rw [hg] at hP0 ⊢
  have hgr : r < g := by omega
  have HP0 := Lib.hid hP0
  have HB0 := Lib.hid hB0
  have HE0 := Lib.hid hE0
  have HR := Lib.hid hr
  clear hP0 hB0 hE0 hr hg
  refine (bexpect_any g s ⟨k, 0⟩ 1 w0 HP0.out HS.out).mono ?_
  rintro e w1 ⟨rfl, hp, hm⟩
  have HP1 := Lib.hid hp
  have HB1 := Lib.hid (blk_mv HB0.out hm (by omega))
  have HE1 := Lib.hid (Mv.ext hm HE0.out (by rw [HR.out]; omega))
  clear hp hm HP0 HB0 HE0
  go_wp2_with fail
  refine (bword_any g s _ ⟨#[117, 110, 105, 116]⟩ w1 HP1.out HS.out).mono ?_
  rintro e w2 ⟨rfl, hp, hm⟩
  have HP2 : Hid (BAt w2 g s (unitHd s.data.toList k)) := hp
  have HB2 := Lib.hid (blk_mv HB1.out hm (by omega))
  have HE2 := Lib.hid (Mv.ext hm HE1.out (by rw [HR.out]; omega))
  clear hp hm HP1 HB1 HE1
  go_wp2_with fail
  have HNR : Hid (NF = unitEnd (psE s.data.toList (listP s.data.toList (psI s.data.toList (psI s.data.toList (psI s.data.toList (psI s.data.toList (psI s.data.toList (psI s.data.toList (psI s.data.toList (psI s.data.toList (unitHd s.data.toList k)))))))))) 2) ⟨(psV s.data.toList (unitHd s.data.toList k)), (psV s.data.toList (psI s.data.toList (unitHd s.data.toList k))), (psV s.data.toList (psI s.data.toList (psI s.data.toList (unitHd s.data.toList k)))), (psV s.data.toList (psI s.data.toList (psI s.data.toList (psI s.data.toList (unitHd s.data.toList k))))), (psV s.data.toList (psI s.data.toList (psI s.data.toList (psI s.data.toList (psI s.data.toList (unitHd s.data.toList k)))))), (psV s.data.toList (psI s.data.toList (psI s.data.toList (psI s.data.toList (psI s.data.toList (psI s.data.toList (unitHd s.data.toList k))))))), (psV s.data.toList (psI s.data.toList (psI s.data.toList (psI s.data.toList (psI s.data.toList (psI s.data.toList (psI s.data.toList (unitHd s.data.toList k)))))))), (psV s.data.toList (psI s.data.toList (psI s.data.toList (psI s.data.toList (psI s.data.toList (psI s.data.toList (psI s.data.toList (psI s.data.toList (unitHd s.data.toList k))))))))), listV s.data.toList (psI s.data.toList (psI s.data.toList (psI s.data.toList (psI s.data.toList (psI s.data.toList (psI s.data.toList (psI s.data.toList (psI s.data.toList (unitHd s.data.toList k)))))))))⟩) := HN.out.symm
  clear HN
  generalize unitHd s.data.toList k = ph at *
  refine (bint_any g s ph w2 HP2.out HS.out).mono ?_
  rintro e w3 ⟨rfl, hp, hm⟩
  obtain ⟨v0, hbv⟩ : ∃ b, psV s.data.toList ph = b := ⟨_, rfl⟩
  rw [hbv] at HNR ⊢
  clear hbv
  generalize psI s.data.toList ph = p0x at *
  have HP3 := Lib.hid hp
  have HB3 := Lib.hid (blk_mv HB2.out hm (by omega))
  have HE3 := Lib.hid (Mv.ext hm HE2.out (by rw [HR.out]; omega))
  clear hp hm HP2 HB2 HE2
  have x0 : w3.cell? ⟨r, 0, none⟩ = some (.int .i64 0) := by rw [HB3.out.cell]; rfl
  have f0 := HB3.out.frozen 0
  go_wp2_with fail
  clear x0 f0
  have HB4 : Hid (Blk (w3.setCell ⟨r, 0, none⟩ (.int .i64 v0)) r 30 #[.int .i64 v0, .int .i64 0, .slice none 0 0, .int .i64 0, .int .i64 0, .int .i64 0, .int .i64 0, .int .i64 0, .int .i64 0]) := HB3.out.put 0 _
  have HP4 : Hid (BAt (w3.setCell ⟨r, 0, none⟩ (.int .i64 v0)) g s p0x) := HP3.out.touch ((Touch.refl r w3).set 0 _) (by omega)
  have HE4 : Hid (Ext w (w3.setCell ⟨r, 0, none⟩ (.int .i64 v0))) := Below.setCell HE3.out (p := ⟨r, 0, none⟩) (by rw [HR.out]; exact Nat.le_refl _) _
  clear HP3 HB3 HE3
  generalize (w3.setCell ⟨r, 0, none⟩ (.int .i64 v0)) = w4 at *
  refine (bint_any g s p0x w4 HP4.out HS.out).mono ?_
  rintro e w5 ⟨rfl, hp, hm⟩
  obtain ⟨v1, hbv⟩ : ∃ b, psV s.data.toList p0x = b := ⟨_, rfl⟩
  rw [hbv] at HNR ⊢
  clear hbv
  generalize psI s.data.toList p0x = p1x at *
  have HP5 := Lib.hid hp
  have HB5 := Lib.hid (blk_mv HB4.out hm (by omega))
  have HE5 := Lib.hid (Mv.ext hm HE4.out (by rw [HR.out]; omega))
  clear hp hm HP4 HB4 HE4
  have x0 : w5.cell? ⟨r, 1, none⟩ = some (.int .i64 0) := by rw [HB5.out.cell]; rfl
  have f0 := HB5.out.frozen 1
  go_wp2_with fail
  clear x0 f0
  have HB6 : Hid (Blk (w5.setCell ⟨r, 1, none⟩ (.int .i64 v1)) r 30 #[.int .i64 v0, .int .i64 v1, .slice none 0 0, .int .i64 0, .int .i64 0, .int .i64 0, .int .i64 0, .int .i64 0, .int .i64 0]) := HB5.out.put 1 _
  have HP6 : Hid (BAt (w5.setCell ⟨r, 1, none⟩ (.int .i64 v1)) g s p1x) := HP5.out.touch ((Touch.refl r w5).set 1 _) (by omega)
  have HE6 : Hid (Ext w (w5.setCell ⟨r, 1, none⟩ (.int .i64 v1))) := Below.setCell HE5.out (p := ⟨r, 1, none⟩) (by rw [HR.out]; exact Nat.le_refl _) _
  clear HP5 HB5 HE5
  generalize (w5.setCell ⟨r, 1, none⟩ (.int .i64 v1)) = w6 at *
  refine (bint_any g s p1x w6 HP6.out HS.out).mono ?_
  rintro e w7 ⟨rfl, hp, hm⟩
  obtain ⟨v3, hbv⟩ : ∃ b, psV s.data.toList p1x = b := ⟨_, rfl⟩
  rw [hbv] at HNR ⊢
  clear hbv
  generalize psI s.data.toList p1x = p2x at *
  have HP7 := Lib.hid hp
  have HB7 := Lib.hid (blk_mv HB6.out hm (by omega))
  have HE7 := Lib.hid (Mv.ext hm HE6.out (by rw [HR.out]; omega))
  clear hp hm HP6 HB6 HE6
  have x0 : w7.cell? ⟨r, 3, none⟩ = some (.int .i64 0) := by rw [HB7.out.cell]; rfl
  have f0 := HB7.out.frozen 3
  go_wp2_with fail
  clear x0 f0
  have HB8 : Hid (Blk (w7.setCell ⟨r, 3, none⟩ (.int .i64 v3)) r 30 #[.int .i64 v0, .int .i64 v1, .slice none 0 0, .int .i64 v3, .int .i64 0, .int .i64 0, .int .i64 0, .int .i64 0, .int .i64 0]) := HB7.out.put 3 _
  have HP8 : Hid (BAt (w7.setCell ⟨r, 3, none⟩ (.int .i64 v3)) g s p2x) := HP7.out.touch ((Touch.refl r w7).set 3 _) (by omega)
  have HE8 : Hid (Ext w (w7.setCell ⟨r, 3, none⟩ (.int .i64 v3))) := Below.setCell HE7.out (p := ⟨r, 3, none⟩) (by rw [HR.out]; exact Nat.le_refl _) _
  clear HP7 HB7 HE7
  generalize (w7.setCell ⟨r, 3, none⟩ (.int .i64 v3)) = w8 at *
  refine (bint_any g s p2x w8 HP8.out HS.out).mono ?_
  rintro e w9 ⟨rfl, hp, hm⟩
  obtain ⟨v4, hbv⟩ : ∃ b, psV s.data.toList p2x = b := ⟨_, rfl⟩
  rw [hbv] at HNR ⊢
  clear hbv
  generalize psI s.data.toList p2x = p3x at *
  have HP9 := Lib.hid hp
  have HB9 := Lib.hid (blk_mv HB8.out hm (by omega))
  have HE9 := Lib.hid (Mv.ext hm HE8.out (by rw [HR.out]; omega))
  clear hp hm HP8 HB8 HE8
  have x0 : w9.cell? ⟨r, 4, none⟩ = some (.int .i64 0) := by rw [HB9.out.cell]; rfl
  have f0 := HB9.out.frozen 4
  go_wp2_with fail
  clear x0 f0
  have HB10 : Hid (Blk (w9.setCell ⟨r, 4, none⟩ (.int .i64 v4)) r 30 #[.int .i64 v0, .int .i64 v1, .slice none 0 0, .int .i64 v3, .int .i64 v4, .int .i64 0, .int .i64 0, .int .i64 0, .int .i64 0]) := HB9.out.put 4 _
  have HP10 : Hid (BAt (w9.setCell ⟨r, 4, none⟩ (.int .i64 v4)) g s p3x) := HP9.out.touch ((Touch.refl r w9).set 4 _) (by omega)
  have HE10 : Hid (Ext w (w9.setCell ⟨r, 4, none⟩ (.int .i64 v4))) := Below.setCell HE9.out (p := ⟨r, 4, none⟩) (by rw [HR.out]; exact Nat.le_refl _) _
  clear HP9 HB9 HE9
  generalize (w9.setCell ⟨r, 4, none⟩ (.int .i64 v4)) = w10 at *
  refine (bint_any g s p3x w10 HP10.out HS.out).mono ?_
  rintro e w11 ⟨rfl, hp, hm⟩
  obtain ⟨v5, hbv⟩ : ∃ b, psV s.data.toList p3x = b := ⟨_, rfl⟩
  rw [hbv] at HNR ⊢
  clear hbv
  generalize psI s.data.toList p3x = p4x at *
  have HP11 := Lib.hid hp
  have HB11 := Lib.hid (blk_mv HB10.out hm (by omega))
  have HE11 := Lib.hid (Mv.ext hm HE10.out (by rw [HR.out]; omega))
  clear hp hm HP10 HB10 HE10
  have x0 : w11.cell? ⟨r, 5, none⟩ = some (.int .i64 0) := by rw [HB11.out.cell]; rfl
  have f0 := HB11.out.frozen 5
  go_wp2_with fail
  clear x0 f0
  have HB12 : Hid (Blk (w11.setCell ⟨r, 5, none⟩ (.int .i64 v5)) r 30 #[.int .i64 v0, .int .i64 v1, .slice none 0 0, .int .i64 v3, .int .i64 v4, .int .i64 v5, .int .i64 0, .int .i64 0, .int .i64 0]) := HB11.out.put 5 _
  have HP12 : Hid (BAt (w11.setCell ⟨r, 5, none⟩ (.int .i64 v5)) g s p4x) := HP11.out.touch ((Touch.refl r w11).set 5 _) (by omega)
  have HE12 : Hid (Ext w (w11.setCell ⟨r, 5, none⟩ (.int .i64 v5))) := Below.setCell HE11.out (p := ⟨r, 5, none⟩) (by rw [HR.out]; exact Nat.le_refl _) _
  clear HP11 HB11 HE11
  generalize (w11.setCell ⟨r, 5, none⟩ (.int .i64 v5)) = w12 at *
  refine (bint_any g s p4x w12 HP12.out HS.out).mono ?_
  rintro e w13 ⟨rfl, hp, hm⟩
  obtain ⟨v6, hbv⟩ : ∃ b, psV s.data.toList p4x = b := ⟨_, rfl⟩
  rw [hbv] at HNR ⊢
  clear hbv
  generalize psI s.data.toList p4x = p5x at *
  have HP13 := Lib.hid hp
  have HB13 := Lib.hid (blk_mv HB12.out hm (by omega))
  have HE13 := Lib.hid (Mv.ext hm HE12.out (by rw [HR.out]; omega))
  clear hp hm HP12 HB12 HE12
  have x0 : w13.cell? ⟨r, 6, none⟩ = some (.int .i64 0) := by rw [HB13.out.cell]; rfl
  have f0 := HB13.out.frozen 6
  go_wp2_with fail
  clear x0 f0
  have HB14 : Hid (Blk (w13.setCell ⟨r, 6, none⟩ (.int .i64 v6)) r 30 #[.int .i64 v0, .int .i64 v1, .slice none 0 0, .int .i64 v3, .int .i64 v4, .int .i64 v5, .int .i64 v6, .int .i64 0, .int .i64 0]) := HB13.out.put 6 _
  have HP14 : Hid (BAt (w13.setCell ⟨r, 6, none⟩ (.int .i64 v6)) g s p5x) := HP13.out.touch ((Touch.refl r w13).set 6 _) (by omega)
  have HE14 : Hid (Ext w (w13.setCell ⟨r, 6, none⟩ (.int .i64 v6))) := Below.setCell HE13.out (p := ⟨r, 6, none⟩) (by rw [HR.out]; exact Nat.le_refl _) _
  clear HP13 HB13 HE13
  generalize (w13.setCell ⟨r, 6, none⟩ (.int .i64 v6)) = w14 at *
  refine (bint_any g s p5x w14 HP14.out HS.out).mono ?_
  rintro e w15 ⟨rfl, hp, hm⟩
  obtain ⟨v7, hbv⟩ : ∃ b, psV s.data.toList p5x = b := ⟨_, rfl⟩
  rw [hbv] at HNR ⊢
  clear hbv
  generalize psI s.data.toList p5x = p6x at *
  have HP15 := Lib.hid hp
  have HB15 := Lib.hid (blk_mv HB14.out hm (by omega))
  have HE15 := Lib.hid (Mv.ext hm HE14.out (by rw [HR.out]; omega))
  clear hp hm HP14 HB14 HE14
  have x0 : w15.cell? ⟨r, 7, none⟩ = some (.int .i64 0) := by rw [HB15.out.cell]; rfl
  have f0 := HB15.out.frozen 7
  go_wp2_with fail
  clear x0 f0
  have HB16 : Hid (Blk (w15.setCell ⟨r, 7, none⟩ (.int .i64 v7)) r 30 #[.int .i64 v0, .int .i64 v1, .slice none 0 0, .int .i64 v3, .int .i64 v4, .int .i64 v5, .int .i64 v6, .int .i64 v7, .int .i64 0]) := HB15.out.put 7 _
  have HP16 : Hid (BAt (w15.setCell ⟨r, 7, none⟩ (.int .i64 v7)) g s p6x) := HP15.out.touch ((Touch.refl r w15).set 7 _) (by omega)
  have HE16 : Hid (Ext w (w15.setCell ⟨r, 7, none⟩ (.int .i64 v7))) := Below.setCell HE15.out (p := ⟨r, 7, none⟩) (by rw [HR.out]; exact Nat.le_refl _) _
  clear HP15 HB15 HE15
  generalize (w15.setCell ⟨r, 7, none⟩ (.int .i64 v7)) = w16 at *
  refine (bint_any g s p6x w16 HP16.out HS.out).mono ?_
  rintro e w17 ⟨rfl, hp, hm⟩
  obtain ⟨v8, hbv⟩ : ∃ b, psV s.data.toList p6x = b := ⟨_, rfl⟩
  rw [hbv] at HNR ⊢
  clear hbv
  generalize psI s.data.toList p6x = p7x at *
  have HP17 := Lib.hid hp
  have HB17 := Lib.hid (blk_mv HB16.out hm (by omega))
  have HE17 := Lib.hid (Mv.ext hm HE16.out (by rw [HR.out]; omega))
  clear hp hm HP16 HB16 HE16
  have x0 : w17.cell? ⟨r, 8, none⟩ = some (.int .i64 0) := by rw [HB17.out.cell]; rfl
  have f0 := HB17.out.frozen 8
  go_wp2_with fail
  clear x0 f0
  have HB18 : Hid (Blk (w17.setCell ⟨r, 8, none⟩ (.int .i64 v8)) r 30 #[.int .i64 v0, .int .i64 v1, .slice none 0 0, .int .i64 v3, .int .i64 v4, .int .i64 v5, .int .i64 v6, .int .i64 v7, .int .i64 v8]) := HB17.out.put 8 _
  have HP18 : Hid (BAt (w17.setCell ⟨r, 8, none⟩ (.int .i64 v8)) g s p7x) := HP17.out.touch ((Touch.refl r w17).set 8 _) (by omega)
  have HE18 : Hid (Ext w (w17.setCell ⟨r, 8, none⟩ (.int .i64 v8))) := Below.setCell HE17.out (p := ⟨r, 8, none⟩) (by rw [HR.out]; exact Nat.le_refl _) _
  clear HP17 HB17 HE17
  generalize (w17.setCell ⟨r, 8, none⟩ (.int .i64 v8)) = w18 at *
  refine (blist_any g s p7x w18 HP18.out HS.out).mono ?_
  rintro e w19 ⟨⟨v, rfl, hrow⟩, hp, hm⟩
  obtain ⟨xs, hxs⟩ : ∃ xs, listV s.data.toList p7x = xs := ⟨_, rfl⟩
  have HXL : Hid (xs.length ≤ 65538) := by rw [← hxs]; exact listV_len _ _
  rw [hxs] at HNR hrow
  clear hxs
  generalize listP s.data.toList p7x = pl at *
  obtain ⟨A, c, rfl, hst⟩ := hrow.steps
  obtain ⟨B, hB⟩ : ∃ B, w18.heap.size = B := ⟨_, rfl⟩
  rw [hB] at hrow
  have hrB : r < B := by have := HB18.out.lt; omega
  have hgB : g < B := by have := HP18.out.blk.lt; omega
  have HRow := Lib.hid hrow
  have HP19 := Lib.hid hp
  have HB19 := Lib.hid (blk_mv HB18.out hm (by omega))
  have HE19 := Lib.hid (Mv.ext hm HE18.out (by rw [HR.out]; omega))
  clear hp hm hrow hst hB HP18 HB18 HE18
  have x0 : w19.cell? ⟨r, 2, none⟩ = some (.slice none 0 0) := by rw [HB19.out.cell]; rfl
  have f0 := HB19.out.frozen 2
  go_wp2_with fail
  clear x0 f0
  have HB20 : Hid (Blk (w19.setCell ⟨r, 2, none⟩ (.slice A xs.length c)) r 30 #[.int .i64 v0, .int .i64 v1, .slice A xs.length c, .int .i64 v3, .int .i64 v4, .int .i64 v5, .int .i64 v6, .int .i64 v7, .int .i64 v8]) := HB19.out.put 2 _
  have HP20 : Hid (BAt (w19.setCell ⟨r, 2, none⟩ (.slice A xs.length c)) g s pl) := HP19.out.touch ((Touch.refl r w19).set 2 _) (by omega)
  have HE20 : Hid (Ext w (w19.setCell ⟨r, 2, none⟩ (.slice A xs.length c))) := Below.setCell HE19.out (p := ⟨r, 2, none⟩) (by rw [HR.out]; exact Nat.le_refl _) _
  have HRow2 := Lib.hid (rowst_touch HRow.out ((Touch.refl r w19).set 2 (.slice A xs.length c)) hrB)
  clear HP19 HB19 HE19 HRow
  generalize (w19.setCell ⟨r, 2, none⟩ (.slice A xs.length c)) = w20 at *
  refine (bexpect_any g s pl 2 w20 HP20.out HS.out).mono ?_
  rintro e w6 ⟨rfl, hp, hm⟩
  generalize psE s.data.toList pl 2 = p6 at *
  obtain ⟨k6, e6⟩ := p6
  have HP6 := Lib.hid hp
  have HB6 := Lib.hid (blk_mv HB20.out hm (by omega))
  have HE6 := Lib.hid (Mv.ext hm HE20.out (by rw [HR.out]; omega))
  have HR6 := Lib.hid (rowst_mv HRow2.out hm hgB)
  clear hp hm HRow2 HP20 HB20 HE20
  obtain ⟨⟨z0, z1, z2⟩, q1, q2, zl⟩ := HP6.out.cells
  simp only at z1 z2
  have HD : Hid (NF = if e6 ≠ 0 then (⟨U0, 0, e6⟩ : UR) else if (U.check ⟨v0, v1, v3, v4, v5, v6, v7, v8, xs⟩ 6) ≠ 0 then (⟨U0, 0, (U.check ⟨v0, v1, v3, v4, v5, v6, v7, v8, xs⟩ 6)⟩ : UR) else (⟨⟨v0, v1, v3, v4, v5, v6, v7, v8, xs⟩, k6, 0⟩ : UR)) := HNR.out
  clear HNR
  by_cases h6 : e6 = 0
  rotate_left
  · have hb2 : (e6 != 0) = true := by simp [h6]
    have HRES : Hid (NF = (⟨U0, 0, e6⟩ : UR)) := by unfold Hid; rw [HD.out, if_pos h6]
    clear h6 HD
    go_wp2_with fail
    clear z0 z1 z2 q1 q2 zl
    have HEX : Hid (Ext w6 w6.drew) := Ext.rfl'.drew
    have hB9 : Blk w6.drew r 30 #[.int .i64 v0, .int .i64 v1, .slice A xs.length c, .int .i64 v3, .int .i64 v4, .int .i64 v5, .int .i64 v6, .int .i64 v7, .int .i64 v8] := HB6.out.keep (HEX.out.block r HB6.out.lt)
    have hP9 := HP6.out.ext HEX.out
    have hR9 := rowst_ext HR6.out HEX.out
    have hE9 := Ext.trans HE6.out HEX.out
    refine wp_region_lexS (C := InX w6.drew [r]) (by kernel_rfl) (by kernel_rfl) (inX_self _ _) ?_
    generalize w6.drew = w9 at *
    obtain ⟨⟨z0, z1, z2⟩, -, -, -⟩ := hP9.cells
    have HB9 := Lib.hid hB9
    have zz1 := fun z : ExtX w9 [r] => z.cell (p := ⟨g, 1, none⟩) z1 (by simp; omega)
    have zz2 := fun z : ExtX w9 [r] => z.cell (p := ⟨g, 2, none⟩) z2 (by simp; omega)
    have HE9 := Lib.hid hE9
    have HR9 := Lib.hid hR9
    clear z0 z1 z2 hE9 hR9 hP9 hB9
    repeat (refine lexAt_still (by rfl) ?_; go_big_quiet_step (fail); refine wpQuiet_nil ?_)
    have HT := Lib.hid ((RowN.blk HB9.out).there (o := 0) (k := 9) (by simp))
    refine lexAt_move (by rfl) (by kernel_rfl) ?_
    refine wpList_storeV rfl 30 _ _ rfl r 0 [.int .i64 0, .int .i64 0, .slice none 0 0, .int .i64 0, .int .i64 0, .int .i64 0, .int .i64 0, .int .i64 0, .int .i64 0] rfl rfl HT.out (by kernel_rfl) rfl ?_
    intro wf hpv
    go_wp2_with fail
    have HPV := Lib.hid hpv
    clear hpv
    refine And.intro (inX_touch (by simp) HPV.out.touch) ?_
    repeat (refine lexAt_still (by rfl) ?_; go_big_quiet_step (fail); refine wpQuiet_nil ?_)
    refine lexAt_nil ?_
    clear zz1 zz2
    have HEf : Hid (Ext w wf) := HPV.out.touch.ext w HE9.out (by rw [HR.out]; exact Nat.le_refl _)
    go_wp2_with fail
    have y0 := HPV.out.here 0 _ rfl
    have y1 := HPV.out.here 1 _ rfl
    have y2 := HPV.out.here 2 _ rfl
    have y3 := HPV.out.here 3 _ rfl
    have y4 := HPV.out.here 4 _ rfl
    have y5 := HPV.out.here 5 _ rfl
    have y6 := HPV.out.here 6 _ rfl
    have y7 := HPV.out.here 7 _ rfl
    have y8 := HPV.out.here 8 _ rfl
    simp only [Nat.zero_add] at y0 y1 y2 y3 y4 y5 y6 y7 y8
    refine bodyPost_ret (v := .tuple #[.agg #[.int .i64 0, .int .i64 0, .slice none 0 0, .int .i64 0, .int .i64 0, .int .i64 0, .int .i64 0, .int .i64 0, .int .i64 0], .int .i64 0, .int .i64 e6]) (by simp [results, Try.results15, go_sem, y0, y1, y2, y3, y4, y5, y6, y7, y8]) rfl ?_
    rw [HRES.out]
    exact ⟨none, 0, rfl, steps_none _, HEf.out⟩
  · subst h6
    have HD2 : Hid (NF = if (U.check ⟨v0, v1, v3, v4, v5, v6, v7, v8, xs⟩ 6) ≠ 0 then (⟨U0, 0, (U.check ⟨v0, v1, v3, v4, v5, v6, v7, v8, xs⟩ 6)⟩ : UR) else (⟨⟨v0, v1, v3, v4, v5, v6, v7, v8, xs⟩, k6, 0⟩ : UR)) := by unfold Hid; rw [HD.out, if_neg (by simp)]
    clear HD
    have x0 : w6.cell? ⟨r, 0, none⟩ = some (.int .i64 v0) := by rw [HB6.out.cell]; rfl
    have x1 : w6.cell? ⟨r, 1, none⟩ = some (.int .i64 v1) := by rw [HB6.out.cell]; rfl
    have x2 : w6.cell? ⟨r, 2, none⟩ = some (.slice A xs.length c) := by rw [HB6.out.cell]; rfl
    have x3 : w6.cell? ⟨r, 3, none⟩ = some (.int .i64 v3) := by rw [HB6.out.cell]; rfl
    have x4 : w6.cell? ⟨r, 4, none⟩ = some (.int .i64 v4) := by rw [HB6.out.cell]; rfl
    have x5 : w6.cell? ⟨r, 5, none⟩ = some (.int .i64 v5) := by rw [HB6.out.cell]; rfl
    have x6 : w6.cell? ⟨r, 6, none⟩ = some (.int .i64 v6) := by rw [HB6.out.cell]; rfl
    have x7 : w6.cell? ⟨r, 7, none⟩ = some (.int .i64 v7) := by rw [HB6.out.cell]; rfl
    have x8 : w6.cell? ⟨r, 8, none⟩ = some (.int .i64 v8) := by rw [HB6.out.cell]; rfl
    go_wp2_with fail
    clear x0 x1 x2 x3 x4 x5 x6 x7 x8 z0 z1 z2 q1 q2 zl
    refine (ucheck_any ⟨v0, v1, v3, v4, v5, v6, v7, v8, xs⟩ 6 A xs.length c w6 HR6.out.at (by have := HXL.out; unfold maxLen; omega)).mono ?_
    rintro e w7 ⟨rfl, hE7⟩
    generalize (U.check ⟨v0, v1, v3, v4, v5, v6, v7, v8, xs⟩ 6) = ec at *
    have HP7 := Lib.hid (HP6.out.ext hE7)
    have HB7 := Lib.hid (HB6.out.keep (hE7.block r HB6.out.lt))
    have HE7 := Lib.hid (Ext.trans HE6.out hE7)
    have HR7 := Lib.hid (rowst_ext HR6.out hE7)
    clear hE7 HP6 HB6 HE6 HR6
    obtain ⟨⟨z0, z1, z2⟩, q1, q2, zl⟩ := HP7.out.cells
    simp only at z1 z2
    by_cases hec : ec = 0
    rotate_left
    · have hb2 : (ec != 0) = true := by simp [hec]
      have HRES : Hid (NF = (⟨U0, 0, ec⟩ : UR)) := by unfold Hid; rw [HD2.out, if_pos hec]
      clear hec HD2
      have HT := Lib.hid ((RowN.blk HB7.out).there (o := 0) (k := 9) (by simp))
      go_wp2_with (
        refine wpList_storeV rfl 30 _ _ rfl r 0 [.int .i64 0, .int .i64 0, .slice none 0 0, .int .i64 0, .int .i64 0, .int .i64 0, .int .i64 0, .int .i64 0, .int .i64 0] rfl rfl HT.out (by kernel_rfl) rfl ?_
        intro wf hpv
        have HPV := Lib.hid hpv
        clear hpv)
      have y0 := HPV.out.here 0 _ rfl
      have y1 := HPV.out.here 1 _ rfl
      have y2 := HPV.out.here 2 _ rfl
      have y3 := HPV.out.here 3 _ rfl
      have y4 := HPV.out.here 4 _ rfl
      have y5 := HPV.out.here 5 _ rfl
      have y6 := HPV.out.here 6 _ rfl
      have y7 := HPV.out.here 7 _ rfl
      have y8 := HPV.out.here 8 _ rfl
      simp only [Nat.zero_add] at y0 y1 y2 y3 y4 y5 y6 y7 y8
      have HEf : Hid (Ext w wf) := HPV.out.touch.ext w HE7.out (by rw [HR.out]; exact Nat.le_refl _)
      refine bodyPost_ret (v := .tuple #[.agg #[.int .i64 0, .int .i64 0, .slice none 0 0, .int .i64 0, .int .i64 0, .int .i64 0, .int .i64 0, .int .i64 0, .int .i64 0], .int .i64 0, .int .i64 ec]) (by simp [results, Try.results15, go_sem, y0, y1, y2, y3, y4, y5, y6, y7, y8]) rfl ?_
      rw [HRES.out]
      exact ⟨none, 0, rfl, steps_none _, HEf.out⟩
    · subst hec
      have HRES : Hid (NF = (⟨⟨v0, v1, v3, v4, v5, v6, v7, v8, xs⟩, k6, 0⟩ : UR)) := by unfold Hid; rw [HD2.out, if_neg (by simp)]
      clear HD2
      go_wp2_with fail
      clear z0 z1 z2 q1 q2 zl
      have HEX : Hid (Ext w7 w7.drew) := Ext.rfl'.drew
      have hB9 : Blk w7.drew r 30 #[.int .i64 v0, .int .i64 v1, .slice A xs.length c, .int .i64 v3, .int .i64 v4, .int .i64 v5, .int .i64 v6, .int .i64 v7, .int .i64 v8] := HB7.out.keep (HEX.out.block r HB7.out.lt)
      have hP9 := HP7.out.ext HEX.out
      have hR9 := rowst_ext HR7.out HEX.out
      have hE9 := Ext.trans HE7.out HEX.out
      refine wp_region_lexS (C := InX w7.drew []) (by kernel_rfl) (by kernel_rfl) (inX_self _ _) ?_
      generalize w7.drew = w9 at *
      obtain ⟨⟨z0, z1, z2⟩, -, -, -⟩ := hP9.cells
      have HB9 := Lib.hid hB9
      have zz1 := fun z : ExtX w9 [] => z.cell (p := ⟨g, 1, none⟩) z1 (by simp)
      have zz2 := fun z : ExtX w9 [] => z.cell (p := ⟨g, 2, none⟩) z2 (by simp)
      have b0 : w9.cell? ⟨r, 0, none⟩ = some (.int .i64 v0) := by rw [HB9.out.cell]; rfl
      have bb0 := fun z : ExtX w9 [] => z.cell (p := ⟨r, 0, none⟩) b0 (by simp)
      have b1 : w9.cell? ⟨r, 1, none⟩ = some (.int .i64 v1) := by rw [HB9.out.cell]; rfl
      have bb1 := fun z : ExtX w9 [] => z.cell (p := ⟨r, 1, none⟩) b1 (by simp)
      have b2 : w9.cell? ⟨r, 2, none⟩ = some (.slice A xs.length c) := by rw [HB9.out.cell]; rfl
      have bb2 := fun z : ExtX w9 [] => z.cell (p := ⟨r, 2, none⟩) b2 (by simp)
      have b3 : w9.cell? ⟨r, 3, none⟩ = some (.int .i64 v3) := by rw [HB9.out.cell]; rfl
      have bb3 := fun z : ExtX w9 [] => z.cell (p := ⟨r, 3, none⟩) b3 (by simp)
      have b4 : w9.cell? ⟨r, 4, none⟩ = some (.int .i64 v4) := by rw [HB9.out.cell]; rfl
      have bb4 := fun z : ExtX w9 [] => z.cell (p := ⟨r, 4, none⟩) b4 (by simp)
      have b5 : w9.cell? ⟨r, 5, none⟩ = some (.int .i64 v5) := by rw [HB9.out.cell]; rfl
      have bb5 := fun z : ExtX w9 [] => z.cell (p := ⟨r, 5, none⟩) b5 (by simp)
      have b6 : w9.cell? ⟨r, 6, none⟩ = some (.int .i64 v6) := by rw [HB9.out.cell]; rfl
      have bb6 := fun z : ExtX w9 [] => z.cell (p := ⟨r, 6, none⟩) b6 (by simp)
      have b7 : w9.cell? ⟨r, 7, none⟩ = some (.int .i64 v7) := by rw [HB9.out.cell]; rfl
      have bb7 := fun z : ExtX w9 [] => z.cell (p := ⟨r, 7, none⟩) b7 (by simp)
      have b8 : w9.cell? ⟨r, 8, none⟩ = some (.int .i64 v8) := by rw [HB9.out.cell]; rfl
      have bb8 := fun z : ExtX w9 [] => z.cell (p := ⟨r, 8, none⟩) b8 (by simp)
      have HE9 := Lib.hid hE9
      have HR9 := Lib.hid hR9
      clear z0 z1 z2 hE9 hR9 hP9 hB9 b0 b1 b2 b3 b4 b5 b6 b7 b8
      repeat (refine lexAt_still (by rfl) ?_; go_big_quiet_step (fail); refine wpQuiet_nil ?_)
      have HT := Lib.hid ((RowN.blk HB9.out).there (o := 0) (k := 9) (by simp))
      refine lexAt_move (by rfl) (by kernel_rfl) ?_
      refine wpList_store_mid rfl 30 _ _ rfl r 0 #[.int .i64 v0, .int .i64 v1, .slice A xs.length c, .int .i64 v3, .int .i64 v4, .int .i64 v5, .int .i64 v6, .int .i64 v7, .int .i64 v8] rfl rfl HT.out (by kernel_rfl) (by simp [Value.oneCell']) ?_
      have HPV := Lib.hid (putVs_set (vs := [.int .i64 v0, .int .i64 v1, .slice A xs.length c, .int .i64 v3, .int .i64 v4, .int .i64 v5, .int .i64 v6, .int .i64 v7, .int .i64 v8]) HT.out)
      have hBf : Blk (w9.setCells r 0 [.int .i64 v0, .int .i64 v1, .slice A xs.length c, .int .i64 v3, .int .i64 v4, .int .i64 v5, .int .i64 v6, .int .i64 v7, .int .i64 v8]) r 30 #[.int .i64 v0, .int .i64 v1, .slice A xs.length c, .int .i64 v3, .int .i64 v4, .int .i64 v5, .int .i64 v6, .int .i64 v7, .int .i64 v8] := blk_same _ 0 w9 HB9.out (fun j v hj => by simpa using hj)
      change wpList _ _ _ _ _ (w9.setCells r 0 [.int .i64 v0, .int .i64 v1, .slice A xs.length c, .int .i64 v3, .int .i64 v4, .int .i64 v5, .int .i64 v6, .int .i64 v7, .int .i64 v8])
      have HBf := Lib.hid hBf
      clear hBf
      generalize (w9.setCells r 0 [.int .i64 v0, .int .i64 v1, .slice A xs.length c, .int .i64 v3, .int .i64 v4, .int .i64 v5, .int .i64 v6, .int .i64 v7, .int .i64 v8]) = wf at *
      go_wp2_with fail
      refine And.intro (inX_blk HB9.out HBf.out HPV.out.touch) ?_
      repeat (refine lexAt_still (by rfl) ?_; go_big_quiet_step (fail); refine wpQuiet_nil ?_)
      refine lexAt_nil ?_
      clear zz1 zz2 bb0 bb1 bb2 bb3 bb4 bb5 bb6 bb7 bb8
      have HEf : Hid (Ext w wf) := HPV.out.touch.ext w HE9.out (by rw [HR.out]; exact Nat.le_refl _)
      have HRf := Lib.hid (rowst_touch HR9.out HPV.out.touch hrB)
      go_wp2_with fail
      have y0 := HPV.out.here 0 _ rfl
      have y1 := HPV.out.here 1 _ rfl
      have y2 := HPV.out.here 2 _ rfl
      have y3 := HPV.out.here 3 _ rfl
      have y4 := HPV.out.here 4 _ rfl
      have y5 := HPV.out.here 5 _ rfl
      have y6 := HPV.out.here 6 _ rfl
      have y7 := HPV.out.here 7 _ rfl
      have y8 := HPV.out.here 8 _ rfl
      simp only [Nat.zero_add] at y0 y1 y2 y3 y4 y5 y6 y7 y8
      refine bodyPost_ret (v := .tuple #[.agg #[.int .i64 v0, .int .i64 v1, .slice A xs.length c, .int .i64 v3, .int .i64 v4, .int .i64 v5, .int .i64 v6, .int .i64 v7, .int .i64 v8], .int .i64 k6, .int .i64 0]) (by simp [results, Try.results15, go_sem, y0, y1, y2, y3, y4, y5, y6, y7, y8]) rfl ?_
      rw [HRES.out]
      exact ⟨A, c, rfl, HRf.out.at, HEf.out⟩
end Go.Proofs.Ytkdbpcenehhopaa
