/- Plain: bytes, decimal numbers, tokens (no program in sight). -/
import Derived.Test.YtnofbjcikfofgaaGreatWordsC
namespace Go.Proofs.YtnofbjcikfofgaaGreat

abbrev Bs := List UInt8
def isSep (c : UInt8) : Bool := c == 32 || c == 10
def isLow (c : UInt8) : Bool := decide (97 ≤ c.toNat) && decide (c.toNat ≤ 122)
def isDig (c : UInt8) : Bool := decide (48 ≤ c.toNat) && decide (c.toNat ≤ 57)
def isNumr (c : UInt8) : Bool := isDig c || (c == 45 || c == 47)
def isRun (c : UInt8) : Bool := isLow c || isNumr c
/-- The first offset from k on that is not in the class. -/
def endC (p : UInt8 → Bool) (l : Bs) (k : Nat) : Nat := k + ((l.drop k).takeWhile p).length
def allC (p : UInt8 → Bool) (l : Bs) : Bool := !l.isEmpty && l.all p
def valD (l : Bs) : Nat := l.foldl (fun a c => a * 10 + (c.toNat - 48)) 0
/-- digits without leading zeros -/
def decB (l : Bs) : Bool := allC isDig l && !(l.head? == some 48 && decide (1 < l.length))
def negB (r : Bs) : Bool := r.head? == some 45
def digD (r : Bs) : Bs := if negB r then r.tail else r
def zE (r : Bs) : Int := if 1000 < (digD r).length then 5 else if !decB (digD r) || (negB r && digD r == [48]) then 3 else 0
def zV (r : Bs) : Int := if zE r = 0 then sgn (negB r) (valD (digD r)) else 0
def cutI (r : Bs) : Nat := (r.takeWhile (· != 47)).length
/-- numerator and denominator -/
def canB (a b : Int) : Bool := decide (1 < b) && decide (Nat.gcd a.natAbs b.natAbs = 1)
def qE (r : Bs) : Int :=
  if cutI r = r.length then zE r
  else if zE (r.take (cutI r)) = 5 ∨ zE (r.drop (cutI r + 1)) = 5 then 5
  else if zE (r.take (cutI r)) ≠ 0 ∨ zE (r.drop (cutI r + 1)) ≠ 0 ∨ canB (zV (r.take (cutI r))) (zV (r.drop (cutI r + 1))) = false then 3 else 0
def qV (r : Bs) : Rat :=
  if qE r ≠ 0 then 0 else if cutI r = r.length then (zV r : Rat) else mkRat (zV (r.take (cutI r))) (zV (r.drop (cutI r + 1))).toNat

structure Tok where
  kind : Int
  text : Bs
  num : Rat
structure NX where
  t : Tok
  nx : Int
  e : Int
def tok0 : Tok := ⟨0, [], 0⟩
def tokO : Tok := ⟨1, [], 0⟩
def tokC : Tok := ⟨2, [], 0⟩
def tokW (l : Bs) : Tok := ⟨3, l, 0⟩
def tokN (q : Rat) : Tok := ⟨4, [], q⟩
def nxE (e : Int) : NX := ⟨tok0, 0, e⟩
/-- a run r that ends at b -/
def runT (r : Bs) (b : Nat) : NX :=
  if allC isLow r then ⟨tokW r, b, 0⟩ else if !allC isNumr r then nxE 3 else if qE r ≠ 0 then nxE (qE r) else ⟨tokN (qV r), b, 0⟩
def nextC (l : Bs) (a : Nat) : NX :=
  if a = l.length then nxE 8
  else if l.getD a 0 = 40 then ⟨tokO, a + 1, 0⟩
  else if l.getD a 0 = 41 then ⟨tokC, a + 1, 0⟩
  else runT ((l.drop a).takeWhile isRun) (endC isRun l a)
def nextT (l : Bs) (k : Int) : NX :=
  if 65536 < l.length then nxE 5 else if k < 0 ∨ (l.length : Int) < k then nxE 1 else nextC l (endC isSep l k.toNat)
def expectT (l : Bs) (k kind : Int) : NX :=
  if (nextT l k).e = 8 then nxE 4 else if (nextT l k).e ≠ 0 then nxE (nextT l k).e else if (nextT l k).t.kind ≠ kind then nxE 3 else nextT l k
/-- next offset, error -/
def ewordT (l : Bs) (k : Int) (wd : Bs) : Int × Int :=
  if (expectT l k 3).e ≠ 0 then (0, (expectT l k 3).e) else if (expectT l k 3).t.text ≠ wd then (0, 3) else ((expectT l k 3).nx, 0)
/-- integer, next offset, error -/
def eintT (l : Bs) (k : Int) : Int × Int × Int :=
  if (expectT l k 4).e ≠ 0 then (0, 0, (expectT l k 4).e)
  else if i64B (expectT l k 4).t.num.num = false ∨ (expectT l k 4).t.num.den ≠ 1 then (0, 0, 1)
  else ((expectT l k 4).t.num.num, (expectT l k 4).nx, 0)
def peekT (l : Bs) (k kind : Int) : Bool := decide ((nextT l k).e = 0) && decide ((nextT l k).t.kind = kind)

/- decimal text -/
def digC (n : Nat) : UInt8 := UInt8.ofNat (48 + n % 10)
def fmtF : Nat → Nat → Bs
  | 0, _ => []
  | f + 1, n => if n < 10 then [digC n] else fmtF f (n / 10) ++ [digC n]
def fmtN (n : Nat) : Bs := fmtF (n + 1) n
def fmtZ (z : Int) : Bs := if z < 0 then 45 :: fmtN z.natAbs else fmtN z.natAbs
theorem fmtF_fuel : ∀ (f g n : Nat), n < f → n < g → fmtF f n = fmtF g n
  | 0, _, n, h, _ => by omega
  | _ + 1, 0, n, _, h => by omega
  | f + 1, g + 1, n, h1, h2 => by
    unfold fmtF
    by_cases h : n < 10
    · rw [if_pos h, if_pos h]
    · rw [if_neg h, if_neg h, fmtF_fuel f g (n / 10) (by omega) (by omega)]
theorem fmtN_small {n : Nat} (h : n < 10) : fmtN n = [digC n] := by unfold fmtN fmtF; rw [if_pos h]
theorem fmtN_big {n : Nat} (h : 10 ≤ n) : fmtN n = fmtN (n / 10) ++ [digC n] := by
  unfold fmtN
  rw [fmtF, if_neg (by omega), fmtF_fuel n (n / 10 + 1) (n / 10) (by omega) (by omega)]
theorem digC_toNat (n : Nat) : (digC n).toNat = 48 + n % 10 := by
  unfold digC
  rw [UInt8.toNat_ofNat']
  omega
theorem digC_dig (n : Nat) : isDig (digC n) = true := by unfold isDig; rw [digC_toNat]; simp; omega
theorem fmtN_dig (n : Nat) : (fmtN n).all isDig = true := by
  induction n using Nat.strongRecOn with
  | _ n ih =>
    by_cases h : n < 10
    · rw [fmtN_small h]; simp [digC_dig]
    · rw [fmtN_big (by omega), List.all_append, ih (n / 10) (by omega)]; simp [digC_dig]
theorem fmtN_ne (n : Nat) : fmtN n ≠ [] := by
  by_cases h : n < 10
  · rw [fmtN_small h]; simp
  · rw [fmtN_big (by omega)]; simp
theorem valD_snoc (l : Bs) (c : UInt8) : valD (l ++ [c]) = valD l * 10 + (c.toNat - 48) := by unfold valD; rw [List.foldl_append]; rfl
theorem fmtN_val (n : Nat) : valD (fmtN n) = n := by
  induction n using Nat.strongRecOn with
  | _ n ih =>
    by_cases h : n < 10
    · rw [fmtN_small h]; unfold valD; simp [digC_toNat]; omega
    · rw [fmtN_big (by omega), valD_snoc, ih (n / 10) (by omega), digC_toNat]; omega
theorem fmtN_len (k : Nat) : ∀ n : Nat, n < 10 ^ (k + 1) → (fmtN n).length ≤ k + 1 := by
  induction k with
  | zero => intro n h; rw [fmtN_small (by simpa using h)]; simp
  | succ k ih =>
    intro n h
    by_cases h1 : n < 10
    · rw [fmtN_small h1]; simp
    · rw [fmtN_big (by omega)]
      have := ih (n / 10) (by rw [Nat.pow_succ] at h; omega)
      simp; omega
theorem fmtN_head {n : Nat} (h : 0 < n) : (fmtN n).head? ≠ some 48 := by
  induction n using Nat.strongRecOn with
  | _ n ih =>
    by_cases h1 : n < 10
    · rw [fmtN_small h1]
      intro e
      have e2 : digC n = 48 := by simpa using e
      have := digC_toNat n
      rw [e2] at this
      have e3 : (48 : UInt8).toNat = 48 := rfl
      omega
    · rw [fmtN_big (by omega), List.head?_append]
      have := ih (n / 10) (by omega) (by omega)
      cases hf : (fmtN (n / 10)).head? with
      | none => exact absurd (List.head?_eq_none_iff.1 hf) (fmtN_ne _)
      | some x => rw [hf] at this; simpa using this
theorem fmtN_decB (n : Nat) : decB (fmtN n) = true := by
  unfold decB allC
  rw [fmtN_dig]
  have h1 := fmtN_ne n
  have : (fmtN n).isEmpty = false := by cases h : fmtN n with | nil => exact absurd h h1 | cons => rfl
  rw [this]
  by_cases h : n = 0
  · subst h; rw [fmtN_small (by omega)]; rfl
  · have := fmtN_head (n := n) (by omega)
    simp [this]
theorem dig_lo {c : UInt8} (h : isDig c = true) : 48 ≤ c.toNat ∧ c.toNat ≤ 57 := by unfold isDig at h; simpa using h
theorem fmtN_neg (n : Nat) : negB (fmtN n) = false := by
  unfold negB
  have h := fmtN_dig n
  cases hf : fmtN n with
  | nil => rfl
  | cons x xs =>
    rw [hf] at h
    simp at h
    have := dig_lo h.1
    have hx : x ≠ 45 := fun e => by rw [e] at this; have e3 : (45 : UInt8).toNat = 45 := rfl; omega
    simpa using hx
theorem fmtZ_neg (z : Int) : negB (fmtZ z) = decide (z < 0) := by
  unfold fmtZ
  by_cases h : z < 0
  · rw [if_pos h]; simp [negB, h]
  · rw [if_neg h, fmtN_neg]; simp [h]
theorem fmtZ_dig (z : Int) : digD (fmtZ z) = fmtN z.natAbs := by
  unfold digD
  rw [fmtZ_neg]
  unfold fmtZ
  by_cases h : z < 0 <;> simp [h]
theorem fmtZ_e {z : Int} (h : (fmtN z.natAbs).length ≤ 1000) : zE (fmtZ z) = 0 := by
  unfold zE
  rw [fmtZ_dig, fmtZ_neg]
  rw [if_neg (by omega), fmtN_decB]
  by_cases h0 : z < 0
  · have h2 : fmtN z.natAbs ≠ [48] := fun e => by
      have := fmtN_val z.natAbs
      rw [e] at this
      have e3 : valD [48] = 0 := rfl
      omega
    simp [h2]
  · simp [h0]
theorem fmtZ_v {z : Int} (h : (fmtN z.natAbs).length ≤ 1000) : zV (fmtZ z) = z := by
  unfold zV
  rw [if_pos (fmtZ_e h), fmtZ_dig, fmtZ_neg, fmtN_val]
  unfold sgn
  by_cases h0 : z < 0 <;> simp [h0] <;> omega
theorem fmtZ_ne (z : Int) : fmtZ z ≠ [] := by
  unfold fmtZ
  by_cases h : z < 0
  · rw [if_pos h]; simp
  · rw [if_neg h]; exact fmtN_ne _
theorem fmtZ_chars (z : Int) : ∀ c ∈ fmtZ z, isDig c = true ∨ c = 45 := by
  have h := List.all_eq_true.1 (fmtN_dig z.natAbs)
  unfold fmtZ
  intro c hc
  by_cases h0 : z < 0
  · rw [if_pos h0] at hc
    rcases List.mem_cons.1 hc with rfl | hc
    · exact .inr rfl
    · exact .inl (h c hc)
  · rw [if_neg h0] at hc; exact .inl (h c hc)
theorem fmtZ_numr (z : Int) : allC isNumr (fmtZ z) = true := by
  unfold allC
  have h1 : (fmtZ z).isEmpty = false := by have := fmtZ_ne z; cases h : fmtZ z with | nil => exact absurd h this | cons => rfl
  rw [h1]
  simp only [Bool.not_false, Bool.true_and, List.all_eq_true]
  intro c hc
  rcases fmtZ_chars z c hc with h | h
  · unfold isNumr; rw [h]; rfl
  · subst h; rfl
theorem low_not_numr {c : UInt8} (h : isDig c = true ∨ c = 45) : isLow c = false := by
  rcases h with h | h
  · have := dig_lo h
    unfold isLow
    have h2 : ¬ 97 ≤ c.toNat := by omega
    simp [h2]
  · subst h; rfl
theorem fmtZ_low (z : Int) : allC isLow (fmtZ z) = false := by
  unfold allC
  have h1 := fmtZ_chars z
  cases h : fmtZ z with
  | nil => rfl
  | cons x xs =>
    rw [h] at h1
    have := low_not_numr (h1 x (by simp))
    simp [this]
theorem cut_none {r : Bs} (h : ∀ c ∈ r, c ≠ 47) : cutI r = r.length := by
  unfold cutI
  congr 1
  induction r with
  | nil => rfl
  | cons x xs ih =>
    have hx := h x (by simp)
    rw [List.takeWhile_cons_of_pos (by simpa using hx), ih (fun c hc => h c (by simp [hc]))]
theorem fmtZ_cut (z : Int) : cutI (fmtZ z) = (fmtZ z).length := cut_none fun c hc => by
  rcases fmtZ_chars z c hc with h | h
  · have := dig_lo h
    intro e
    rw [e] at this
    have e3 : (47 : UInt8).toNat = 47 := rfl
    omega
  · subst h; decide
theorem fmtZ_run {z : Int} (h : (fmtN z.natAbs).length ≤ 1000) (b : Nat) : runT (fmtZ z) b = ⟨tokN (z : Rat), b, 0⟩ := by
  have e1 : qE (fmtZ z) = 0 := by unfold qE; rw [if_pos (fmtZ_cut z)]; exact fmtZ_e h
  have e2 : qV (fmtZ z) = (z : Rat) := by unfold qV; rw [if_neg (by rw [e1]; simp), if_pos (fmtZ_cut z), fmtZ_v h]
  unfold runT
  rw [fmtZ_low, fmtZ_numr, e1, e2]
  rfl
theorem word_run {r : Bs} (h : allC isLow r = true) (b : Nat) : runT r b = ⟨tokW r, b, 0⟩ := by unfold runT; rw [if_pos h]
theorem fmtN_len64 {z : Int} (h : -9223372036854775808 ≤ z ∧ z ≤ 9223372036854775807) : (fmtN z.natAbs).length ≤ 19 := fmtN_len 18 _ (by omega)
theorem fmtZ_len64 {z : Int} (h : -9223372036854775808 ≤ z ∧ z ≤ 9223372036854775807) : (fmtZ z).length ≤ 20 := by
  have := fmtN_len64 h
  unfold fmtZ
  split <;> simp <;> omega

/- a text that is spelled out: separators ahead of each token -/
/-- The text of a token (numbers: integers only). -/
def pieceT (t : Tok) : Bs := if t.kind = 1 then [40] else if t.kind = 2 then [41] else if t.kind = 3 then t.text else fmtZ t.num.num
/-- A token as it is read: unused fields are zero. -/
def GoodT (t : Tok) : Prop := t = tokO ∨ t = tokC ∨ (∃ l, t = tokW l ∧ allC isLow l = true) ∨ ∃ z : Int, t = tokN (z : Rat) ∧ (fmtN z.natAbs).length ≤ 1000
/-- The next byte ends a run. -/
def Stops (r : Bs) : Prop := ∀ c, r.head? = some c → isRun c = false
theorem stops_nil : Stops [] := fun c h => by cases h
theorem stops_cons {c : UInt8} (h : isRun c = false) (r : Bs) : Stops (c :: r) := fun x hx => by cases hx; exact h
theorem takeWhile_app {p : UInt8 → Bool} {a b : Bs} (ha : a.all p = true) (hb : ∀ c, b.head? = some c → p c = false) : (a ++ b).takeWhile p = a := by
  induction a with
  | nil =>
    cases b with
    | nil => rfl
    | cons x xs => simp [hb x rfl]
  | cons x xs ih =>
    simp only [List.all_cons, Bool.and_eq_true] at ha
    rw [List.cons_append, List.takeWhile_cons_of_pos ha.1, ih ha.2]
theorem isRun_low {c : UInt8} (h : isLow c = true) : isRun c = true := by unfold isRun; rw [h]; rfl
theorem isRun_numr {c : UInt8} (h : isNumr c = true) : isRun c = true := by unfold isRun; rw [h]; simp
theorem allC_all {p : UInt8 → Bool} {l : Bs} (h : allC p l = true) : l.all p = true ∧ l ≠ [] := by
  unfold allC at h
  rw [Bool.and_eq_true] at h
  refine ⟨h.2, fun e => ?_⟩
  rw [e] at h
  exact absurd h.1 (by simp)
theorem all_mono {p q : UInt8 → Bool} (hpq : ∀ c, p c = true → q c = true) {l : Bs} (h : l.all p = true) : l.all q = true := List.all_eq_true.2 fun c hc => hpq c (List.all_eq_true.1 h c hc)
theorem low_ne {c : UInt8} (h : isRun c = true) : c ≠ 40 ∧ c ≠ 41 ∧ isSep c = false := by
  refine ⟨fun e => ?_, fun e => ?_, ?_⟩
  · subst e; revert h; decide
  · subst e; revert h; decide
  · cases hs : isSep c with
    | false => rfl
    | true =>
      unfold isSep at hs
      simp only [Bool.or_eq_true, beq_iff_eq] at hs
      rcases hs with rfl | rfl <;> (revert h; decide)
/-- Reading a run at the very place. -/
theorem nextC_run {pre r rest : Bs} (hr : r.all isRun = true) (hne : r ≠ []) (hs : Stops rest) : nextC (pre ++ (r ++ rest)) pre.length = runT r (pre.length + r.length) := by
  obtain ⟨x, xs, rfl⟩ : ∃ x xs, r = x :: xs := by cases r with | nil => exact absurd rfl hne | cons x xs => exact ⟨x, xs, rfl⟩
  have hx := low_ne (List.all_eq_true.1 hr x (by simp))
  have hd : (pre ++ (x :: xs ++ rest)).drop pre.length = x :: xs ++ rest := by rw [List.drop_left]
  have hg : (pre ++ (x :: xs ++ rest)).getD pre.length 0 = x := by simp [List.getD]
  unfold nextC
  rw [if_neg (by simp), hg, if_neg hx.1, if_neg hx.2.1]
  unfold endC
  rw [hd, takeWhile_app hr hs]
theorem nextC_open (pre rest : Bs) : nextC (pre ++ (40 :: rest)) pre.length = ⟨tokO, (pre.length : Int) + 1, 0⟩ := by
  have hg : (pre ++ (40 :: rest)).getD pre.length 0 = 40 := by simp [List.getD]
  unfold nextC
  rw [if_neg (by simp), hg, if_pos rfl]
theorem nextC_close (pre rest : Bs) : nextC (pre ++ (41 :: rest)) pre.length = ⟨tokC, (pre.length : Int) + 1, 0⟩ := by
  have hg : (pre ++ (41 :: rest)).getD pre.length 0 = 41 := by simp [List.getD]
  unfold nextC
  rw [if_neg (by simp), hg, if_neg (by decide), if_pos rfl]
theorem nextC_piece {pre rest : Bs} {t : Tok} (ht : GoodT t) (hs : t.kind = 1 ∨ t.kind = 2 ∨ Stops rest) : nextC (pre ++ (pieceT t ++ rest)) pre.length = ⟨t, ((pre.length + (pieceT t).length : Nat) : Int), 0⟩ := by
  rcases ht with rfl | rfl | ⟨l, rfl, hl⟩ | ⟨z, rfl, hz⟩
  · exact (nextC_open pre rest).trans (by simp [pieceT, tokO])
  · exact (nextC_close pre rest).trans (by simp [pieceT, tokC])
  · have hs' : Stops rest := by rcases hs with h | h | h <;> first | exact h | (simp [tokW] at h)
    have e : pieceT (tokW l) = l := rfl
    rw [e]
    obtain ⟨h1, h2⟩ := allC_all hl
    rw [nextC_run (all_mono (fun c => isRun_low) h1) h2 hs', word_run hl]
  · have hs' : Stops rest := by rcases hs with h | h | h <;> first | exact h | (simp [tokN] at h)
    have e : pieceT (tokN (z : Rat)) = fmtZ z := by simp [pieceT, tokN]
    rw [e]
    obtain ⟨h1, h2⟩ := allC_all (fmtZ_numr z)
    rw [nextC_run (all_mono (fun c => isRun_numr) h1) h2 hs', fmtZ_run hz]
theorem piece_ne {t : Tok} (ht : GoodT t) : ∃ x xs, pieceT t = x :: xs ∧ isSep x = false := by
  rcases ht with rfl | rfl | ⟨l, rfl, hl⟩ | ⟨z, rfl, hz⟩
  · exact ⟨_, _, rfl, rfl⟩
  · exact ⟨_, _, rfl, rfl⟩
  · obtain ⟨h1, h2⟩ := allC_all hl
    obtain ⟨x, xs, rfl⟩ : ∃ x xs, l = x :: xs := by cases l with | nil => exact absurd rfl h2 | cons x xs => exact ⟨x, xs, rfl⟩
    exact ⟨x, xs, rfl, (low_ne (isRun_low (List.all_eq_true.1 h1 x (by simp)))).2.2⟩
  · have e : pieceT (tokN (z : Rat)) = fmtZ z := by simp [pieceT, tokN]
    obtain ⟨h1, h2⟩ := allC_all (fmtZ_numr z)
    rw [e]
    cases hf : fmtZ z with
    | nil => exact absurd hf h2
    | cons x xs => 
      rw [hf] at h1
      exact ⟨x, xs, rfl, (low_ne (isRun_numr (List.all_eq_true.1 h1 x (by simp)))).2.2⟩
theorem sep_all {p : UInt8 → Bool} {a : Bs} : a.all p = true → a.length = (a.takeWhile p).length := fun h => by
  have := takeWhile_app (b := []) h (fun c hc => by cases hc)
  rw [List.append_nil] at this
  rw [this]
theorem endC_sep {pre seps rest : Bs} (hse : seps.all isSep = true) (hr : ∀ c, rest.head? = some c → isSep c = false) : endC isSep (pre ++ (seps ++ rest)) pre.length = pre.length + seps.length := by
  unfold endC
  rw [List.drop_left, takeWhile_app hse hr]
/-- Reading a token behind separators. -/
theorem nextT_piece {pre seps rest : Bs} {t : Tok} (hse : seps.all isSep = true) (ht : GoodT t) (hs : t.kind = 1 ∨ t.kind = 2 ∨ Stops rest) (hlen : (pre ++ (seps ++ (pieceT t ++ rest))).length ≤ 65536) :
    nextT (pre ++ (seps ++ (pieceT t ++ rest))) pre.length = ⟨t, ((pre.length + seps.length + (pieceT t).length : Nat) : Int), 0⟩ := by
  obtain ⟨x, xs, hx, hxs⟩ := piece_ne ht
  unfold nextT
  rw [if_neg (by omega), if_neg (by simp; omega), Int.toNat_natCast, endC_sep hse (fun c hc => by rw [hx] at hc; cases hc; exact hxs)]
  have := nextC_piece (pre := pre ++ seps) ht hs
  rw [List.length_append, List.append_assoc] at this
  exact this
/-- Only separators are left. -/
theorem nextT_none {pre seps : Bs} (hse : seps.all isSep = true) (hlen : (pre ++ seps).length ≤ 65536) : nextT (pre ++ seps) pre.length = nxE 8 := by
  have := endC_sep (pre := pre) (rest := []) hse (fun c hc => by cases hc)
  rw [List.append_nil] at this
  unfold nextT
  rw [if_neg (by omega), if_neg (by simp; omega), Int.toNat_natCast, this]
  unfold nextC
  rw [if_pos (by simp)]
/-- Reading from k on gives these tokens and ends at k'. -/
def Rd (l : Bs) : Int → List Tok → Int → Prop
  | k, [], k' => k = k'
  | k, t :: ts, k' => ∃ m, nextT l k = ⟨t, m, 0⟩ ∧ Rd l m ts k'
def spell : List (Bs × Tok) → Bs
  | [] => []
  | (s, t) :: r => s ++ (pieceT t ++ spell r)
/-- Tokens and separators that may be read back: a run is followed by a separator or a parenthesis. -/
def OkSp : List (Bs × Tok) → Prop
  | [] => True
  | (s, t) :: r => s.all isSep = true ∧ GoodT t ∧ (t.kind = 1 ∨ t.kind = 2 ∨ r ≠ [] ∧ Stops (spell r)) ∧ OkSp r
theorem stops_app {a b : Bs} (h : Stops a) (hne : a ≠ []) : Stops (a ++ b) := fun c hc => by
  cases a with
  | nil => exact absurd rfl hne
  | cons x xs => exact h c (by simpa using hc)
theorem spell_ne {L : List (Bs × Tok)} (h : OkSp L) (hne : L ≠ []) : spell L ≠ [] := by
  cases L with
  | nil => exact absurd rfl hne
  | cons x r =>
    obtain ⟨s, t⟩ := x
    obtain ⟨y, ys, hy, -⟩ := piece_ne h.2.1
    unfold spell
    rw [hy]
    simp
theorem rd_spell : ∀ (L : List (Bs × Tok)) (pre rest : Bs), OkSp L → (pre ++ (spell L ++ rest)).length ≤ 65536 →
    Rd (pre ++ (spell L ++ rest)) pre.length (L.map (·.2)) ((pre.length + (spell L).length : Nat) : Int)
  | [], pre, rest, _, _ => by simp [Rd, spell]
  | (s, t) :: r, pre, rest, h, hl => by
    obtain ⟨h1, h2, h3, h4⟩ := h
    have e : pre ++ (spell ((s, t) :: r) ++ rest) = pre ++ (s ++ (pieceT t ++ (spell r ++ rest))) := by simp [spell]
    rw [e] at hl ⊢
    refine ⟨_, nextT_piece h1 h2 ?_ hl, ?_⟩
    · rcases h3 with h | h | ⟨h, h'⟩
      · exact .inl h
      · exact .inr (.inl h)
      · exact .inr (.inr (stops_app h' (spell_ne h4 h)))
    · have e2 : pre ++ (s ++ (pieceT t ++ (spell r ++ rest))) = (pre ++ (s ++ pieceT t)) ++ (spell r ++ rest) := by simp
      have := rd_spell r (pre ++ (s ++ pieceT t)) rest h4 (by rw [← e2]; exact hl)
      rw [e2]
      have e3 : ((pre ++ (s ++ pieceT t)).length : Nat) = pre.length + s.length + (pieceT t).length := by simp; omega
      have e4 : ((pre ++ (s ++ pieceT t)).length + (spell r).length : Nat) = pre.length + (spell ((s, t) :: r)).length := by simp [spell]; omega
      rw [e3] at this
      rw [← e3, e4, e3] at this
      exact this
end Go.Proofs.YtnofbjcikfofgaaGreat
