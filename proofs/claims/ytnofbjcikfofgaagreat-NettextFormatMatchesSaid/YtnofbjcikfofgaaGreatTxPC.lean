/- Plain: tokens that are read denote the network or the outage; what is parsed is valid; formatted text is read back. By hand. Plain: what is read from a text is read from a longer text, if nothing is read at its end; so a proper prefix of formatted text is rejected. By hand. -/
import Derived.Test.YtnofbjcikfofgaaGreatTxU
namespace Go.Proofs.YtnofbjcikfofgaaGreat
theorem four {z : List Int} (h : z.length = 4) : z = [z.getD 0 0, z.getD 1 0, z.getD 2 0, z.getD 3 0] := by
  match z, h with
  | [a, b, c, d], _ => rfl
theorem line_rd {l : Bs} {k k' : Int} {z : List Int} {ts : List Tok} (hz : z.length = 4) (hi : I64r (z.getD 0 0) ∧ I64r (z.getD 1 0) ∧ I64r (z.getD 2 0) ∧ I64r (z.getD 3 0)) (h : Rd l k (lnTok z ++ ts) k') :
    psMore l ⟨k, 0⟩ = true ∧ ∃ m, lineP l ⟨k, 0⟩ = ⟨m, 0⟩ ∧ lineV l ⟨k, 0⟩ = z ∧ Rd l m ts k' := by
  have h1 : Rd l k (tokO :: tokW [108, 105, 110, 101] :: ([z.getD 0 0, z.getD 1 0, z.getD 2 0, z.getD 3 0].map (fun (z : Int) => tokN (z : Rat)) ++ (tokC :: ts))) k' := h
  refine ⟨?_, ?_⟩
  · unfold psMore
    rw [peek_rd h1 1]
    rfl
  · obtain ⟨m1, e1, h2, -⟩ := psE_rd h1
    obtain ⟨m2, e2, h3⟩ := psW_rd h2
    obtain ⟨m3, e3, h4, e4⟩ := psIs_rd (by
      intro x hx
      simp only [List.mem_cons, List.not_mem_nil, or_false] at hx
      rcases hx with rfl | rfl | rfl | rfl
      · exact hi.1
      · exact hi.2.1
      · exact hi.2.2.1
      · exact hi.2.2.2) h3
    obtain ⟨m4, e5, h5, -⟩ := psE_rd h4
    have f1 : psE l ⟨k, 0⟩ 1 = ⟨m1, 0⟩ := e1
    have f3 : psIs l 4 ⟨m2, 0⟩ = ⟨m3, 0⟩ := e3
    have f4 : psVs l 4 ⟨m2, 0⟩ = [z.getD 0 0, z.getD 1 0, z.getD 2 0, z.getD 3 0] := e4
    have f5 : psE l ⟨m3, 0⟩ 2 = ⟨m4, 0⟩ := e5
    refine ⟨m4, ?_, ?_, h5⟩
    · unfold lineP
      rw [f1, e2, f3, f5]
    · unfold lineV
      rw [f1, e2, f4, ← four hz]
theorem lines_rd {l : Bs} {b : Int} (hb : 1 ≤ b ∧ b ≤ 6) : ∀ {ls : List (List Int)} {k k' : Int} {ts : List Tok} {f : Nat} {acc : List (List Int)}, (∀ z ∈ ls, z.length = 4) → (∀ z ∈ ls, lnOk b z = true) → Rd l k (ls.flatMap lnTok ++ tokC :: ts) k' → ls.length < f →
    ∃ m, linesP l f ⟨k, 0⟩ acc = (⟨m, 0⟩, acc ++ ls) ∧ Rd l m (tokC :: ts) k'
  | [], k, k', ts, f, acc, _, _, h, _ => by
    have h1 : Rd l k (tokC :: ts) k' := h
    have h2 : psMore l ⟨k, 0⟩ = false := by
      unfold psMore
      rw [peek_rd h1 1]
      rfl
    exact ⟨k, by rw [linesP_stop h2, List.append_nil], h1⟩
  | z :: ls, k, k', ts, 0, acc, _, _, _, hf => by omega
  | z :: ls, k, k', ts, f + 1, acc, h4, hok, h, hf => by
    have h1 : Rd l k (lnTok z ++ (ls.flatMap lnTok ++ tokC :: ts)) k' := by
      rw [← List.append_assoc]
      exact h
    obtain ⟨hm, m, e1, e2, h2⟩ := line_rd (h4 z List.mem_cons_self) (lnOk_i64 hb (hok z List.mem_cons_self)) h1
    obtain ⟨m2, e3, h3⟩ := lines_rd hb (f := f) (acc := acc ++ [z]) (fun x hx => h4 x (List.mem_cons_of_mem _ hx)) (fun x hx => hok x (List.mem_cons_of_mem _ hx)) h2 (by simp at hf; omega)
    refine ⟨m2, ?_, h3⟩
    rw [linesP_more hm, e1, e2, e3]
    simp
theorem netToks_len (b : Int) (ls : List (List Int)) : (netToks b ls).length = ls.length * 7 + 4 := by
  unfold netToks
  rw [List.length_cons, List.length_cons, List.length_cons, List.length_append, lnToks_len]
  simp
theorem net_rd {l : Bs} {k k' b : Int} {ls : List (List Int)} (hc : netC b ls = 0) (h4 : ∀ z ∈ ls, z.length = 4) (h : Rd l k (netToks b ls) k') : netR l k = ⟨b, ls, k', 0⟩ := by
  obtain ⟨hb, hl, hok⟩ := netC_ok hc
  have hlen := (rd_len h)
  have hll : ls.length < l.length + 2 := by
    rcases hlen.2 with e | ⟨_, h2⟩
    · cases e
    · have h3 := hlen.1
      have := netToks_len b ls
      omega
  have h0 : Rd l k (tokO :: tokW [110, 101, 116] :: tokN (b : Rat) :: (ls.flatMap lnTok ++ tokC :: [])) k' := h
  obtain ⟨m1, e1, h1, -⟩ := psE_rd h0
  obtain ⟨m2, e2, h2⟩ := psW_rd h1
  obtain ⟨m3, e3, h3, ev⟩ := psI_rd ⟨by omega, by omega⟩ h2
  obtain ⟨m4, e4, h5⟩ := lines_rd hb (acc := []) h4 hok h3 hll
  obtain ⟨m5, e5, h6, -⟩ := psE_rd h5
  have f1 : psE l ⟨k, 0⟩ 1 = ⟨m1, 0⟩ := e1
  have f5 : psE l ⟨m4, 0⟩ 2 = ⟨m5, 0⟩ := e5
  have f6 : m5 = k' := h6
  have hd : netHd l k = ⟨m2, 0⟩ := by unfold netHd; rw [f1, e2]
  unfold netR
  rw [hd, e3, ev, e4]
  simp only [List.nil_append]
  unfold netEnd netE
  rw [f5, if_pos rfl, hc, f6]
  simp
theorem out_rd {l : Bs} {k k' kd wh fr to_ : Int} (hk : kd = 1 ∨ kd = 2 ∨ kd = 3) (hv : validO kd wh fr to_ = true) (h : Rd l k (outToks kd wh fr to_) k') : outR l k = ⟨kd, wh, fr, to_, k', 0⟩ := by
  obtain ⟨i1, i2, i3⟩ := out_small hv
  have h0 : Rd l k (tokO :: tokW (outName kd) :: ([wh, fr, to_].map (fun (z : Int) => tokN (z : Rat)) ++ [tokC])) k' := h
  obtain ⟨m1, e1, h1, -⟩ := psE_rd h0
  obtain ⟨m2, e2, h2, et⟩ := psE_rd h1
  obtain ⟨m3, e3, h3, ev⟩ := psIs_rd (by
      intro x hx
      simp only [List.mem_cons, List.not_mem_nil, or_false] at hx
      rcases hx with rfl | rfl | rfl
      · exact i1
      · exact i2
      · exact i3) h2
  obtain ⟨m4, e4, h4, -⟩ := psE_rd h3
  have f1 : psE l ⟨k, 0⟩ 1 = ⟨m1, 0⟩ := e1
  have f2 : psE l ⟨m1, 0⟩ 3 = ⟨m2, 0⟩ := e2
  have ft : psT l ⟨m1, 0⟩ 3 = tokW (outName kd) := et
  have f3 : psIs l 3 ⟨m2, 0⟩ = ⟨m3, 0⟩ := e3
  have fv : psVs l 3 ⟨m2, 0⟩ = [wh, fr, to_] := ev
  have f4 : psE l ⟨m3, 0⟩ 2 = ⟨m4, 0⟩ := e4
  have f5 : m4 = k' := h4
  have hn : kindN (outName kd) = kd := by rcases hk with rfl | rfl | rfl <;> rfl
  have gk : psK l ⟨m1, 0⟩ = ⟨m2, 0⟩ := by
    unfold psK
    rw [f2, ft]
    have : kindN (tokW (outName kd)).text = kd := hn
    rw [this, if_neg (by simp), if_neg (by omega)]
  have gv : psKV l ⟨m1, 0⟩ = kd := by
    unfold psKV
    rw [f2, ft, if_neg (by simp)]
    exact hn
  unfold outR
  rw [f1, gk, gv, f3, fv]
  unfold outE
  rw [f4, if_neg (by simp)]
  simp only [List.getD_cons_zero, List.getD_cons_succ]
  rw [hv, if_pos rfl, f5]
theorem aft_lines (l : Bs) : ∀ (f : Nat) (p : PS) (acc : List (List Int)), Aft l p (linesP l f p acc).1 ∧ ((∀ z ∈ acc, z.length = 4) → ∀ z ∈ (linesP l f p acc).2, z.length = 4)
  | 0, p, acc => ⟨Aft.rfl, fun h => h⟩
  | f + 1, p, acc => by
    by_cases hm : psMore l p = true
    · rw [linesP_more hm]
      obtain ⟨h1, h2⟩ := aft_lines l f (lineP l p) (acc ++ [lineV l p])
      refine ⟨(aft_line l p).trans h1, fun h => h2 fun z hz => ?_⟩
      rcases List.mem_append.1 hz with hz | hz
      · exact h z hz
      · obtain rfl : z = lineV l p := by simpa using hz
        exact psIs_len l 4 _
    · rw [linesP_stop (by simpa using hm)]
      exact ⟨Aft.rfl, fun h => h⟩
theorem aft_pos {l : Bs} {k : Int} {p : PS} (h : Aft l (psE l ⟨k, 0⟩ 1) p) (he : p.e = 0) : k < p.k ∧ p.k ≤ l.length := by
  obtain ⟨h1, h2, -⟩ := h he
  have h3 := (aft_E l ⟨k, 0⟩ 1).2 h1
  have h4 := ((aft_E l ⟨k, 0⟩ 1).1.trans h) he
  have h5 : k < (psE l ⟨k, 0⟩ 1).k := h3.1
  rcases h4.2.2 with e | ⟨_, _, h6⟩
  · have : k = p.k := congrArg PS.k e
    omega
  · exact ⟨by omega, h6⟩
theorem net_ok {l : Bs} {k : Int} (h : (netR l k).e = 0) : netC (netR l k).b (netR l k).ls = 0 ∧ (∀ z ∈ (netR l k).ls, z.length = 4) ∧ k < (netR l k).nx ∧ (netR l k).nx ≤ l.length := by
  unfold netR at h ⊢
  obtain ⟨h1, h2⟩ := aft_lines l (l.length + 2) (psI l (netHd l k)) []
  generalize linesP l (l.length + 2) (psI l (netHd l k)) [] = x at *
  generalize psV l (netHd l k) = v at *
  unfold netEnd at h ⊢
  by_cases h3 : netE l x.1 v x.2 ≠ 0
  · rw [if_pos h3] at h
    exact absurd h h3
  · rw [if_neg h3]
    have h4 : netE l x.1 v x.2 = 0 := by simpa using h3
    unfold netE at h4
    by_cases h5 : (psE l x.1 2).e = 0
    · rw [if_pos h5] at h4
      refine ⟨h4, h2 (fun z hz => by cases hz), ?_⟩
      exact aft_pos ((((aft_W l (psE l ⟨k, 0⟩ 1) [110, 101, 116]).trans (aft_I l _)).trans h1).trans (aft_E l _ 2).1) h5
    · rw [if_neg h5] at h4
      exact absurd h4 h5
theorem aft_K (l : Bs) (p : PS) : Aft l p (psK l p) ∧ ((psK l p).e = 0 → psKV l p = 1 ∨ psKV l p = 2 ∨ psKV l p = 3) := by
  unfold psK psKV
  by_cases h1 : (psE l p 3).e ≠ 0
  · rw [if_pos h1]
    exact ⟨(aft_E l p 3).1, fun h => absurd h h1⟩
  · rw [if_neg h1, if_neg h1]
    by_cases h2 : kindN (psT l p 3).text = 0
    · rw [if_pos h2]
      exact ⟨fun h => (by cases h), fun h => (by cases h)⟩
    · rw [if_neg h2]
      refine ⟨(aft_E l p 3).1, fun _ => ?_⟩
      unfold kindN at h2 ⊢
      split
      · exact .inl rfl
      · split
        · exact .inr (.inl rfl)
        · split
          · exact .inr (.inr rfl)
          · rename_i a b c
            rw [if_neg a, if_neg b, if_neg c] at h2
            exact absurd rfl h2
theorem out_ok {l : Bs} {k : Int} : ((outR l k).e = 0 → ((outR l k).kd = 1 ∨ (outR l k).kd = 2 ∨ (outR l k).kd = 3) ∧ validO (outR l k).kd (outR l k).wh (outR l k).fr (outR l k).to_ = true ∧ k < (outR l k).nx ∧ (outR l k).nx ≤ l.length) ∧ ((outR l k).e ≠ 0 → (outR l k).nx = 0) := by
  unfold outR
  obtain ⟨h1, h2⟩ := aft_K l (psE l ⟨k, 0⟩ 1)
  generalize psKV l (psE l ⟨k, 0⟩ 1) = kd at *
  have h3 := aft_Is l 3 (psK l (psE l ⟨k, 0⟩ 1))
  generalize psVs l 3 (psK l (psE l ⟨k, 0⟩ 1)) = zs at *
  unfold outE
  by_cases h4 : (psE l (psIs l 3 (psK l (psE l ⟨k, 0⟩ 1))) 2).e ≠ 0
  · rw [if_pos h4]
    exact ⟨fun h => absurd h h4, fun _ => rfl⟩
  · rw [if_neg h4]
    have h5 : (psE l (psIs l 3 (psK l (psE l ⟨k, 0⟩ 1))) 2).e = 0 := by simpa using h4
    by_cases hv : validO kd (zs.getD 0 0) (zs.getD 1 0) (zs.getD 2 0) = true
    · rw [if_pos hv]
      refine ⟨fun _ => ⟨?_, hv, aft_pos ((h1.trans h3).trans (aft_E l _ 2).1) h5⟩, fun h => absurd rfl h⟩
      exact h2 (h3 ((aft_E l _ 2).1 h5).1).1
    · rw [if_neg hv]
      exact ⟨fun h => (by cases h), fun _ => rfl⟩
theorem sepT_ok (b : Bool) (t : Tok) : (sepT b t).all isSep = true := by unfold sepT; split <;> decide +kernel
theorem ok_spaced : ∀ (us : List Tok) (b : Bool), (∀ t ∈ us, GoodT t) → OkSp (spaced b (us ++ [tokC]))
  | [], b, _ => by
    show OkSp [(_, tokC)]
    exact ⟨sepT_ok b tokC, .inr (.inl rfl), .inr (.inl rfl), trivial⟩
  | t :: r, b, h => by
    have ih := ok_spaced r (decide (t.kind = 1)) (fun x hx => h x (List.mem_cons_of_mem _ hx))
    refine ⟨sepT_ok b t, h t List.mem_cons_self, ?_, ih⟩
    by_cases h1 : t.kind = 1
    · exact .inl h1
    · by_cases h2 : t.kind = 2
      · exact .inr (.inl h2)
      · refine .inr (.inr ?_)
        rw [decide_eq_false h1]
        show spaced false (r ++ [tokC]) ≠ [] ∧ Stops (spell (spaced false (r ++ [tokC])))
        cases hr : r ++ [tokC] with
        | nil => simp at hr
        | cons x y =>
          refine ⟨by simp [spaced], ?_⟩
          rw [spaced_cons]
          unfold sepT
          by_cases hx : x.kind = 2
          · rw [decide_eq_true hx]
            have : pieceT x = [41] := by unfold pieceT; rw [if_neg (by omega), if_pos hx]
            rw [this]
            exact stops_cons (by decide +kernel) _
          · rw [decide_eq_false hx]
            exact stops_cons (by decide +kernel) _
theorem spaced_toks : ∀ (ts : List Tok) (b : Bool), (spaced b ts).map (·.2) = ts
  | [], _ => rfl
  | t :: r, b => by
    show t :: (spaced _ r).map (·.2) = t :: r
    rw [spaced_toks r]
theorem rd_fmt (pre rest : Bs) (us : List Tok) (h : ∀ t ∈ us, GoodT t) (hl : (pre ++ (fmtT (us ++ [tokC]) ++ rest)).length ≤ 65536) :
    Rd (pre ++ (fmtT (us ++ [tokC]) ++ rest)) pre.length (us ++ [tokC]) ((pre.length + (fmtT (us ++ [tokC])).length : Nat) : Int) := by
  have := rd_spell (spaced true (us ++ [tokC])) pre rest (ok_spaced us true h) hl
  rw [spaced_toks] at this
  exact this
theorem net_fmt_len {b : Int} {ls : List (List Int)} (hc : netC b ls = 0) : (fmtT (netToks b ls)).length ≤ 1600 := by
  have h1 := spaced_len (netToks b ls) true (fun t ht => (net_good hc t ht).2)
  have h2 := (netC_ok hc).2.1
  have := netToks_len b ls
  unfold fmtT
  omega
theorem out_fmt_len {kd wh fr to_ : Int} (hk : kd = 1 ∨ kd = 2 ∨ kd = 3) (hv : validO kd wh fr to_ = true) : (fmtT (outToks kd wh fr to_)).length ≤ 126 := by
  have h1 := spaced_len (outToks kd wh fr to_) true (fun t ht => (out_good hk hv t ht).2)
  exact h1
/-- Formatted text is read back, whatever stands ahead of it and behind it. -/
theorem net_back (pre rest : Bs) {b : Int} {ls : List (List Int)} (hc : netC b ls = 0) (h4 : ∀ z ∈ ls, z.length = 4) (hl : (pre ++ (fmtT (netToks b ls) ++ rest)).length ≤ 65536) :
    netR (pre ++ (fmtT (netToks b ls) ++ rest)) pre.length = ⟨b, ls, ((pre.length + (fmtT (netToks b ls)).length : Nat) : Int), 0⟩ :=
  net_rd hc h4 (rd_fmt pre rest (tokO :: tokW [110, 101, 116] :: numT b :: ls.flatMap lnTok) (fun t ht => (net_good hc t (by
    show t ∈ (tokO :: tokW [110, 101, 116] :: numT b :: ls.flatMap lnTok) ++ [tokC]
    exact List.mem_append_left _ ht)).1) hl)
theorem out_back (pre rest : Bs) {kd wh fr to_ : Int} (hk : kd = 1 ∨ kd = 2 ∨ kd = 3) (hv : validO kd wh fr to_ = true) (hl : (pre ++ (fmtT (outToks kd wh fr to_) ++ rest)).length ≤ 65536) :
    outR (pre ++ (fmtT (outToks kd wh fr to_) ++ rest)) pre.length = ⟨kd, wh, fr, to_, ((pre.length + (fmtT (outToks kd wh fr to_)).length : Nat) : Int), 0⟩ :=
  out_rd hk hv (rd_fmt pre rest [tokO, tokW (outName kd), numT wh, numT fr, numT to_] (fun t ht => (out_good hk hv t (by
    show t ∈ [tokO, tokW (outName kd), numT wh, numT fr, numT to_] ++ [tokC]
    exact List.mem_append_left _ ht)).1) hl)
end Go.Proofs.YtnofbjcikfofgaaGreat

namespace Go.Proofs.YtnofbjcikfofgaaGreat
theorem takeWhile_longer {p : UInt8 → Bool} {a R : Bs} (h : (a.takeWhile p).length < a.length) : (a ++ R).takeWhile p = a.takeWhile p := by
  rw [List.takeWhile_append, if_neg (by omega)]
theorem endC_longer {p : UInt8 → Bool} {P R : Bs} {k : Nat} (hk : k ≤ P.length) (h : endC p P k < P.length) : ((P ++ R).drop k).takeWhile p = (P.drop k).takeWhile p ∧ endC p (P ++ R) k = endC p P k := by
  have e : ((P ++ R).drop k).takeWhile p = (P.drop k).takeWhile p := by
    rw [List.drop_append_of_le_length hk, takeWhile_longer]
    unfold endC at h
    rw [List.length_drop]
    omega
  exact ⟨e, by unfold endC; rw [e]⟩
theorem getD_longer {P R : Bs} {a : Nat} (h : a < P.length) : (P ++ R).getD a 0 = P.getD a 0 := by
  rw [List.getD_eq_getElem?_getD, List.getD_eq_getElem?_getD, List.getElem?_append_left h]
theorem runT_kind {r : Bs} {b : Nat} (h : (runT r b).e = 0) : (runT r b).t.kind = 3 ∨ (runT r b).t.kind = 4 := by
  unfold runT at h ⊢
  by_cases h1 : allC isLow r = true
  · rw [if_pos h1]; exact .inl rfl
  · rw [if_neg h1] at h ⊢
    by_cases h2 : (!allC isNumr r) = true
    · rw [if_pos h2] at h; cases h
    · rw [if_neg h2] at h ⊢
      by_cases h3 : qE r ≠ 0
      · rw [if_pos h3] at h; exact absurd h h3
      · rw [if_neg h3]; exact .inr rfl
theorem nextT_longer {P R : Bs} {k : Int} (h : (nextT P k).e = 0) (hm : (nextT P k).nx < P.length ∨ (nextT P k).t.kind = 1 ∨ (nextT P k).t.kind = 2) (hl : (P ++ R).length ≤ 65536) : nextT (P ++ R) k = nextT P k := by
  have hl2 : P.length + R.length ≤ 65536 := by rw [← List.length_append]; exact hl
  have hP : ¬ 65536 < P.length := by omega
  have hPR : ¬ 65536 < (P ++ R).length := by omega
  unfold nextT at h hm ⊢
  rw [if_neg hP] at h hm
  rw [if_neg hP, if_neg hPR]
  by_cases h2 : k < 0 ∨ (P.length : Int) < k
  · rw [if_pos h2] at h; cases h
  · rw [if_neg h2] at h hm ⊢
    rw [if_neg (by rw [List.length_append]; omega)]
    have hk : k.toNat ≤ P.length := by omega
    by_cases h3 : endC isSep P k.toNat = P.length
    · unfold nextC at h; rw [if_pos h3] at h; cases h
    · have h4 := endC_len (p := isSep) hk
      have h5 : endC isSep P k.toNat < P.length := by omega
      rw [(endC_longer (R := R) hk h5).2]
      generalize endC isSep P k.toNat = a at *
      unfold nextC at h hm ⊢
      rw [if_neg h3] at h hm ⊢
      rw [if_neg (by rw [List.length_append]; omega), getD_longer h5]
      by_cases g1 : P.getD a 0 = 40
      · rw [if_pos g1, if_pos g1]
      · rw [if_neg g1] at h hm ⊢
        rw [if_neg g1]
        by_cases g2 : P.getD a 0 = 41
        · rw [if_pos g2, if_pos g2]
        · rw [if_neg g2] at h hm ⊢
          rw [if_neg g2]
          have hr := runT_ok h
          have hkd := runT_kind h
          have hb : endC isRun P a < P.length := by
            rcases hm with hm | hm | hm
            · rw [hr.1] at hm; omega
            · omega
            · omega
          obtain ⟨e1, e2⟩ := endC_longer (R := R) (Nat.le_of_lt h5) hb
          rw [e1, e2]
theorem psE_longer {P R : Bs} {p : PS} {kd : Int} (h : (psE P p kd).e = 0) (hm : (psE P p kd).k < P.length ∨ kd = 1 ∨ kd = 2) (hl : (P ++ R).length ≤ 65536) : psE (P ++ R) p kd = psE P p kd ∧ psT (P ++ R) p kd = psT P p kd ∧ nextT (P ++ R) p.k = nextT P p.k ∧ (nextT P p.k).t.kind = kd ∧ (nextT P p.k).e = 0 ∧ p.e = 0 := by
  obtain ⟨-, h2⟩ := aft_E P p kd
  obtain ⟨-, hp, hn⟩ := h2 h
  have e1 : psE P p kd = p.adv (expectT P p.k kd).nx (expectT P p.k kd).e := by unfold psE; rw [if_neg (by omega)]
  have he : (expectT P p.k kd).e = 0 := by
    rw [e1] at h
    unfold PS.adv at h
    by_cases h3 : (expectT P p.k kd).e = 0
    · exact h3
    · rw [if_neg h3] at h; exact absurd h h3
  obtain ⟨-, hkd, hex⟩ := expectT_ok he
  have e2 : (psE P p kd).k = (nextT P p.k).nx := by
    rw [e1]
    unfold PS.adv
    rw [if_pos he, hex]
  have hN := nextT_longer (R := R) hn (by rw [e2] at hm; rw [hkd]; exact hm) hl
  have hX : expectT (P ++ R) p.k kd = expectT P p.k kd := by unfold expectT; rw [hN]
  refine ⟨?_, ?_, hN, hkd, hn, hp⟩
  · unfold psE; rw [hX]
  · unfold psT; rw [hX]
theorem adv_ok {p : PS} {nx e : Int} (h : (p.adv nx e).e = 0) : e = 0 ∧ (p.adv nx e).k = nx := by
  unfold PS.adv at h ⊢
  by_cases h3 : e = 0
  · rw [if_pos h3]; exact ⟨h3, rfl⟩
  · rw [if_neg h3] at h; exact absurd h h3
theorem eword_ok {l : Bs} {k : Int} {wd : Bs} (h : (ewordT l k wd).2 = 0) : (expectT l k 3).e = 0 ∧ (ewordT l k wd).1 = (expectT l k 3).nx := by
  unfold ewordT at h ⊢
  by_cases h1 : (expectT l k 3).e ≠ 0
  · rw [if_pos h1] at h; exact absurd h h1
  · rw [if_neg h1] at h ⊢
    by_cases h2 : (expectT l k 3).t.text ≠ wd
    · rw [if_pos h2] at h; cases h
    · rw [if_neg h2]; exact ⟨by simpa using h1, rfl⟩
theorem eint_ok {l : Bs} {k : Int} (h : (eintT l k).2.2 = 0) : (expectT l k 4).e = 0 ∧ (eintT l k).2.1 = (expectT l k 4).nx := by
  unfold eintT at h ⊢
  by_cases h1 : (expectT l k 4).e ≠ 0
  · rw [if_pos h1] at h; exact absurd h h1
  · rw [if_neg h1] at h ⊢
    by_cases h2 : i64B (expectT l k 4).t.num.num = false ∨ (expectT l k 4).t.num.den ≠ 1
    · rw [if_pos h2] at h; cases h
    · rw [if_neg h2]; exact ⟨by simpa using h1, rfl⟩
theorem psW_longer {P R : Bs} {p : PS} {wd : Bs} (h : (psW P p wd).e = 0) (hm : (psW P p wd).k < P.length) (hl : (P ++ R).length ≤ 65536) : psW (P ++ R) p wd = psW P p wd := by
  have hp := (aft_W P p wd h).1
  have e1 : psW P p wd = p.adv (ewordT P p.k wd).1 (ewordT P p.k wd).2 := by unfold psW; rw [if_neg (by omega)]
  rw [e1] at h hm
  obtain ⟨h2, h3⟩ := adv_ok h
  obtain ⟨he, h4⟩ := eword_ok h2
  obtain ⟨hn, hkd, hex⟩ := expectT_ok he
  rw [h3, h4, hex] at hm
  have hN := nextT_longer (R := R) hn (.inl hm) hl
  have hX : expectT (P ++ R) p.k 3 = expectT P p.k 3 := by unfold expectT; rw [hN]
  unfold psW ewordT
  rw [hX]
theorem psI_longer {P R : Bs} {p : PS} (h : (psI P p).e = 0) (hm : (psI P p).k < P.length) (hl : (P ++ R).length ≤ 65536) : psI (P ++ R) p = psI P p ∧ psV (P ++ R) p = psV P p := by
  have hp := (aft_I P p h).1
  have e1 : psI P p = p.adv (eintT P p.k).2.1 (eintT P p.k).2.2 := by unfold psI; rw [if_neg (by omega)]
  rw [e1] at h hm
  obtain ⟨h2, h3⟩ := adv_ok h
  obtain ⟨he, h4⟩ := eint_ok h2
  obtain ⟨hn, hkd, hex⟩ := expectT_ok he
  rw [h3, h4, hex] at hm
  have hN := nextT_longer (R := R) hn (.inl hm) hl
  have hX : expectT (P ++ R) p.k 4 = expectT P p.k 4 := by unfold expectT; rw [hN]
  constructor
  · unfold psI eintT; rw [hX]
  · unfold psV eintT; rw [hX]
theorem psIs_longer {P R : Bs} (hl : (P ++ R).length ≤ 65536) : ∀ (n : Nat) {p : PS}, (psIs P n p).e = 0 → (psIs P n p).k < P.length → psIs (P ++ R) n p = psIs P n p ∧ psVs (P ++ R) n p = psVs P n p
  | 0, _, _, _ => ⟨rfl, rfl⟩
  | n + 1, p, h, hm => by
    rw [psIs] at h hm
    obtain ⟨g1, g2, -⟩ := aft_Is P n (psI P p) h
    obtain ⟨h1, h2⟩ := psI_longer g1 (by omega) hl
    obtain ⟨h3, h4⟩ := psIs_longer hl n h hm
    rw [psIs, psVs, h1, h2, h3, h4, psIs, psVs]
    exact ⟨rfl, rfl⟩
theorem aft_lt {l : Bs} {p : PS} {kd : Int} (h : (psE l p kd).e = 0) : p.e = 0 ∧ p.k < (psE l p kd).k ∧ (psE l p kd).k ≤ l.length := by
  obtain ⟨h1, h2⟩ := aft_E l p kd
  obtain ⟨h3, h4, h5⟩ := h2 h
  obtain ⟨-, -, h6⟩ := h1 h
  refine ⟨h4, h3, ?_⟩
  rcases h6 with e | ⟨-, -, h7⟩
  · rw [← e] at h3; omega
  · exact h7
theorem line_longer {P R : Bs} (hl : (P ++ R).length ≤ 65536) {p : PS} (h : (lineP P p).e = 0) : lineP (P ++ R) p = lineP P p ∧ lineV (P ++ R) p = lineV P p := by
  unfold lineP at h ⊢
  unfold lineV
  obtain ⟨a1, a2, a3⟩ := aft_lt h
  have b1 := aft_Is P 4 _ a1
  have c1 := aft_W P _ _ b1.1
  obtain ⟨e1, -⟩ := psE_longer c1.1 (.inr (.inl rfl)) hl
  have e2 := psW_longer (R := R) b1.1 (by omega) hl
  obtain ⟨e3, e4⟩ := psIs_longer (R := R) hl 4 a1 (by omega)
  obtain ⟨e5, -⟩ := psE_longer h (.inr (.inr rfl)) hl
  rw [e1, e2, e3, e4]
  exact ⟨e5, rfl⟩
theorem more_longer {P R : Bs} (hl : (P ++ R).length ≤ 65536) {p : PS} (h : psMore P p = true) : psMore (P ++ R) p = true := by
  unfold psMore peekT at h ⊢
  simp only [Bool.and_eq_true, decide_eq_true_eq] at h ⊢
  have hN := nextT_longer (R := R) h.2.1 (.inr (.inl h.2.2)) hl
  rw [hN]
  exact h
theorem more_none {P R : Bs} (hl : (P ++ R).length ≤ 65536) {p : PS} (h : (psE P p 2).e = 0) : psMore (P ++ R) p = false := by
  obtain ⟨-, -, h1, h2, -, -⟩ := psE_longer h (.inr (.inr rfl)) hl
  unfold psMore peekT
  rw [h1, h2]
  simp
theorem lines_longer {P R : Bs} (hl : (P ++ R).length ≤ 65536) : ∀ (f g : Nat) {p : PS} {acc : List (List Int)}, f ≤ g → (psE P (linesP P f p acc).1 2).e = 0 → linesP (P ++ R) g p acc = linesP P f p acc
  | 0, g, p, acc, _, h => linesP_stop (more_none hl h)
  | f + 1, g, p, acc, hg, h => by
    by_cases hm : psMore P p = true
    · obtain ⟨g, rfl⟩ : ∃ g', g = g' + 1 := ⟨g - 1, by omega⟩
      rw [linesP_more hm] at h ⊢
      obtain ⟨a1, -⟩ := aft_lt h
      obtain ⟨b1, -⟩ := aft_lines P f (lineP P p) (acc ++ [lineV P p])
      obtain ⟨e1, e2⟩ := line_longer (R := R) hl (b1 a1).1
      rw [linesP_more (more_longer hl hm), e1, e2]
      exact lines_longer hl f g (by omega) h
    · have hm2 : psMore P p = false := by simpa using hm
      rw [linesP_stop hm2] at h ⊢
      exact linesP_stop (more_none hl h)
theorem net_longer {P R : Bs} (hl : (P ++ R).length ≤ 65536) {k : Int} (h : (netR P k).e = 0) : netR (P ++ R) k = netR P k := by
  have hx : (psE P (linesP P (P.length + 2) (psI P (netHd P k)) []).1 2).e = 0 := by
    unfold netR netEnd netE at h
    by_cases h1 : (psE P (linesP P (P.length + 2) (psI P (netHd P k)) []).1 2).e = 0
    · exact h1
    · rw [if_neg h1, if_pos h1] at h
      exact absurd h h1
  obtain ⟨a1, a2, a3⟩ := aft_lt hx
  obtain ⟨b1, -⟩ := aft_lines P (P.length + 2) (psI P (netHd P k)) []
  have c1 := b1 a1
  have d1 := aft_I P _ c1.1
  have f1 := aft_W P (psE P ⟨k, 0⟩ 1) [110, 101, 116] d1.1
  obtain ⟨e1, -⟩ := psE_longer (R := R) f1.1 (.inr (.inl rfl)) hl
  have e2 := psW_longer (R := R) d1.1 (by have := d1.2.1; have := c1.2.1; unfold netHd at *; omega) hl
  have e3 := psI_longer (R := R) c1.1 (by have := c1.2.1; omega) hl
  have hd : netHd (P ++ R) k = netHd P k := by unfold netHd; rw [e1, e2]
  have e4 := lines_longer (R := R) hl (P.length + 2) ((P ++ R).length + 2) (by rw [List.length_append]; omega) hx
  obtain ⟨e5, -⟩ := psE_longer (R := R) hx (.inr (.inr rfl)) hl
  unfold netR
  rw [hd, e3.1, e3.2, e4]
  unfold netEnd netE
  rw [e5]
theorem psK_longer {P R : Bs} (hl : (P ++ R).length ≤ 65536) {p : PS} (h : (psK P p).e = 0) (hm : (psK P p).k < P.length) : psK (P ++ R) p = psK P p ∧ psKV (P ++ R) p = psKV P p := by
  have h1 : (psE P p 3).e = 0 := by
    by_cases h1 : (psE P p 3).e = 0
    · exact h1
    · unfold psK at h
      rw [if_pos h1] at h
      exact absurd h h1
  have h2 : (psK P p).k = (psE P p 3).k := by
    unfold psK
    rw [if_neg (by omega)]
    split <;> rfl
  obtain ⟨e1, e2, -⟩ := psE_longer (R := R) h1 (.inl (by omega)) hl
  unfold psK psKV
  rw [e1, e2]
  exact ⟨rfl, rfl⟩
theorem out_longer {P R : Bs} (hl : (P ++ R).length ≤ 65536) {k : Int} (h : (outR P k).e = 0) : outR (P ++ R) k = outR P k := by
  have hx : (psE P (psIs P 3 (psK P (psE P ⟨k, 0⟩ 1))) 2).e = 0 := by
    unfold outR outE at h
    by_cases h1 : (psE P (psIs P 3 (psK P (psE P ⟨k, 0⟩ 1))) 2).e = 0
    · exact h1
    · rw [if_pos h1] at h
      exact absurd h h1
  obtain ⟨a1, a2, a3⟩ := aft_lt hx
  have c1 := aft_Is P 3 _ a1
  have d1 := (aft_K P _).1 c1.1
  obtain ⟨e1, -⟩ := psE_longer (R := R) d1.1 (.inr (.inl rfl)) hl
  have e2 := psK_longer (R := R) hl c1.1 (by have := c1.2.1; omega)
  have e3 := psIs_longer (R := R) hl 3 a1 (by omega)
  obtain ⟨e5, -⟩ := psE_longer (R := R) hx (.inr (.inr rfl)) hl
  unfold outR
  rw [e1, e2.1, e2.2, e3.1, e3.2]
  unfold outE
  rw [e5]
/-- A proper prefix of formatted text is rejected. -/
theorem net_cut {b : Int} {ls : List (List Int)} (hc : netC b ls = 0) (h4 : ∀ z ∈ ls, z.length = 4) {c : Nat} (hlt : c < (fmtT (netToks b ls)).length) : (netR ((fmtT (netToks b ls)).take c) 0).e ≠ 0 := by
  intro h
  have hl := net_fmt_len hc
  have h1 := net_back [] [] hc h4 (by simp; omega)
  simp only [List.nil_append, List.append_nil, List.length_nil, Nat.zero_add] at h1
  generalize fmtT (netToks b ls) = s at *
  have h2 := net_longer (P := s.take c) (R := s.drop c) (by rw [List.take_append_drop]; omega) h
  rw [List.take_append_drop] at h2
  have h3 := (net_ok h).2.2.2
  have h1' := h1
  rw [show ((0 : Nat) : Int) = 0 from rfl] at h1'
  rw [← h2, h1'] at h3
  simp at h3
  omega
theorem out_cut {kd wh fr to_ : Int} (hk : kd = 1 ∨ kd = 2 ∨ kd = 3) (hv : validO kd wh fr to_ = true) {c : Nat} (hlt : c < (fmtT (outToks kd wh fr to_)).length) : (outR ((fmtT (outToks kd wh fr to_)).take c) 0).e ≠ 0 := by
  intro h
  have hl := out_fmt_len hk hv
  have h1 := out_back [] [] hk hv (by simp; omega)
  simp only [List.nil_append, List.append_nil, List.length_nil, Nat.zero_add] at h1
  generalize fmtT (outToks kd wh fr to_) = s at *
  have h2 := out_longer (P := s.take c) (R := s.drop c) (by rw [List.take_append_drop]; omega) h
  rw [List.take_append_drop] at h2
  have h3 := (out_ok.1 h).2.2.2
  have h1' := h1
  rw [show ((0 : Nat) : Int) = 0 from rfl] at h1'
  rw [← h2, h1'] at h3
  simp at h3
  omega
end Go.Proofs.YtnofbjcikfofgaaGreat
