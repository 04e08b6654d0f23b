/- Contracts of frac.Format (at integers) and token.Format (at tokens that are well formed, texts that are not too long). Printed by gen_txg.py. -/
import Derived.Test.YtkdbpcenehhopaaTxE
import Derived.Test.YtkdbpcenehhopaaTxVW
import Derived.Test.YtkdbpcenehhopaaTxB
namespace Go.Proofs.Ytkdbpcenehhopaa
open Go.RowKit

/-- An integer in its least form. -/
def ZLite (w : World) (b : Bool) (A : Option Addr) (n c : Nat) (z : Int) : Prop := b = decide (z < 0) ∧ WordsAt w A n (wordsOf z.natAbs) ∧ n ≤ c ∧ c ≤ maxLen
theorem ZCan.lite {w : World} {B : Nat} {b : Bool} {A : Option Addr} {n c : Nat} {z : Int} (h : ZCan w B b A n c z) : ZLite w b A n c z := ⟨h.1, h.2.1, h.2.2.1, h.2.2.2.1⟩
theorem ZLite.ext {w w' : World} {b : Bool} {A : Option Addr} {n c : Nat} {z : Int} (h : ZLite w b A n c z) (hb : Ext w w') : ZLite w' b A n c z := ⟨h.1, h.2.1.below hb, h.2.2.1, h.2.2.2⟩
theorem ZLite.is {w : World} {b : Bool} {A : Option Addr} {n c : Nat} {z : Int} (h : ZLite w b A n c z) : ZIs w b A n c z := ⟨_, h.2.1, h.2.2.1, h.2.2.2, by rw [natOf_wordsOf, h.1]; exact (sgn_natAbs z).symm⟩
/-- A token's number in memory. -/
def TokL (w : World) (t : Tok) (s : Bool) (A : Option Addr) (n c : Nat) (s' : Bool) (A' : Option Addr) (n' c' : Nat) : Prop := (ZLite w s A n c t.num.num ∧ ZLite w s' A' n' c' (denOf t.num)) ∧ n ≤ 1000 ∧ n' ≤ 1000
theorem TokIs.lite {w : World} {B : Nat} {t : Tok} {s : Bool} {A : Option Addr} {n c : Nat} {s' : Bool} {A' : Option Addr} {n' c' : Nat} (h : TokIs w B t s A n c s' A' n' c') : TokL w t s A n c s' A' n' c' := ⟨⟨h.1.1.lite, h.1.2.lite⟩, h.2⟩
theorem TokL.ext {w w' : World} {t : Tok} {s : Bool} {A : Option Addr} {n c : Nat} {s' : Bool} {A' : Option Addr} {n' c' : Nat} (h : TokL w t s A n c s' A' n' c') (hb : Ext w w') : TokL w' t s A n c s' A' n' c' := ⟨⟨h.1.1.ext hb, h.1.2.ext hb⟩, h.2⟩
set_option maxRecDepth 100000 in
set_option maxHeartbeats 4000000 in
theorem ffmt_any (s : Bool) (A : Option Addr) (n c : Nat) (t : Bool) (B : Option Addr) (m d : Nat) (q : Rat) (w : World) (h : ZLite w s A n c q.num ∧ ZLite w t B m d (denOf q)) (hn : n ≤ 1000) (hm : m ≤ 1000) (hq : q.den = 1) :
    Calls Try.prog 44 #[.agg #[.bool s, .slice A n c, .bool t, .slice B m d]] w fun e w' => e = .returned (.string (bs (fmtZ q.num))) ∧ Ext w w' := by
  have H := Lib.hid h
  have HQ := Lib.hid hq
  clear h hq
  go_enter Try.func44, Try.ntmps44
  go_wp2_with fail
  have hE : Ext w (w.alloc (.cells #[.bool s, .slice A n c, .bool t, .slice B m d] 72)) := Ext.al Ext.rfl' _
  generalize (w.alloc (.cells #[.bool s, .slice A n c, .bool t, .slice B m d] 72)) = w0 at *
  have Ew0 := Lib.hid hE
  clear hE
  refine (qcan_any s A n c t B m d q w0 ⟨⟨q.num, denOf q, (H.out.1.ext Ew0.out).is, (H.out.2.ext Ew0.out).is, (qOf_self q).symm⟩, by omega, by omega⟩).mono ?_
  rintro e w1 ⟨su, Au, nu, cu, tu, Bu, mu, du, rfl, hQ, hE⟩
  have Qu := Lib.hid hQ
  clear hQ
  have Ew1 := Lib.hid hE
  clear hE
  have hmu : mu = 0 := by
    have h1 := Qu.out.2.2.1.1
    unfold denOf at h1
    rw [if_pos HQ.out] at h1
    rw [← h1, show (0 : Int).natAbs = 0 from rfl, wordsOf_zero]
    rfl
  subst hmu
  have hnu : nu = n := by rw [← Qu.out.1.2.1.1, ← H.out.1.2.1.1]
  subst hnu
  obtain ⟨⟨y0, y1, y2, y3⟩, -, yl⟩ := Cell4.new w1 _ rfl (.bool su) (.slice Au nu cu) (.bool tu) (.slice Bu 0 du) 72
  have EB := Lib.hid (show Ext w1 (w1.alloc (.cells #[.bool su, .slice Au nu cu, .bool tu, .slice Bu 0 du] 72)) from Ext.al Ext.rfl' _)
  go_wp2_with fail
  clear y0 y1 y2 y3 yl
  have hEB := EB.out
  clear EB
  generalize (w1.alloc (.cells #[.bool su, .slice Au nu cu, .bool tu, .slice Bu 0 du] 72)) = wb at *
  have EB := Lib.hid hEB
  clear hEB
  refine (zfmt_any su Au nu cu q.num wb (Qu.out.ext EB.out).1.is hn).mono ?_
  rintro e w2 ⟨rfl, hE⟩
  have Ew2 := Lib.hid hE
  clear hE
  go_wp2_with fail
  go_ret
  exact ⟨rfl, (Ext.trans Ew0.out (Ext.trans Ew1.out (Ext.trans EB.out Ew2.out)))⟩
/-- A token in memory: its six cells. -/
def TokAt (w : World) (b o : Nat) (t : Tok) : Prop := ∃ s A n c s' A' n' c', w.cell? ⟨b, o, none⟩ = some (.int .u8 t.kind) ∧ w.cell? ⟨b, o + 1, none⟩ = some (.string (bs t.text)) ∧ w.cell? ⟨b, o + 2, none⟩ = some (.bool s) ∧ w.cell? ⟨b, o + 3, none⟩ = some (.slice A n c) ∧ w.cell? ⟨b, o + 4, none⟩ = some (.bool s') ∧ w.cell? ⟨b, o + 5, none⟩ = some (.slice A' n' c') ∧ TokL w t s A n c s' A' n' c'
theorem TokAt.ext {w w' : World} {b o : Nat} {t : Tok} (h : TokAt w b o t) (hb : Ext w w') : TokAt w' b o t := by
  obtain ⟨s, A, n, c, s', A', n', c', h0, h1, h2, h3, h4, h5, h6⟩ := h
  exact ⟨s, A, n, c, s', A', n', c', Ext.cellOf hb h0, Ext.cellOf hb h1, Ext.cellOf hb h2, Ext.cellOf hb h3, Ext.cellOf hb h4, Ext.cellOf hb h5, h6.ext hb⟩
/-- A slice of tokens. -/
def ToksAt (w : World) (P : Option Addr) (n : Nat) (ts : List Tok) : Prop := ts.length = n ∧ (0 < n → ∃ b off, P = some ⟨b, off, none⟩ ∧ b < w.heap.size ∧ ∀ i, i < n → TokAt w b (off + i * 6) (ts.getD i tok0))
theorem ToksAt.ext {w w' : World} {P : Option Addr} {n : Nat} {ts : List Tok} (h : ToksAt w P n ts) (hb : Ext w w') : ToksAt w' P n ts := by
  refine ⟨h.1, fun hn => ?_⟩
  obtain ⟨b, off, e, hl, hc⟩ := h.2 hn
  exact ⟨b, off, e, Nat.lt_of_lt_of_le hl hb.size, fun i hi => (hc i hi).ext hb⟩
/-- The separators of formatted text; o: nothing is written ahead (at the start, behind an opening parenthesis). -/
def spaced : Bool → List Tok → List (Bs × Tok)
  | _, [] => []
  | o, t :: r => (if o || decide (t.kind = 2) then [] else [32], t) :: spaced (decide (t.kind = 1)) r
def fmtT (ts : List Tok) : Bs := spell (spaced true ts)
theorem GoodT.den {t : Tok} (h : GoodT t) : t.kind = 1 ∨ t.kind = 2 ∨ (t.kind = 3 ∧ allC isLow t.text = true) ∨ (t.kind = 4 ∧ t.num.den = 1) := by
  rcases h with rfl | rfl | ⟨l, rfl, hl⟩ | ⟨z, rfl, _⟩
  · exact .inl rfl
  · exact .inr (.inl rfl)
  · exact .inr (.inr (.inl ⟨rfl, hl⟩))
  · exact .inr (.inr (.inr ⟨rfl, by simp [tokN]⟩))
theorem getD_drop (ts : List Tok) {i : Nat} (h : i < ts.length) : ts.drop i = ts.getD i tok0 :: ts.drop (i + 1) := by
  rw [List.drop_eq_getElem_cons h]
  simp [List.getD, h]

end Go.Proofs.Ytkdbpcenehhopaa
