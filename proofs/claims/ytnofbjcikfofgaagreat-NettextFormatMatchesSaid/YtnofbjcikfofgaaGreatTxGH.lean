/- Contracts of frac.Format (at integers) and token.Format (at tokens that are well formed, texts that are not too long). Printed by gen_txg.py. The contract of token.Format at well formed tokens. Printed by gen_txh.py. -/
import Derived.Test.YtnofbjcikfofgaaGreatTxE
import Derived.Test.YtnofbjcikfofgaaGreatTxVW
import Derived.Test.YtnofbjcikfofgaaGreatTxB
namespace Go.Proofs.YtnofbjcikfofgaaGreat
open Go.RowKit

/-- An integer in its least form. -/
def ZLite (w : World) (b : Bool) (A : Option Addr) (n c : Nat) (z : Int) : Prop := b = decide (z < 0) ∧ WordsAt w A n (wordsOf z.natAbs) ∧ n ≤ c ∧ c ≤ maxLen
theorem ZCan.lite {w : World} {B : Nat} {b : Bool} {A : Option Addr} {n c : Nat} {z : Int} (h : ZCan w B b A n c z) : ZLite w b A n c z := ⟨h.1, h.2.1, h.2.2.1, h.2.2.2.1⟩
theorem ZLite.ext {w w' : World} {b : Bool} {A : Option Addr} {n c : Nat} {z : Int} (h : ZLite w b A n c z) (hb : Ext w w') : ZLite w' b A n c z := ⟨h.1, h.2.1.below hb, h.2.2.1, h.2.2.2⟩
theorem ZLite.is {w : World} {b : Bool} {A : Option Addr} {n c : Nat} {z : Int} (h : ZLite w b A n c z) : ZIs w b A n c z := ⟨_, h.2.1, h.2.2.1, h.2.2.2, by rw [natOf_wordsOf, h.1]; exact (sgn_natAbs z).symm⟩
/-- A token's number in memory. -/
def TokL (w : World) (t : Tok) (s : Bool) (A : Option Addr) (n c : Nat) (s' : Bool) (A' : Option Addr) (n' c' : Nat) : Prop := (ZLite w s A n c t.num.num ∧ ZLite w s' A' n' c' (denOf t.num)) ∧ n ≤ 1000 ∧ n' ≤ 1000
theorem TokIs.lite {w : World} {B : Nat} {t : Tok} {s : Bool} {A : Option Addr} {n c : Nat} {s' : Bool} {A' : Option Addr} {n' c' : Nat} (h : TokIs w B t s A n c s' A' n' c') : TokL w t s A n c s' A' n' c' := ⟨⟨h.1.1.lite, h.1.2.lite⟩, h.2⟩
theorem TokL.ext {w w' : World} {t : Tok} {s : Bool} {A : Option Addr} {n c : Nat} {s' : Bool} {A' : Option Addr} {n' c' : Nat} (h : TokL w t s A n c s' A' n' c') (hb : Ext w w') : TokL w' t s A n c s' A' n' c' := ⟨⟨h.1.1.ext hb, h.1.2.ext hb⟩, h.2⟩
set_option maxRecDepth 100000 in
set_option maxHeartbeats 4000000 in
theorem ffmt_any (s : Bool) (A : Option Addr) (n c : Nat) (t : Bool) (B : Option Addr) (m d : Nat) (q : Rat) (w : World) (h : ZLite w s A n c q.num ∧ ZLite w t B m d (denOf q)) (hn : n ≤ 1000) (hm : m ≤ 1000) (hq : q.den = 1) :
    Calls Tryz.prog 36 #[.agg #[.bool s, .slice A n c, .bool t, .slice B m d]] w fun e w' => e = .returned (.string (bs (fmtZ q.num))) ∧ Ext w w' := by
  have H := Lib.hid h
  have HQ := Lib.hid hq
  clear h hq
  go_enter Tryz.func36, Tryz.ntmps36
  go_wp2_with fail
  have hE : Ext w (w.alloc (.cells #[.bool s, .slice A n c, .bool t, .slice B m d] 51)) := Ext.al Ext.rfl' _
  generalize (w.alloc (.cells #[.bool s, .slice A n c, .bool t, .slice B m d] 51)) = w0 at *
  have Ew0 := Lib.hid hE
  clear hE
  refine (qcan_any s A n c t B m d q w0 ⟨⟨q.num, denOf q, (H.out.1.ext Ew0.out).is, (H.out.2.ext Ew0.out).is, (qOf_self q).symm⟩, by omega, by omega⟩).mono ?_
  rintro e w1 ⟨su, Au, nu, cu, tu, Bu, mu, du, rfl, hQ, hE⟩
  have Qu := Lib.hid hQ
  clear hQ
  have Ew1 := Lib.hid hE
  clear hE
  have hmu : mu = 0 := by
    have h1 := Qu.out.2.2.1.1
    unfold denOf at h1
    rw [if_pos HQ.out] at h1
    rw [← h1, show (0 : Int).natAbs = 0 from rfl, wordsOf_zero]
    rfl
  subst hmu
  have hnu : nu = n := by rw [← Qu.out.1.2.1.1, ← H.out.1.2.1.1]
  subst hnu
  obtain ⟨⟨y0, y1, y2, y3⟩, -, yl⟩ := Cell4.new w1 _ rfl (.bool su) (.slice Au nu cu) (.bool tu) (.slice Bu 0 du) 51
  have EB := Lib.hid (show Ext w1 (w1.alloc (.cells #[.bool su, .slice Au nu cu, .bool tu, .slice Bu 0 du] 51)) from Ext.al Ext.rfl' _)
  go_wp2_with fail
  clear y0 y1 y2 y3 yl
  have hEB := EB.out
  clear EB
  generalize (w1.alloc (.cells #[.bool su, .slice Au nu cu, .bool tu, .slice Bu 0 du] 51)) = wb at *
  have EB := Lib.hid hEB
  clear hEB
  refine (zfmt_any su Au nu cu q.num wb (Qu.out.ext EB.out).1.is hn).mono ?_
  rintro e w2 ⟨rfl, hE⟩
  have Ew2 := Lib.hid hE
  clear hE
  go_wp2_with fail
  go_ret
  exact ⟨rfl, (Ext.trans Ew0.out (Ext.trans Ew1.out (Ext.trans EB.out Ew2.out)))⟩
/-- A token in memory: its six cells. -/
def TokAt (w : World) (b o : Nat) (t : Tok) : Prop := ∃ s A n c s' A' n' c', w.cell? ⟨b, o, none⟩ = some (.int .u8 t.kind) ∧ w.cell? ⟨b, o + 1, none⟩ = some (.string (bs t.text)) ∧ w.cell? ⟨b, o + 2, none⟩ = some (.bool s) ∧ w.cell? ⟨b, o + 3, none⟩ = some (.slice A n c) ∧ w.cell? ⟨b, o + 4, none⟩ = some (.bool s') ∧ w.cell? ⟨b, o + 5, none⟩ = some (.slice A' n' c') ∧ TokL w t s A n c s' A' n' c'
theorem TokAt.ext {w w' : World} {b o : Nat} {t : Tok} (h : TokAt w b o t) (hb : Ext w w') : TokAt w' b o t := by
  obtain ⟨s, A, n, c, s', A', n', c', h0, h1, h2, h3, h4, h5, h6⟩ := h
  exact ⟨s, A, n, c, s', A', n', c', Ext.cellOf hb h0, Ext.cellOf hb h1, Ext.cellOf hb h2, Ext.cellOf hb h3, Ext.cellOf hb h4, Ext.cellOf hb h5, h6.ext hb⟩
/-- A slice of tokens. -/
def ToksAt (w : World) (P : Option Addr) (n : Nat) (ts : List Tok) : Prop := ts.length = n ∧ (0 < n → ∃ b off, P = some ⟨b, off, none⟩ ∧ b < w.heap.size ∧ ∀ i, i < n → TokAt w b (off + i * 6) (ts.getD i tok0))
theorem ToksAt.ext {w w' : World} {P : Option Addr} {n : Nat} {ts : List Tok} (h : ToksAt w P n ts) (hb : Ext w w') : ToksAt w' P n ts := by
  refine ⟨h.1, fun hn => ?_⟩
  obtain ⟨b, off, e, hl, hc⟩ := h.2 hn
  exact ⟨b, off, e, Nat.lt_of_lt_of_le hl hb.size, fun i hi => (hc i hi).ext hb⟩
/-- The separators of formatted text; o: nothing is written ahead (at the start, behind an opening parenthesis). -/
def spaced : Bool → List Tok → List (Bs × Tok)
  | _, [] => []
  | o, t :: r => (if o || decide (t.kind = 2) then [] else [32], t) :: spaced (decide (t.kind = 1)) r
def fmtT (ts : List Tok) : Bs := spell (spaced true ts)
theorem GoodT.den {t : Tok} (h : GoodT t) : t.kind = 1 ∨ t.kind = 2 ∨ (t.kind = 3 ∧ allC isLow t.text = true) ∨ (t.kind = 4 ∧ t.num.den = 1) := by
  rcases h with rfl | rfl | ⟨l, rfl, hl⟩ | ⟨z, rfl, _⟩
  · exact .inl rfl
  · exact .inr (.inl rfl)
  · exact .inr (.inr (.inl ⟨rfl, hl⟩))
  · exact .inr (.inr (.inr ⟨rfl, by simp [tokN]⟩))
theorem getD_drop (ts : List Tok) {i : Nat} (h : i < ts.length) : ts.drop i = ts.getD i tok0 :: ts.drop (i + 1) := by
  rw [List.drop_eq_getElem_cons h]
  simp [List.getD, h]

end Go.Proofs.YtnofbjcikfofgaaGreat

namespace Go.Proofs.YtnofbjcikfofgaaGreat
open Go.RowKit
def noSep (ts : List Tok) (k : Nat) : Bool := decide (k = 0) || decide ((ts.getD (k - 1) tok0).kind = 1)
def sepT (o : Bool) (t : Tok) : Bs := if o || decide (t.kind = 2) then [] else [32]
theorem spaced_cons (o : Bool) (t : Tok) (r : List Tok) : spell (spaced o (t :: r)) = sepT o t ++ (pieceT t ++ spell (spaced (decide (t.kind = 1)) r)) := rfl
theorem fmt_step {ts : List Tok} {k : Nat} {acc : Bs} (hk : k < ts.length) (h : acc ++ spell (spaced (noSep ts k) (ts.drop k)) = fmtT ts) :
    (acc ++ (sepT (noSep ts k) (ts.getD k tok0) ++ pieceT (ts.getD k tok0))) ++ spell (spaced (noSep ts (k + 1)) (ts.drop (k + 1))) = fmtT ts := by
  rw [getD_drop ts hk] at h
  have e : noSep ts (k + 1) = decide ((ts.getD k tok0).kind = 1) := by unfold noSep; simp
  rw [← h, e, spaced_cons]
  simp
theorem bs_append (a b : Bs) : bs a ++ bs b = bs (a ++ b) := by
  apply ByteArray.ext
  simp [bs]
set_option maxRecDepth 100000 in
set_option maxHeartbeats 16000000 in
theorem tformat_any (P : Option Addr) (n c : Nat) (ts : List Tok) (w : World) (h : ToksAt w P n ts) (hn : n ≤ 1000000) (hg : ∀ k, k < n → GoodT (ts.getD k tok0)) (hl : (fmtT ts).length ≤ 65536) (hne : fmtT ts ≠ []) :
    Calls Tryz.prog 20 #[.slice P n c] w fun e w' => e = .returned (.tuple #[.string (bs (fmtT ts)), .int .i64 0]) ∧ Ext w w' := by
  have H := Lib.hid h
  have HG := Lib.hid hg
  have HL := Lib.hid hl
  have HNE := Lib.hid hne
  have HLN := Lib.hid h.1
  clear h hg hl hne
  go_enter Tryz.func20, Tryz.ntmps20
  go_wp2_with fail
  have hB0 : Bld (w.alloc (.cells #[.pointer none, .slice none 0 0] 79)) w.heap.size w.heap.size [] := Lib.fresh_isBuilder _ _ w
  have hE0 : Ext w (w.alloc (.cells #[.pointer none, .slice none 0 0] 79)) := Ext.al Ext.rfl' _
  have hsz : w.heap.size < (w.alloc (.cells #[.pointer none, .slice none 0 0] 79)).heap.size := by simp
  generalize w.alloc (.cells #[.pointer none, .slice none 0 0] 79) = w0 at *
  have HB0 := Lib.hid hB0
  have HE0 := Lib.hid hE0
  obtain ⟨B, hB⟩ : ∃ B, w.heap.size = B := ⟨_, rfl⟩
  rw [hB] at HB0 hsz ⊢
  have HBW := Lib.hid hB
  clear hB hB0 hE0
  go_loopw [5, 11] (fun lg i wr => ∃ (k : Nat) (acc : Bs), k ≤ n ∧ i = .int .i64 (k : Int) ∧ lg = .bool false ∧ Hid (Bld wr B B acc) ∧ Hid (acc ++ spell (spaced (noSep ts k) (ts.drop k)) = fmtT ts) ∧ Hid (Ext w wr) ∧ Hid (B < wr.heap.size)) (fun _ i _ => n - (intOf i).toNat)
  case atStart => exact ⟨0, [], by omega, rfl, rfl, HB0, by simp [Hid, noSep, fmtT], HE0, hsz⟩
  case round =>
    obtain ⟨k, acc, hk, rfl, rfl, HBD, HACC, HE, HBS⟩ := hrel
    by_cases hlt : k < n
    · have hbv : decide ((k : Int) < (n : Int)) = true := by simp; omega
      have hbv2 : decide (k < n) = true := by simp; omega
      have hz0 : (0 : Int) ≤ (k : Int) := by omega
      have hzn : (k : Int) < (n : Int) := by omega
      have hGD := (HG.out k hlt).den
      have HSTEP := Lib.hid (fmt_step (by rw [HLN.out]; exact hlt) HACC.out)
      obtain ⟨b, off, rfl, hblt, hcs⟩ := (H.out.ext HE.out).2 (by omega)
      have HCS := Lib.hid hcs
      clear hcs
      obtain ⟨tk, htk⟩ : ∃ t, ts.getD k tok0 = t := ⟨_, rfl⟩
      have hcell := HCS.out k hlt
      rw [htk] at hcell hGD HSTEP
      have HTK := Lib.hid htk
      clear htk
      obtain ⟨kd, txt, num⟩ := tk
      obtain ⟨s, A, nn, cc, s', A', n', c', x0, x1, x2, x3, x4, x5, hTI⟩ := hcell
      have HTI := Lib.hid hTI
      have HGD := Lib.hid hGD
      simp only at x0 x1 HGD
      have HX := Lib.hid (And.intro x0 (And.intro x1 (And.intro x2 (And.intro x3 (And.intro x4 x5)))))
      clear hTI hGD
      rcases HGD.out with rfl | rfl | ⟨rfl, hlow⟩ | ⟨rfl, hden⟩
      · skip
        by_cases hk0 : k = 0
        · have hkb0 : decide ((0 : Int) < (k : Int)) = false := by simp; omega
          have hkb1 : decide (0 < k) = false := by simp; omega
          have HNS : Hid (noSep ts k = true) := by unfold Hid noSep; rw [decide_eq_true hk0]; rfl
          have HK0 := Lib.hid hk0
          clear hk0
          have hE1 : Ext wr (wr.alloc (.cells #[.int .u8 1, .string (bs txt), .bool s, .slice A nn cc, .bool s', .slice A' n' c'] 53)) := Ext.al Ext.rfl' _
          have hC6 := Cell6.new wr (.int .u8 1) (.string (bs txt)) (.bool s) (.slice A nn cc) (.bool s') (.slice A' n' c') 53
          obtain ⟨x0, x1, x2, x3, x4, x5⟩ := HX.out
          have C6W := Lib.hid hC6
          obtain ⟨y0, y1, y2, y3, y4, y5, yl⟩ := hC6
          have HEW := Lib.hid hE1
          clear hE1
          go_wp2_with fail
          clear x0 x1 x2 x3 x4 x5 y0 y1 y2 y3 y4 y5 yl C6W
          have hEW := HEW.out
          clear HEW
          generalize (wr.alloc (.cells #[.int .u8 1, .string (bs txt), .bool s, .slice A nn cc, .bool s', .slice A' n' c'] 53)) = w3 at *
          have HEW := Lib.hid hEW
          clear hEW
          have HPL : Hid (sepT (noSep ts k) ⟨1, txt, num⟩ ++ pieceT ⟨1, txt, num⟩ = [40]) := by unfold Hid sepT; rw [HNS.out]; simp [pieceT]
          rw [HPL.out] at HSTEP
          have hlen : acc.length + ([40] : Bs).length ≤ 65536 := by
            have := congrArg List.length HSTEP.out
            rw [List.length_append, List.length_append] at this
            have := HL.out
            omega
          have HLEN := Lib.hid hlen
          clear hlen
          have HB3 := Lib.hid (HBD.out.ext HEW.out)
          refine (bld_len B B acc w3 HB3.out).mono ?_
          rintro e w' ⟨rfl, rfl⟩
          have hsz : (⟨#[40]⟩ : ByteArray).size = ([40] : Bs).length := rfl
          have hcb : decide ((65536 : Int) < (acc.length : Int) + 1) = false := decide_eq_false (by have h1 := HLEN.out; have h2 := hsz; (try simp only [List.length_cons, List.length_nil] at h1); (try simp only [List.length_cons, List.length_nil] at h2); omega)
          have hcb2 : decide (65536 < acc.length + 1) = false := decide_eq_false (by have h1 := HLEN.out; have h2 := hsz; (try simp only [List.length_cons, List.length_nil] at h1); (try simp only [List.length_cons, List.length_nil] at h2); omega)
          have HSZP := Lib.hid hsz
          clear hsz
          have hal : acc.length ≤ 65536 := by have := HLEN.out; omega
          go_wp2_with fail
          clear hcb hcb2
          refine (bld_write B B acc ⟨#[40]⟩ w3 HB3.out (by rw [HSZP.out]; have := HLEN.out; omega) (by have := HEW.out.size; have := HBS.out; omega)).mono ?_
          rintro e w5 ⟨rfl, hB5, hb5⟩
          have HB5 : Hid (Bld w5 B B (acc ++ [40])) := by
            have e : (⟨#[40]⟩ : ByteArray).data.toList = [40] := rfl
            rw [e] at hB5
            exact hB5
          have HE5 : Hid (Ext w w5) := Below.trans (Ext.trans HE.out HEW.out) (hb5.mono (by rw [HBW.out]; exact Nat.le_refl _))
          have HBS5 : Hid (B < w5.heap.size) := Nat.lt_of_lt_of_le HBS.out (Nat.le_trans HEW.out.size hb5.size)
          clear hB5 hb5
          go_wp2_with fail
          go_roundw
          case rel => exact ⟨k + 1, acc ++ [40], by omega, by go_num, by first | rfl | trivial, HB5.out, HSTEP.out, HE5.out, HBS5.out⟩
          case measure => simp [intOf]; omega
        · obtain ⟨p, rfl⟩ : ∃ p, k = p + 1 := ⟨k - 1, by omega⟩
          clear hk0
          have hkb0 : decide ((0 : Int) < ((p + 1 : Nat) : Int)) = true := decide_eq_true (by omega)
          have hkb1 : decide (0 < p + 1) = true := decide_eq_true (by omega)
          have hkp : ((p + 1 : Nat) : Int) - 1 = (p : Int) := by omega
          have hp0 : (0 : Int) ≤ (p : Int) := by omega
          have hpn : (p : Int) < (n : Int) := by omega
          obtain ⟨_, _, _, _, _, _, _, _, hpk, -, -, -, -, -, -⟩ := HCS.out p (by omega)
          obtain ⟨pk, hpk0⟩ : ∃ v, (ts.getD p tok0).kind = v := ⟨_, rfl⟩
          rw [hpk0] at hpk
          have HPV := Lib.hid hpk
          have HPK := Lib.hid hpk0
          clear hpk hpk0
          by_cases hp1 : pk = 1
          · subst hp1
            have HNS : Hid (noSep ts (p + 1) = true) := by unfold Hid noSep; rw [Nat.add_sub_cancel, HPK.out]; simp
            have hE1 : Ext wr (wr.alloc (.cells #[.int .u8 1, .string (bs txt), .bool s, .slice A nn cc, .bool s', .slice A' n' c'] 53)) := Ext.al Ext.rfl' _
            have hC6 := Cell6.new wr (.int .u8 1) (.string (bs txt)) (.bool s) (.slice A nn cc) (.bool s') (.slice A' n' c') 53
            obtain ⟨x0, x1, x2, x3, x4, x5⟩ := HX.out
            have z0 := HPV.out
            have z1 := Ext.cellOf hE1 z0
            have C6W := Lib.hid hC6
            obtain ⟨y0, y1, y2, y3, y4, y5, yl⟩ := hC6
            have HEW := Lib.hid hE1
            clear hE1
            go_wp2_with fail
            clear x0 x1 x2 x3 x4 x5 y0 y1 y2 y3 y4 y5 yl C6W z0 z1
            have hEW := HEW.out
            clear HEW
            generalize (wr.alloc (.cells #[.int .u8 1, .string (bs txt), .bool s, .slice A nn cc, .bool s', .slice A' n' c'] 53)) = w3 at *
            have HEW := Lib.hid hEW
            clear hEW
            have HPL : Hid (sepT (noSep ts (p + 1)) ⟨1, txt, num⟩ ++ pieceT ⟨1, txt, num⟩ = [40]) := by unfold Hid sepT; rw [HNS.out]; simp [pieceT]
            rw [HPL.out] at HSTEP
            have hlen : acc.length + ([40] : Bs).length ≤ 65536 := by
              have := congrArg List.length HSTEP.out
              rw [List.length_append, List.length_append] at this
              have := HL.out
              omega
            have HLEN := Lib.hid hlen
            clear hlen
            have HB3 := Lib.hid (HBD.out.ext HEW.out)
            refine (bld_len B B acc w3 HB3.out).mono ?_
            rintro e w' ⟨rfl, rfl⟩
            have hsz : (⟨#[40]⟩ : ByteArray).size = ([40] : Bs).length := rfl
            have hcb : decide ((65536 : Int) < (acc.length : Int) + 1) = false := decide_eq_false (by have h1 := HLEN.out; have h2 := hsz; (try simp only [List.length_cons, List.length_nil] at h1); (try simp only [List.length_cons, List.length_nil] at h2); omega)
            have hcb2 : decide (65536 < acc.length + 1) = false := decide_eq_false (by have h1 := HLEN.out; have h2 := hsz; (try simp only [List.length_cons, List.length_nil] at h1); (try simp only [List.length_cons, List.length_nil] at h2); omega)
            have HSZP := Lib.hid hsz
            clear hsz
            have hal : acc.length ≤ 65536 := by have := HLEN.out; omega
            go_wp2_with fail
            clear hcb hcb2
            refine (bld_write B B acc ⟨#[40]⟩ w3 HB3.out (by rw [HSZP.out]; have := HLEN.out; omega) (by have := HEW.out.size; have := HBS.out; omega)).mono ?_
            rintro e w5 ⟨rfl, hB5, hb5⟩
            have HB5 : Hid (Bld w5 B B (acc ++ [40])) := by
              have e : (⟨#[40]⟩ : ByteArray).data.toList = [40] := rfl
              rw [e] at hB5
              exact hB5
            have HE5 : Hid (Ext w w5) := Below.trans (Ext.trans HE.out HEW.out) (hb5.mono (by rw [HBW.out]; exact Nat.le_refl _))
            have HBS5 : Hid (B < w5.heap.size) := Nat.lt_of_lt_of_le HBS.out (Nat.le_trans HEW.out.size hb5.size)
            clear hB5 hb5
            go_wp2_with fail
            go_roundw
            case rel => exact ⟨p + 1 + 1, acc ++ [40], by omega, by go_num, by first | rfl | trivial, HB5.out, HSTEP.out, HE5.out, HBS5.out⟩
            case measure => simp [intOf]; omega
          · have hpb : (pk != 1) = true := by simp [hp1]
            have hpb2 : (pk == 1) = false := by simp [hp1]
            have HNS : Hid (noSep ts (p + 1) = false) := by unfold Hid noSep; rw [Nat.add_sub_cancel, HPK.out]; simp [hp1]
            clear hp1
            have hE1 : Ext wr (wr.alloc (.cells #[.int .u8 1, .string (bs txt), .bool s, .slice A nn cc, .bool s', .slice A' n' c'] 53)) := Ext.al Ext.rfl' _
            have hC6 := Cell6.new wr (.int .u8 1) (.string (bs txt)) (.bool s) (.slice A nn cc) (.bool s') (.slice A' n' c') 53
            obtain ⟨x0, x1, x2, x3, x4, x5⟩ := HX.out
            have z0 := HPV.out
            have z1 := Ext.cellOf hE1 z0
            have C6W := Lib.hid hC6
            obtain ⟨y0, y1, y2, y3, y4, y5, yl⟩ := hC6
            have HEW := Lib.hid hE1
            clear hE1
            go_wp2_with fail
            clear x0 x1 x2 x3 x4 x5 y0 y1 y2 y3 y4 y5 yl C6W z0 z1
            have hEW := HEW.out
            clear HEW
            generalize (wr.alloc (.cells #[.int .u8 1, .string (bs txt), .bool s, .slice A nn cc, .bool s', .slice A' n' c'] 53)) = w3 at *
            have HEW := Lib.hid hEW
            clear hEW
            have HPL : Hid (sepT (noSep ts (p + 1)) ⟨1, txt, num⟩ ++ pieceT ⟨1, txt, num⟩ = [32, 40]) := by unfold Hid sepT; rw [HNS.out]; simp [pieceT]
            rw [HPL.out] at HSTEP
            have hlen : acc.length + ([32, 40] : Bs).length ≤ 65536 := by
              have := congrArg List.length HSTEP.out
              rw [List.length_append, List.length_append] at this
              have := HL.out
              omega
            have HLEN := Lib.hid hlen
            clear hlen
            have HB3 := Lib.hid (HBD.out.ext HEW.out)
            refine (bld_len B B acc w3 HB3.out).mono ?_
            rintro e w' ⟨rfl, rfl⟩
            have hsz : (⟨#[32, 40]⟩ : ByteArray).size = ([32, 40] : Bs).length := rfl
            have hcb : decide ((65536 : Int) < (acc.length : Int) + 2) = false := decide_eq_false (by have h1 := HLEN.out; have h2 := hsz; (try simp only [List.length_cons, List.length_nil] at h1); (try simp only [List.length_cons, List.length_nil] at h2); omega)
            have hcb2 : decide (65536 < acc.length + 2) = false := decide_eq_false (by have h1 := HLEN.out; have h2 := hsz; (try simp only [List.length_cons, List.length_nil] at h1); (try simp only [List.length_cons, List.length_nil] at h2); omega)
            have HSZP := Lib.hid hsz
            clear hsz
            have hal : acc.length ≤ 65536 := by have := HLEN.out; omega
            go_wp2_with fail
            clear hcb hcb2
            refine (bld_write B B acc ⟨#[32, 40]⟩ w3 HB3.out (by rw [HSZP.out]; have := HLEN.out; omega) (by have := HEW.out.size; have := HBS.out; omega)).mono ?_
            rintro e w5 ⟨rfl, hB5, hb5⟩
            have HB5 : Hid (Bld w5 B B (acc ++ [32, 40])) := by
              have e : (⟨#[32, 40]⟩ : ByteArray).data.toList = [32, 40] := rfl
              rw [e] at hB5
              exact hB5
            have HE5 : Hid (Ext w w5) := Below.trans (Ext.trans HE.out HEW.out) (hb5.mono (by rw [HBW.out]; exact Nat.le_refl _))
            have HBS5 : Hid (B < w5.heap.size) := Nat.lt_of_lt_of_le HBS.out (Nat.le_trans HEW.out.size hb5.size)
            clear hB5 hb5
            go_wp2_with fail
            go_roundw
            case rel => exact ⟨p + 1 + 1, acc ++ [32, 40], by omega, by go_num, by first | rfl | trivial, HB5.out, HSTEP.out, HE5.out, HBS5.out⟩
            case measure => simp [intOf]; omega
      · skip
        by_cases hk0 : k = 0
        · have hkb0 : decide ((0 : Int) < (k : Int)) = false := by simp; omega
          have hkb1 : decide (0 < k) = false := by simp; omega
          have HNS : Hid (noSep ts k = true) := by unfold Hid noSep; rw [decide_eq_true hk0]; rfl
          have HK0 := Lib.hid hk0
          clear hk0
          have hE1 : Ext wr (wr.alloc (.cells #[.int .u8 2, .string (bs txt), .bool s, .slice A nn cc, .bool s', .slice A' n' c'] 53)) := Ext.al Ext.rfl' _
          have hC6 := Cell6.new wr (.int .u8 2) (.string (bs txt)) (.bool s) (.slice A nn cc) (.bool s') (.slice A' n' c') 53
          obtain ⟨x0, x1, x2, x3, x4, x5⟩ := HX.out
          have C6W := Lib.hid hC6
          obtain ⟨y0, y1, y2, y3, y4, y5, yl⟩ := hC6
          have HEW := Lib.hid hE1
          clear hE1
          go_wp2_with fail
          clear x0 x1 x2 x3 x4 x5 y0 y1 y2 y3 y4 y5 yl C6W
          have hEW := HEW.out
          clear HEW
          generalize (wr.alloc (.cells #[.int .u8 2, .string (bs txt), .bool s, .slice A nn cc, .bool s', .slice A' n' c'] 53)) = w3 at *
          have HEW := Lib.hid hEW
          clear hEW
          have HPL : Hid (sepT (noSep ts k) ⟨2, txt, num⟩ ++ pieceT ⟨2, txt, num⟩ = [41]) := by unfold Hid sepT; rw [HNS.out]; simp [pieceT]
          rw [HPL.out] at HSTEP
          have hlen : acc.length + ([41] : Bs).length ≤ 65536 := by
            have := congrArg List.length HSTEP.out
            rw [List.length_append, List.length_append] at this
            have := HL.out
            omega
          have HLEN := Lib.hid hlen
          clear hlen
          have HB3 := Lib.hid (HBD.out.ext HEW.out)
          refine (bld_len B B acc w3 HB3.out).mono ?_
          rintro e w' ⟨rfl, rfl⟩
          have hsz : (⟨#[41]⟩ : ByteArray).size = ([41] : Bs).length := rfl
          have hcb : decide ((65536 : Int) < (acc.length : Int) + 1) = false := decide_eq_false (by have h1 := HLEN.out; have h2 := hsz; (try simp only [List.length_cons, List.length_nil] at h1); (try simp only [List.length_cons, List.length_nil] at h2); omega)
          have hcb2 : decide (65536 < acc.length + 1) = false := decide_eq_false (by have h1 := HLEN.out; have h2 := hsz; (try simp only [List.length_cons, List.length_nil] at h1); (try simp only [List.length_cons, List.length_nil] at h2); omega)
          have HSZP := Lib.hid hsz
          clear hsz
          have hal : acc.length ≤ 65536 := by have := HLEN.out; omega
          go_wp2_with fail
          clear hcb hcb2
          refine (bld_write B B acc ⟨#[41]⟩ w3 HB3.out (by rw [HSZP.out]; have := HLEN.out; omega) (by have := HEW.out.size; have := HBS.out; omega)).mono ?_
          rintro e w5 ⟨rfl, hB5, hb5⟩
          have HB5 : Hid (Bld w5 B B (acc ++ [41])) := by
            have e : (⟨#[41]⟩ : ByteArray).data.toList = [41] := rfl
            rw [e] at hB5
            exact hB5
          have HE5 : Hid (Ext w w5) := Below.trans (Ext.trans HE.out HEW.out) (hb5.mono (by rw [HBW.out]; exact Nat.le_refl _))
          have HBS5 : Hid (B < w5.heap.size) := Nat.lt_of_lt_of_le HBS.out (Nat.le_trans HEW.out.size hb5.size)
          clear hB5 hb5
          go_wp2_with fail
          go_roundw
          case rel => exact ⟨k + 1, acc ++ [41], by omega, by go_num, by first | rfl | trivial, HB5.out, HSTEP.out, HE5.out, HBS5.out⟩
          case measure => simp [intOf]; omega
        · obtain ⟨p, rfl⟩ : ∃ p, k = p + 1 := ⟨k - 1, by omega⟩
          clear hk0
          have hkb0 : decide ((0 : Int) < ((p + 1 : Nat) : Int)) = true := decide_eq_true (by omega)
          have hkb1 : decide (0 < p + 1) = true := decide_eq_true (by omega)
          have hkp : ((p + 1 : Nat) : Int) - 1 = (p : Int) := by omega
          have hp0 : (0 : Int) ≤ (p : Int) := by omega
          have hpn : (p : Int) < (n : Int) := by omega
          obtain ⟨_, _, _, _, _, _, _, _, hpk, -, -, -, -, -, -⟩ := HCS.out p (by omega)
          obtain ⟨pk, hpk0⟩ : ∃ v, (ts.getD p tok0).kind = v := ⟨_, rfl⟩
          rw [hpk0] at hpk
          have HPV := Lib.hid hpk
          have HPK := Lib.hid hpk0
          clear hpk hpk0
          by_cases hp1 : pk = 1
          · subst hp1
            have HNS : Hid (noSep ts (p + 1) = true) := by unfold Hid noSep; rw [Nat.add_sub_cancel, HPK.out]; simp
            have hE1 : Ext wr (wr.alloc (.cells #[.int .u8 2, .string (bs txt), .bool s, .slice A nn cc, .bool s', .slice A' n' c'] 53)) := Ext.al Ext.rfl' _
            have hC6 := Cell6.new wr (.int .u8 2) (.string (bs txt)) (.bool s) (.slice A nn cc) (.bool s') (.slice A' n' c') 53
            obtain ⟨x0, x1, x2, x3, x4, x5⟩ := HX.out
            have z0 := HPV.out
            have z1 := Ext.cellOf hE1 z0
            have C6W := Lib.hid hC6
            obtain ⟨y0, y1, y2, y3, y4, y5, yl⟩ := hC6
            have HEW := Lib.hid hE1
            clear hE1
            go_wp2_with fail
            clear x0 x1 x2 x3 x4 x5 y0 y1 y2 y3 y4 y5 yl C6W z0 z1
            have hEW := HEW.out
            clear HEW
            generalize (wr.alloc (.cells #[.int .u8 2, .string (bs txt), .bool s, .slice A nn cc, .bool s', .slice A' n' c'] 53)) = w3 at *
            have HEW := Lib.hid hEW
            clear hEW
            have HPL : Hid (sepT (noSep ts (p + 1)) ⟨2, txt, num⟩ ++ pieceT ⟨2, txt, num⟩ = [41]) := by unfold Hid sepT; rw [HNS.out]; simp [pieceT]
            rw [HPL.out] at HSTEP
            have hlen : acc.length + ([41] : Bs).length ≤ 65536 := by
              have := congrArg List.length HSTEP.out
              rw [List.length_append, List.length_append] at this
              have := HL.out
              omega
            have HLEN := Lib.hid hlen
            clear hlen
            have HB3 := Lib.hid (HBD.out.ext HEW.out)
            refine (bld_len B B acc w3 HB3.out).mono ?_
            rintro e w' ⟨rfl, rfl⟩
            have hsz : (⟨#[41]⟩ : ByteArray).size = ([41] : Bs).length := rfl
            have hcb : decide ((65536 : Int) < (acc.length : Int) + 1) = false := decide_eq_false (by have h1 := HLEN.out; have h2 := hsz; (try simp only [List.length_cons, List.length_nil] at h1); (try simp only [List.length_cons, List.length_nil] at h2); omega)
            have hcb2 : decide (65536 < acc.length + 1) = false := decide_eq_false (by have h1 := HLEN.out; have h2 := hsz; (try simp only [List.length_cons, List.length_nil] at h1); (try simp only [List.length_cons, List.length_nil] at h2); omega)
            have HSZP := Lib.hid hsz
            clear hsz
            have hal : acc.length ≤ 65536 := by have := HLEN.out; omega
            go_wp2_with fail
            clear hcb hcb2
            refine (bld_write B B acc ⟨#[41]⟩ w3 HB3.out (by rw [HSZP.out]; have := HLEN.out; omega) (by have := HEW.out.size; have := HBS.out; omega)).mono ?_
            rintro e w5 ⟨rfl, hB5, hb5⟩
            have HB5 : Hid (Bld w5 B B (acc ++ [41])) := by
              have e : (⟨#[41]⟩ : ByteArray).data.toList = [41] := rfl
              rw [e] at hB5
              exact hB5
            have HE5 : Hid (Ext w w5) := Below.trans (Ext.trans HE.out HEW.out) (hb5.mono (by rw [HBW.out]; exact Nat.le_refl _))
            have HBS5 : Hid (B < w5.heap.size) := Nat.lt_of_lt_of_le HBS.out (Nat.le_trans HEW.out.size hb5.size)
            clear hB5 hb5
            go_wp2_with fail
            go_roundw
            case rel => exact ⟨p + 1 + 1, acc ++ [41], by omega, by go_num, by first | rfl | trivial, HB5.out, HSTEP.out, HE5.out, HBS5.out⟩
            case measure => simp [intOf]; omega
          · have hpb : (pk != 1) = true := by simp [hp1]
            have hpb2 : (pk == 1) = false := by simp [hp1]
            have HNS : Hid (noSep ts (p + 1) = false) := by unfold Hid noSep; rw [Nat.add_sub_cancel, HPK.out]; simp [hp1]
            clear hp1
            have hE1 : Ext wr (wr.alloc (.cells #[.int .u8 2, .string (bs txt), .bool s, .slice A nn cc, .bool s', .slice A' n' c'] 53)) := Ext.al Ext.rfl' _
            have hC6 := Cell6.new wr (.int .u8 2) (.string (bs txt)) (.bool s) (.slice A nn cc) (.bool s') (.slice A' n' c') 53
            obtain ⟨x0, x1, x2, x3, x4, x5⟩ := HX.out
            have z0 := HPV.out
            have z1 := Ext.cellOf hE1 z0
            have C6W := Lib.hid hC6
            obtain ⟨y0, y1, y2, y3, y4, y5, yl⟩ := hC6
            have HEW := Lib.hid hE1
            clear hE1
            go_wp2_with fail
            clear x0 x1 x2 x3 x4 x5 y0 y1 y2 y3 y4 y5 yl C6W z0 z1
            have hEW := HEW.out
            clear HEW
            generalize (wr.alloc (.cells #[.int .u8 2, .string (bs txt), .bool s, .slice A nn cc, .bool s', .slice A' n' c'] 53)) = w3 at *
            have HEW := Lib.hid hEW
            clear hEW
            have HPL : Hid (sepT (noSep ts (p + 1)) ⟨2, txt, num⟩ ++ pieceT ⟨2, txt, num⟩ = [41]) := by unfold Hid sepT; rw [HNS.out]; simp [pieceT]
            rw [HPL.out] at HSTEP
            have hlen : acc.length + ([41] : Bs).length ≤ 65536 := by
              have := congrArg List.length HSTEP.out
              rw [List.length_append, List.length_append] at this
              have := HL.out
              omega
            have HLEN := Lib.hid hlen
            clear hlen
            have HB3 := Lib.hid (HBD.out.ext HEW.out)
            refine (bld_len B B acc w3 HB3.out).mono ?_
            rintro e w' ⟨rfl, rfl⟩
            have hsz : (⟨#[41]⟩ : ByteArray).size = ([41] : Bs).length := rfl
            have hcb : decide ((65536 : Int) < (acc.length : Int) + 1) = false := decide_eq_false (by have h1 := HLEN.out; have h2 := hsz; (try simp only [List.length_cons, List.length_nil] at h1); (try simp only [List.length_cons, List.length_nil] at h2); omega)
            have hcb2 : decide (65536 < acc.length + 1) = false := decide_eq_false (by have h1 := HLEN.out; have h2 := hsz; (try simp only [List.length_cons, List.length_nil] at h1); (try simp only [List.length_cons, List.length_nil] at h2); omega)
            have HSZP := Lib.hid hsz
            clear hsz
            have hal : acc.length ≤ 65536 := by have := HLEN.out; omega
            go_wp2_with fail
            clear hcb hcb2
            refine (bld_write B B acc ⟨#[41]⟩ w3 HB3.out (by rw [HSZP.out]; have := HLEN.out; omega) (by have := HEW.out.size; have := HBS.out; omega)).mono ?_
            rintro e w5 ⟨rfl, hB5, hb5⟩
            have HB5 : Hid (Bld w5 B B (acc ++ [41])) := by
              have e : (⟨#[41]⟩ : ByteArray).data.toList = [41] := rfl
              rw [e] at hB5
              exact hB5
            have HE5 : Hid (Ext w w5) := Below.trans (Ext.trans HE.out HEW.out) (hb5.mono (by rw [HBW.out]; exact Nat.le_refl _))
            have HBS5 : Hid (B < w5.heap.size) := Nat.lt_of_lt_of_le HBS.out (Nat.le_trans HEW.out.size hb5.size)
            clear hB5 hb5
            go_wp2_with fail
            go_roundw
            case rel => exact ⟨p + 1 + 1, acc ++ [41], by omega, by go_num, by first | rfl | trivial, HB5.out, HSTEP.out, HE5.out, HBS5.out⟩
            case measure => simp [intOf]; omega
      · have HLOW := Lib.hid hlow
        clear hlow
        have HTX : Hid ((bs txt).size ≤ maxLen) := by
          have h1 := congrArg List.length HSTEP.out
          have h2 := HL.out
          have e : pieceT ⟨3, txt, num⟩ = txt := rfl
          rw [e] at h1
          simp only [List.length_append] at h1
          unfold Hid
          rw [bs_size]
          unfold maxLen
          omega
        by_cases hk0 : k = 0
        · have hkb0 : decide ((0 : Int) < (k : Int)) = false := by simp; omega
          have hkb1 : decide (0 < k) = false := by simp; omega
          have HNS : Hid (noSep ts k = true) := by unfold Hid noSep; rw [decide_eq_true hk0]; rfl
          have HK0 := Lib.hid hk0
          clear hk0
          have hE1 : Ext wr (wr.alloc (.cells #[.int .u8 3, .string (bs txt), .bool s, .slice A nn cc, .bool s', .slice A' n' c'] 53)) := Ext.al Ext.rfl' _
          have hC6 := Cell6.new wr (.int .u8 3) (.string (bs txt)) (.bool s) (.slice A nn cc) (.bool s') (.slice A' n' c') 53
          obtain ⟨x0, x1, x2, x3, x4, x5⟩ := HX.out
          have C6W := Lib.hid hC6
          obtain ⟨y0, y1, y2, y3, y4, y5, yl⟩ := hC6
          have HEW := Lib.hid hE1
          clear hE1
          go_wp2_with fail
          clear x0 x1 x2 x3 x4 x5 y0 y2 y3 y4 y5 yl
          have f1 := fun x : ExtOf (wr.alloc (.cells #[.int .u8 3, .string (bs txt), .bool s, .slice A nn cc, .bool s', .slice A' n' c'] 53)) => x.cell y1
          clear y1
          refine wp_region_ext (by kernel_rfl) (by kernel_rfl) ?_
          repeat (first | (go_big_quiet_step (exact ext_call (letters_any _))) | (go_big_quiet_step (exact ext_call (all_low_any (bs txt) _ HTX.out))))
          refine wpQuiet_nil ?_
          rintro _ ⟨x, rfl⟩
          clear f1
          rw [bs_list, HLOW.out]
          have hx3 := x.h
          have c6 := C6W.out.ext hx3
          have HEW2 := Lib.hid (Ext.trans HEW.out hx3)
          generalize x.w = w3 at *
          clear C6W HEW hx3
          have HEW := HEW2
          clear HEW2
          obtain ⟨y0, y1, y2, y3, y4, y5, yl⟩ := c6
          go_wp2_with fail
          clear y0 y1 y2 y3 y4 y5 yl
          have HPL : Hid (sepT (noSep ts k) ⟨3, txt, num⟩ ++ pieceT ⟨3, txt, num⟩ = txt) := by unfold Hid sepT; rw [HNS.out]; simp [pieceT]
          rw [HPL.out] at HSTEP
          have hlen : acc.length + (txt : Bs).length ≤ 65536 := by
            have := congrArg List.length HSTEP.out
            rw [List.length_append, List.length_append] at this
            have := HL.out
            omega
          have HLEN := Lib.hid hlen
          clear hlen
          have HB3 := Lib.hid (HBD.out.ext HEW.out)
          refine (bld_len B B acc w3 HB3.out).mono ?_
          rintro e w' ⟨rfl, rfl⟩
          have hsz : ((bs txt) : ByteArray).size = (txt : Bs).length := bs_size _
          have hcb : decide ((65536 : Int) < (acc.length : Int) + (((bs txt)).size : Int)) = false := decide_eq_false (by have h1 := HLEN.out; have h2 := hsz; (try simp only [List.length_cons, List.length_nil] at h1); (try simp only [List.length_cons, List.length_nil] at h2); omega)
          have hcb2 : decide (65536 < acc.length + (((bs txt)).size)) = false := decide_eq_false (by have h1 := HLEN.out; have h2 := hsz; (try simp only [List.length_cons, List.length_nil] at h1); (try simp only [List.length_cons, List.length_nil] at h2); omega)
          have HSZP := Lib.hid hsz
          clear hsz
          have hal : acc.length ≤ 65536 := by have := HLEN.out; omega
          have hpl2 : ((bs txt) : ByteArray).size ≤ 65536 := by rw [HSZP.out]; have := HLEN.out; omega
          go_wp2_with fail
          clear hcb hcb2
          refine (bld_write B B acc (bs txt) w3 HB3.out (by rw [HSZP.out]; have := HLEN.out; omega) (by have := HEW.out.size; have := HBS.out; omega)).mono ?_
          rintro e w5 ⟨rfl, hB5, hb5⟩
          have HB5 : Hid (Bld w5 B B (acc ++ txt)) := by
            have e : ((bs txt) : ByteArray).data.toList = txt := bs_list _
            rw [e] at hB5
            exact hB5
          have HE5 : Hid (Ext w w5) := Below.trans (Ext.trans HE.out HEW.out) (hb5.mono (by rw [HBW.out]; exact Nat.le_refl _))
          have HBS5 : Hid (B < w5.heap.size) := Nat.lt_of_lt_of_le HBS.out (Nat.le_trans HEW.out.size hb5.size)
          clear hB5 hb5
          go_wp2_with fail
          go_roundw
          case rel => exact ⟨k + 1, acc ++ txt, by omega, by go_num, by first | rfl | trivial, HB5.out, HSTEP.out, HE5.out, HBS5.out⟩
          case measure => simp [intOf]; omega
        · obtain ⟨p, rfl⟩ : ∃ p, k = p + 1 := ⟨k - 1, by omega⟩
          clear hk0
          have hkb0 : decide ((0 : Int) < ((p + 1 : Nat) : Int)) = true := decide_eq_true (by omega)
          have hkb1 : decide (0 < p + 1) = true := decide_eq_true (by omega)
          have hkp : ((p + 1 : Nat) : Int) - 1 = (p : Int) := by omega
          have hp0 : (0 : Int) ≤ (p : Int) := by omega
          have hpn : (p : Int) < (n : Int) := by omega
          obtain ⟨_, _, _, _, _, _, _, _, hpk, -, -, -, -, -, -⟩ := HCS.out p (by omega)
          obtain ⟨pk, hpk0⟩ : ∃ v, (ts.getD p tok0).kind = v := ⟨_, rfl⟩
          rw [hpk0] at hpk
          have HPV := Lib.hid hpk
          have HPK := Lib.hid hpk0
          clear hpk hpk0
          by_cases hp1 : pk = 1
          · subst hp1
            have HNS : Hid (noSep ts (p + 1) = true) := by unfold Hid noSep; rw [Nat.add_sub_cancel, HPK.out]; simp
            have hE1 : Ext wr (wr.alloc (.cells #[.int .u8 3, .string (bs txt), .bool s, .slice A nn cc, .bool s', .slice A' n' c'] 53)) := Ext.al Ext.rfl' _
            have hC6 := Cell6.new wr (.int .u8 3) (.string (bs txt)) (.bool s) (.slice A nn cc) (.bool s') (.slice A' n' c') 53
            obtain ⟨x0, x1, x2, x3, x4, x5⟩ := HX.out
            have z0 := HPV.out
            have z1 := Ext.cellOf hE1 z0
            have C6W := Lib.hid hC6
            obtain ⟨y0, y1, y2, y3, y4, y5, yl⟩ := hC6
            have HEW := Lib.hid hE1
            clear hE1
            go_wp2_with fail
            clear x0 x1 x2 x3 x4 x5 y0 y2 y3 y4 y5 yl z0 z1
            have f1 := fun x : ExtOf (wr.alloc (.cells #[.int .u8 3, .string (bs txt), .bool s, .slice A nn cc, .bool s', .slice A' n' c'] 53)) => x.cell y1
            clear y1
            refine wp_region_ext (by kernel_rfl) (by kernel_rfl) ?_
            repeat (first | (go_big_quiet_step (exact ext_call (letters_any _))) | (go_big_quiet_step (exact ext_call (all_low_any (bs txt) _ HTX.out))))
            refine wpQuiet_nil ?_
            rintro _ ⟨x, rfl⟩
            clear f1
            rw [bs_list, HLOW.out]
            have hx3 := x.h
            have c6 := C6W.out.ext hx3
            have HEW2 := Lib.hid (Ext.trans HEW.out hx3)
            generalize x.w = w3 at *
            clear C6W HEW hx3
            have HEW := HEW2
            clear HEW2
            obtain ⟨y0, y1, y2, y3, y4, y5, yl⟩ := c6
            have z1 := Ext.cellOf HEW.out HPV.out
            go_wp2_with fail
            clear y0 y1 y2 y3 y4 y5 yl z1
            have HPL : Hid (sepT (noSep ts (p + 1)) ⟨3, txt, num⟩ ++ pieceT ⟨3, txt, num⟩ = txt) := by unfold Hid sepT; rw [HNS.out]; simp [pieceT]
            rw [HPL.out] at HSTEP
            have hlen : acc.length + (txt : Bs).length ≤ 65536 := by
              have := congrArg List.length HSTEP.out
              rw [List.length_append, List.length_append] at this
              have := HL.out
              omega
            have HLEN := Lib.hid hlen
            clear hlen
            have HB3 := Lib.hid (HBD.out.ext HEW.out)
            refine (bld_len B B acc w3 HB3.out).mono ?_
            rintro e w' ⟨rfl, rfl⟩
            have hsz : ((bs txt) : ByteArray).size = (txt : Bs).length := bs_size _
            have hcb : decide ((65536 : Int) < (acc.length : Int) + (((bs txt)).size : Int)) = false := decide_eq_false (by have h1 := HLEN.out; have h2 := hsz; (try simp only [List.length_cons, List.length_nil] at h1); (try simp only [List.length_cons, List.length_nil] at h2); omega)
            have hcb2 : decide (65536 < acc.length + (((bs txt)).size)) = false := decide_eq_false (by have h1 := HLEN.out; have h2 := hsz; (try simp only [List.length_cons, List.length_nil] at h1); (try simp only [List.length_cons, List.length_nil] at h2); omega)
            have HSZP := Lib.hid hsz
            clear hsz
            have hal : acc.length ≤ 65536 := by have := HLEN.out; omega
            have hpl2 : ((bs txt) : ByteArray).size ≤ 65536 := by rw [HSZP.out]; have := HLEN.out; omega
            go_wp2_with fail
            clear hcb hcb2
            refine (bld_write B B acc (bs txt) w3 HB3.out (by rw [HSZP.out]; have := HLEN.out; omega) (by have := HEW.out.size; have := HBS.out; omega)).mono ?_
            rintro e w5 ⟨rfl, hB5, hb5⟩
            have HB5 : Hid (Bld w5 B B (acc ++ txt)) := by
              have e : ((bs txt) : ByteArray).data.toList = txt := bs_list _
              rw [e] at hB5
              exact hB5
            have HE5 : Hid (Ext w w5) := Below.trans (Ext.trans HE.out HEW.out) (hb5.mono (by rw [HBW.out]; exact Nat.le_refl _))
            have HBS5 : Hid (B < w5.heap.size) := Nat.lt_of_lt_of_le HBS.out (Nat.le_trans HEW.out.size hb5.size)
            clear hB5 hb5
            go_wp2_with fail
            go_roundw
            case rel => exact ⟨p + 1 + 1, acc ++ txt, by omega, by go_num, by first | rfl | trivial, HB5.out, HSTEP.out, HE5.out, HBS5.out⟩
            case measure => simp [intOf]; omega
          · have hpb : (pk != 1) = true := by simp [hp1]
            have hpb2 : (pk == 1) = false := by simp [hp1]
            have HNS : Hid (noSep ts (p + 1) = false) := by unfold Hid noSep; rw [Nat.add_sub_cancel, HPK.out]; simp [hp1]
            clear hp1
            have hE1 : Ext wr (wr.alloc (.cells #[.int .u8 3, .string (bs txt), .bool s, .slice A nn cc, .bool s', .slice A' n' c'] 53)) := Ext.al Ext.rfl' _
            have hC6 := Cell6.new wr (.int .u8 3) (.string (bs txt)) (.bool s) (.slice A nn cc) (.bool s') (.slice A' n' c') 53
            obtain ⟨x0, x1, x2, x3, x4, x5⟩ := HX.out
            have z0 := HPV.out
            have z1 := Ext.cellOf hE1 z0
            have C6W := Lib.hid hC6
            obtain ⟨y0, y1, y2, y3, y4, y5, yl⟩ := hC6
            have HEW := Lib.hid hE1
            clear hE1
            have hps : (bs txt).size ≤ 65536 := by
              have h1 := congrArg List.length HSTEP.out
              have h2 := HL.out
              have e : pieceT ⟨3, txt, num⟩ = txt := by simp [pieceT]
              rw [e] at h1
              simp only [List.length_append] at h1
              rw [bs_size]
              omega
            have hadd : ∀ W : World, (Op.stringOp .add (⟨#[32]⟩ : ByteArray) (bs txt)).run Tryz.prog W = .ok (.string (bs (32 :: txt))) W := fun W => by
              rw [run_string_add_sum _ _ _ (show (⟨#[32]⟩ : ByteArray).size + (bs txt).size ≤ 9223372036854775807 from by have : (⟨#[32]⟩ : ByteArray).size = 1 := rfl; omega)]
              exact congrArg (fun x => Result.ok (Value.string x) W) (bs_append [32] txt)
            go_wp2_with fail
            clear x0 x1 x2 x3 x4 x5 y0 y2 y3 y4 y5 yl z0 z1
            have f1 := fun x : ExtOf (wr.alloc (.cells #[.int .u8 3, .string (bs txt), .bool s, .slice A nn cc, .bool s', .slice A' n' c'] 53)) => x.cell y1
            clear y1
            refine wp_region_ext (by kernel_rfl) (by kernel_rfl) ?_
            repeat (first | (go_big_quiet_step (exact ext_call (letters_any _))) | (go_big_quiet_step (exact ext_call (all_low_any (bs txt) _ HTX.out))))
            refine wpQuiet_nil ?_
            rintro _ ⟨x, rfl⟩
            clear f1
            rw [bs_list, HLOW.out]
            have hx3 := x.h
            have c6 := C6W.out.ext hx3
            have HEW2 := Lib.hid (Ext.trans HEW.out hx3)
            generalize x.w = w3 at *
            clear C6W HEW hx3
            have HEW := HEW2
            clear HEW2
            obtain ⟨y0, y1, y2, y3, y4, y5, yl⟩ := c6
            have z1 := Ext.cellOf HEW.out HPV.out
            go_wp2_with fail
            clear y0 y1 y2 y3 y4 y5 yl z1
            have HPL : Hid (sepT (noSep ts (p + 1)) ⟨3, txt, num⟩ ++ pieceT ⟨3, txt, num⟩ = (32 :: txt)) := by unfold Hid sepT; rw [HNS.out]; simp [pieceT]
            rw [HPL.out] at HSTEP
            have hlen : acc.length + ((32 :: txt) : Bs).length ≤ 65536 := by
              have := congrArg List.length HSTEP.out
              rw [List.length_append, List.length_append] at this
              have := HL.out
              omega
            have HLEN := Lib.hid hlen
            clear hlen
            have HB3 := Lib.hid (HBD.out.ext HEW.out)
            refine (bld_len B B acc w3 HB3.out).mono ?_
            rintro e w' ⟨rfl, rfl⟩
            have hsz : ((bs (32 :: txt)) : ByteArray).size = ((32 :: txt) : Bs).length := bs_size _
            have hcb : decide ((65536 : Int) < (acc.length : Int) + (((bs (32 :: txt))).size : Int)) = false := decide_eq_false (by have h1 := HLEN.out; have h2 := hsz; (try simp only [List.length_cons] at h1); (try simp only [List.length_cons] at h2); omega)
            have hcb2 : decide (65536 < acc.length + (((bs (32 :: txt))).size)) = false := decide_eq_false (by have h1 := HLEN.out; have h2 := hsz; (try simp only [List.length_cons] at h1); (try simp only [List.length_cons] at h2); omega)
            have HSZP := Lib.hid hsz
            clear hsz
            have hal : acc.length ≤ 65536 := by have := HLEN.out; omega
            have hpl2 : ((bs (32 :: txt)) : ByteArray).size ≤ 65536 := by rw [HSZP.out]; have := HLEN.out; omega
            go_wp2_with fail
            clear hcb hcb2
            refine (bld_write B B acc (bs (32 :: txt)) w3 HB3.out (by rw [HSZP.out]; have := HLEN.out; omega) (by have := HEW.out.size; have := HBS.out; omega)).mono ?_
            rintro e w5 ⟨rfl, hB5, hb5⟩
            have HB5 : Hid (Bld w5 B B (acc ++ (32 :: txt))) := by
              have e : ((bs (32 :: txt)) : ByteArray).data.toList = (32 :: txt) := bs_list _
              rw [e] at hB5
              exact hB5
            have HE5 : Hid (Ext w w5) := Below.trans (Ext.trans HE.out HEW.out) (hb5.mono (by rw [HBW.out]; exact Nat.le_refl _))
            have HBS5 : Hid (B < w5.heap.size) := Nat.lt_of_lt_of_le HBS.out (Nat.le_trans HEW.out.size hb5.size)
            clear hB5 hb5
            go_wp2_with fail
            go_roundw
            case rel => exact ⟨p + 1 + 1, acc ++ (32 :: txt), by omega, by go_num, by first | rfl | trivial, HB5.out, HSTEP.out, HE5.out, HBS5.out⟩
            case measure => simp [intOf]; omega
      · have HDEN := Lib.hid hden
        clear hden
        by_cases hk0 : k = 0
        · have hkb0 : decide ((0 : Int) < (k : Int)) = false := by simp; omega
          have hkb1 : decide (0 < k) = false := by simp; omega
          have HNS : Hid (noSep ts k = true) := by unfold Hid noSep; rw [decide_eq_true hk0]; rfl
          have HK0 := Lib.hid hk0
          clear hk0
          have hE1 : Ext wr (wr.alloc (.cells #[.int .u8 4, .string (bs txt), .bool s, .slice A nn cc, .bool s', .slice A' n' c'] 53)) := Ext.al Ext.rfl' _
          have hC6 := Cell6.new wr (.int .u8 4) (.string (bs txt)) (.bool s) (.slice A nn cc) (.bool s') (.slice A' n' c') 53
          obtain ⟨x0, x1, x2, x3, x4, x5⟩ := HX.out
          have C6W := Lib.hid hC6
          obtain ⟨y0, y1, y2, y3, y4, y5, yl⟩ := hC6
          have HEW := Lib.hid hE1
          clear hE1
          go_wp2_with fail
          clear x0 x1 x2 x3 x4 x5 y0 y1 y2 y3 y4 y5 yl
          have hEW := HEW.out
          have c6 := C6W.out
          clear HEW C6W
          generalize (wr.alloc (.cells #[.int .u8 4, .string (bs txt), .bool s, .slice A nn cc, .bool s', .slice A' n' c'] 53)) = w2 at *
          refine (ffmt_any s A nn cc s' A' n' c' num w2 (((HTI.out.ext hEW)).1) HTI.out.2.1 HTI.out.2.2 HDEN.out).mono ?_
          rintro e w3 ⟨rfl, hE3⟩
          have HEW := Lib.hid (Ext.trans hEW hE3)
          have c63 := c6.ext hE3
          clear c6 hEW hE3
          obtain ⟨y0, y1, y2, y3, y4, y5, yl⟩ := c63
          go_wp2_with fail
          clear y0 y1 y2 y3 y4 y5 yl
          have HPL : Hid (sepT (noSep ts k) ⟨4, txt, num⟩ ++ pieceT ⟨4, txt, num⟩ = (fmtZ num.num)) := by unfold Hid sepT; rw [HNS.out]; simp [pieceT]
          rw [HPL.out] at HSTEP
          have hlen : acc.length + ((fmtZ num.num) : Bs).length ≤ 65536 := by
            have := congrArg List.length HSTEP.out
            rw [List.length_append, List.length_append] at this
            have := HL.out
            omega
          have HLEN := Lib.hid hlen
          clear hlen
          have HB3 := Lib.hid (HBD.out.ext HEW.out)
          refine (bld_len B B acc w3 HB3.out).mono ?_
          rintro e w' ⟨rfl, rfl⟩
          have hsz : ((bs (fmtZ num.num)) : ByteArray).size = ((fmtZ num.num) : Bs).length := bs_size _
          have hcb : decide ((65536 : Int) < (acc.length : Int) + (((bs (fmtZ num.num))).size : Int)) = false := decide_eq_false (by have h1 := HLEN.out; have h2 := hsz; (try simp only [List.length_cons, List.length_nil] at h1); (try simp only [List.length_cons, List.length_nil] at h2); omega)
          have hcb2 : decide (65536 < acc.length + (((bs (fmtZ num.num))).size)) = false := decide_eq_false (by have h1 := HLEN.out; have h2 := hsz; (try simp only [List.length_cons, List.length_nil] at h1); (try simp only [List.length_cons, List.length_nil] at h2); omega)
          have HSZP := Lib.hid hsz
          clear hsz
          have hal : acc.length ≤ 65536 := by have := HLEN.out; omega
          have hpl2 : ((bs (fmtZ num.num)) : ByteArray).size ≤ 65536 := by rw [HSZP.out]; have := HLEN.out; omega
          go_wp2_with fail
          clear hcb hcb2
          refine (bld_write B B acc (bs (fmtZ num.num)) w3 HB3.out (by rw [HSZP.out]; have := HLEN.out; omega) (by have := HEW.out.size; have := HBS.out; omega)).mono ?_
          rintro e w5 ⟨rfl, hB5, hb5⟩
          have HB5 : Hid (Bld w5 B B (acc ++ (fmtZ num.num))) := by
            have e : ((bs (fmtZ num.num)) : ByteArray).data.toList = (fmtZ num.num) := bs_list _
            rw [e] at hB5
            exact hB5
          have HE5 : Hid (Ext w w5) := Below.trans (Ext.trans HE.out HEW.out) (hb5.mono (by rw [HBW.out]; exact Nat.le_refl _))
          have HBS5 : Hid (B < w5.heap.size) := Nat.lt_of_lt_of_le HBS.out (Nat.le_trans HEW.out.size hb5.size)
          clear hB5 hb5
          go_wp2_with fail
          go_roundw
          case rel => exact ⟨k + 1, acc ++ (fmtZ num.num), by omega, by go_num, by first | rfl | trivial, HB5.out, HSTEP.out, HE5.out, HBS5.out⟩
          case measure => simp [intOf]; omega
        · obtain ⟨p, rfl⟩ : ∃ p, k = p + 1 := ⟨k - 1, by omega⟩
          clear hk0
          have hkb0 : decide ((0 : Int) < ((p + 1 : Nat) : Int)) = true := decide_eq_true (by omega)
          have hkb1 : decide (0 < p + 1) = true := decide_eq_true (by omega)
          have hkp : ((p + 1 : Nat) : Int) - 1 = (p : Int) := by omega
          have hp0 : (0 : Int) ≤ (p : Int) := by omega
          have hpn : (p : Int) < (n : Int) := by omega
          obtain ⟨_, _, _, _, _, _, _, _, hpk, -, -, -, -, -, -⟩ := HCS.out p (by omega)
          obtain ⟨pk, hpk0⟩ : ∃ v, (ts.getD p tok0).kind = v := ⟨_, rfl⟩
          rw [hpk0] at hpk
          have HPV := Lib.hid hpk
          have HPK := Lib.hid hpk0
          clear hpk hpk0
          by_cases hp1 : pk = 1
          · subst hp1
            have HNS : Hid (noSep ts (p + 1) = true) := by unfold Hid noSep; rw [Nat.add_sub_cancel, HPK.out]; simp
            have hE1 : Ext wr (wr.alloc (.cells #[.int .u8 4, .string (bs txt), .bool s, .slice A nn cc, .bool s', .slice A' n' c'] 53)) := Ext.al Ext.rfl' _
            have hC6 := Cell6.new wr (.int .u8 4) (.string (bs txt)) (.bool s) (.slice A nn cc) (.bool s') (.slice A' n' c') 53
            obtain ⟨x0, x1, x2, x3, x4, x5⟩ := HX.out
            have z0 := HPV.out
            have z1 := Ext.cellOf hE1 z0
            have C6W := Lib.hid hC6
            obtain ⟨y0, y1, y2, y3, y4, y5, yl⟩ := hC6
            have HEW := Lib.hid hE1
            clear hE1
            go_wp2_with fail
            clear x0 x1 x2 x3 x4 x5 y0 y1 y2 y3 y4 y5 yl z0 z1
            have hEW := HEW.out
            have c6 := C6W.out
            clear HEW C6W
            generalize (wr.alloc (.cells #[.int .u8 4, .string (bs txt), .bool s, .slice A nn cc, .bool s', .slice A' n' c'] 53)) = w2 at *
            refine (ffmt_any s A nn cc s' A' n' c' num w2 (((HTI.out.ext hEW)).1) HTI.out.2.1 HTI.out.2.2 HDEN.out).mono ?_
            rintro e w3 ⟨rfl, hE3⟩
            have HEW := Lib.hid (Ext.trans hEW hE3)
            have c63 := c6.ext hE3
            clear c6 hEW hE3
            obtain ⟨y0, y1, y2, y3, y4, y5, yl⟩ := c63
            have z1 := Ext.cellOf HEW.out HPV.out
            go_wp2_with fail
            clear y0 y1 y2 y3 y4 y5 yl z1
            have HPL : Hid (sepT (noSep ts (p + 1)) ⟨4, txt, num⟩ ++ pieceT ⟨4, txt, num⟩ = (fmtZ num.num)) := by unfold Hid sepT; rw [HNS.out]; simp [pieceT]
            rw [HPL.out] at HSTEP
            have hlen : acc.length + ((fmtZ num.num) : Bs).length ≤ 65536 := by
              have := congrArg List.length HSTEP.out
              rw [List.length_append, List.length_append] at this
              have := HL.out
              omega
            have HLEN := Lib.hid hlen
            clear hlen
            have HB3 := Lib.hid (HBD.out.ext HEW.out)
            refine (bld_len B B acc w3 HB3.out).mono ?_
            rintro e w' ⟨rfl, rfl⟩
            have hsz : ((bs (fmtZ num.num)) : ByteArray).size = ((fmtZ num.num) : Bs).length := bs_size _
            have hcb : decide ((65536 : Int) < (acc.length : Int) + (((bs (fmtZ num.num))).size : Int)) = false := decide_eq_false (by have h1 := HLEN.out; have h2 := hsz; (try simp only [List.length_cons, List.length_nil] at h1); (try simp only [List.length_cons, List.length_nil] at h2); omega)
            have hcb2 : decide (65536 < acc.length + (((bs (fmtZ num.num))).size)) = false := decide_eq_false (by have h1 := HLEN.out; have h2 := hsz; (try simp only [List.length_cons, List.length_nil] at h1); (try simp only [List.length_cons, List.length_nil] at h2); omega)
            have HSZP := Lib.hid hsz
            clear hsz
            have hal : acc.length ≤ 65536 := by have := HLEN.out; omega
            have hpl2 : ((bs (fmtZ num.num)) : ByteArray).size ≤ 65536 := by rw [HSZP.out]; have := HLEN.out; omega
            go_wp2_with fail
            clear hcb hcb2
            refine (bld_write B B acc (bs (fmtZ num.num)) w3 HB3.out (by rw [HSZP.out]; have := HLEN.out; omega) (by have := HEW.out.size; have := HBS.out; omega)).mono ?_
            rintro e w5 ⟨rfl, hB5, hb5⟩
            have HB5 : Hid (Bld w5 B B (acc ++ (fmtZ num.num))) := by
              have e : ((bs (fmtZ num.num)) : ByteArray).data.toList = (fmtZ num.num) := bs_list _
              rw [e] at hB5
              exact hB5
            have HE5 : Hid (Ext w w5) := Below.trans (Ext.trans HE.out HEW.out) (hb5.mono (by rw [HBW.out]; exact Nat.le_refl _))
            have HBS5 : Hid (B < w5.heap.size) := Nat.lt_of_lt_of_le HBS.out (Nat.le_trans HEW.out.size hb5.size)
            clear hB5 hb5
            go_wp2_with fail
            go_roundw
            case rel => exact ⟨p + 1 + 1, acc ++ (fmtZ num.num), by omega, by go_num, by first | rfl | trivial, HB5.out, HSTEP.out, HE5.out, HBS5.out⟩
            case measure => simp [intOf]; omega
          · have hpb : (pk != 1) = true := by simp [hp1]
            have hpb2 : (pk == 1) = false := by simp [hp1]
            have HNS : Hid (noSep ts (p + 1) = false) := by unfold Hid noSep; rw [Nat.add_sub_cancel, HPK.out]; simp [hp1]
            clear hp1
            have hE1 : Ext wr (wr.alloc (.cells #[.int .u8 4, .string (bs txt), .bool s, .slice A nn cc, .bool s', .slice A' n' c'] 53)) := Ext.al Ext.rfl' _
            have hC6 := Cell6.new wr (.int .u8 4) (.string (bs txt)) (.bool s) (.slice A nn cc) (.bool s') (.slice A' n' c') 53
            obtain ⟨x0, x1, x2, x3, x4, x5⟩ := HX.out
            have z0 := HPV.out
            have z1 := Ext.cellOf hE1 z0
            have C6W := Lib.hid hC6
            obtain ⟨y0, y1, y2, y3, y4, y5, yl⟩ := hC6
            have HEW := Lib.hid hE1
            clear hE1
            have hps : (bs (fmtZ num.num)).size ≤ 65536 := by
              have h1 := congrArg List.length HSTEP.out
              have h2 := HL.out
              have e : pieceT ⟨4, txt, num⟩ = (fmtZ num.num) := by simp [pieceT]
              rw [e] at h1
              simp only [List.length_append] at h1
              rw [bs_size]
              omega
            have hadd : ∀ W : World, (Op.stringOp .add (⟨#[32]⟩ : ByteArray) (bs (fmtZ num.num))).run Tryz.prog W = .ok (.string (bs (32 :: (fmtZ num.num)))) W := fun W => by
              rw [run_string_add_sum _ _ _ (show (⟨#[32]⟩ : ByteArray).size + (bs (fmtZ num.num)).size ≤ 9223372036854775807 from by have : (⟨#[32]⟩ : ByteArray).size = 1 := rfl; omega)]
              exact congrArg (fun x => Result.ok (Value.string x) W) (bs_append [32] (fmtZ num.num))
            go_wp2_with fail
            clear x0 x1 x2 x3 x4 x5 y0 y1 y2 y3 y4 y5 yl z0 z1
            have hEW := HEW.out
            have c6 := C6W.out
            clear HEW C6W
            generalize (wr.alloc (.cells #[.int .u8 4, .string (bs txt), .bool s, .slice A nn cc, .bool s', .slice A' n' c'] 53)) = w2 at *
            refine (ffmt_any s A nn cc s' A' n' c' num w2 (((HTI.out.ext hEW)).1) HTI.out.2.1 HTI.out.2.2 HDEN.out).mono ?_
            rintro e w3 ⟨rfl, hE3⟩
            have HEW := Lib.hid (Ext.trans hEW hE3)
            have c63 := c6.ext hE3
            clear c6 hEW hE3
            obtain ⟨y0, y1, y2, y3, y4, y5, yl⟩ := c63
            have z1 := Ext.cellOf HEW.out HPV.out
            go_wp2_with fail
            clear y0 y1 y2 y3 y4 y5 yl z1
            have HPL : Hid (sepT (noSep ts (p + 1)) ⟨4, txt, num⟩ ++ pieceT ⟨4, txt, num⟩ = (32 :: fmtZ num.num)) := by unfold Hid sepT; rw [HNS.out]; simp [pieceT]
            rw [HPL.out] at HSTEP
            have hlen : acc.length + ((32 :: fmtZ num.num) : Bs).length ≤ 65536 := by
              have := congrArg List.length HSTEP.out
              rw [List.length_append, List.length_append] at this
              have := HL.out
              omega
            have HLEN := Lib.hid hlen
            clear hlen
            have HB3 := Lib.hid (HBD.out.ext HEW.out)
            refine (bld_len B B acc w3 HB3.out).mono ?_
            rintro e w' ⟨rfl, rfl⟩
            have hsz : ((bs (32 :: fmtZ num.num)) : ByteArray).size = ((32 :: fmtZ num.num) : Bs).length := bs_size _
            have hcb : decide ((65536 : Int) < (acc.length : Int) + (((bs (32 :: fmtZ num.num))).size : Int)) = false := decide_eq_false (by have h1 := HLEN.out; have h2 := hsz; (try simp only [List.length_cons] at h1); (try simp only [List.length_cons] at h2); omega)
            have hcb2 : decide (65536 < acc.length + (((bs (32 :: fmtZ num.num))).size)) = false := decide_eq_false (by have h1 := HLEN.out; have h2 := hsz; (try simp only [List.length_cons] at h1); (try simp only [List.length_cons] at h2); omega)
            have HSZP := Lib.hid hsz
            clear hsz
            have hal : acc.length ≤ 65536 := by have := HLEN.out; omega
            have hpl2 : ((bs (32 :: fmtZ num.num)) : ByteArray).size ≤ 65536 := by rw [HSZP.out]; have := HLEN.out; omega
            go_wp2_with fail
            clear hcb hcb2
            refine (bld_write B B acc (bs (32 :: fmtZ num.num)) w3 HB3.out (by rw [HSZP.out]; have := HLEN.out; omega) (by have := HEW.out.size; have := HBS.out; omega)).mono ?_
            rintro e w5 ⟨rfl, hB5, hb5⟩
            have HB5 : Hid (Bld w5 B B (acc ++ (32 :: fmtZ num.num))) := by
              have e : ((bs (32 :: fmtZ num.num)) : ByteArray).data.toList = (32 :: fmtZ num.num) := bs_list _
              rw [e] at hB5
              exact hB5
            have HE5 : Hid (Ext w w5) := Below.trans (Ext.trans HE.out HEW.out) (hb5.mono (by rw [HBW.out]; exact Nat.le_refl _))
            have HBS5 : Hid (B < w5.heap.size) := Nat.lt_of_lt_of_le HBS.out (Nat.le_trans HEW.out.size hb5.size)
            clear hB5 hb5
            go_wp2_with fail
            go_roundw
            case rel => exact ⟨p + 1 + 1, acc ++ (32 :: fmtZ num.num), by omega, by go_num, by first | rfl | trivial, HB5.out, HSTEP.out, HE5.out, HBS5.out⟩
            case measure => simp [intOf]; omega
    · obtain rfl : k = n := by omega
      have hbv : decide ((k : Int) < (k : Int)) = false := by simp
      have hbv2 : decide (k < k) = false := by simp
      have HAC : Hid (acc = fmtT ts) := by
        have := HACC.out
        rw [List.drop_of_length_le (by rw [HLN.out]; exact Nat.le_refl _)] at this
        simpa [spaced, spell, Hid] using this
      have hne2 : acc ≠ [] := by rw [HAC.out]; exact HNE.out
      have HN2 := Lib.hid hne2
      clear hne2
      go_wp2_with fail
      refine (bld_string B B acc wr HBD.out HN2.out).mono ?_
      rintro e w9 ⟨rfl, hb9⟩
      have HE9 : Hid (Ext w w9) := Below.trans HE.out (hb9.mono (by rw [HBW.out]; exact Nat.le_refl _))
      clear hb9
      go_wp2_with fail
      go_ret2
      exact ⟨by rw [HAC.out]; rfl, HE9.out⟩
end Go.Proofs.YtnofbjcikfofgaaGreat
