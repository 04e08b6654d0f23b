/- Rows of tokens that the call owns; the contract of nettext.group. Printed by gen_txy.py. -/
import Derived.Test.YtnofbjcikfofgaaGreatTxGH
import Derived.Test.YtnofbjcikfofgaaGreatTxX
namespace Go.Proofs.YtnofbjcikfofgaaGreat
open Go.RowKit
/-- The words of a number lie in blocks from B on, outside the row. -/
def WAway (w : World) (B : Nat) (row : Option Nat) (A : Option Addr) (n : Nat) : Prop := 0 < n → ∀ ad, A = some ad → B ≤ ad.block ∧ ad.block < w.heap.size ∧ row ≠ some ad.block
/-- The six cells of a token in a row. -/
def TokC (w : World) (B : Nat) (row : Option Nat) (t : Tok) (ch : List Value) : Prop := ∃ s A n c s' A' n' c', ch = [.int .u8 t.kind, .string (bs t.text), .bool s, .slice A n c, .bool s', .slice A' n' c'] ∧ TokL w t s A n c s' A' n' c' ∧ WAway w B row A n ∧ WAway w B row A' n'
def TokCs (w : World) (B : Nat) (row : Option Nat) : List Tok → List Value → Prop
  | [], cs => cs = []
  | t :: ts, cs => ∃ ch r, cs = ch ++ r ∧ TokC w B row t ch ∧ TokCs w B row ts r
theorem TokC.len {w : World} {B : Nat} {row : Option Nat} {t : Tok} {ch : List Value} (h : TokC w B row t ch) : ch.length = 6 := by
  obtain ⟨s, A, n, c, s', A', n', c', rfl, _⟩ := h
  rfl
theorem TokC.one {w : World} {B : Nat} {row : Option Nat} {t : Tok} {ch : List Value} (h : TokC w B row t ch) : ∀ u ∈ ch, u.oneCell' = true := by
  obtain ⟨s, A, n, c, s', A', n', c', rfl, _⟩ := h
  simp [Value.oneCell']
theorem TokCs.len {w : World} {B : Nat} {row : Option Nat} : ∀ {ts : List Tok} {cs : List Value}, TokCs w B row ts cs → cs.length = ts.length * 6
  | [], _, h => by rw [show _ = [] from h]; rfl
  | t :: ts, _, ⟨ch, r, e, h1, h2⟩ => by rw [e, List.length_append, h1.len, TokCs.len h2, List.length_cons]; omega
theorem TokCs.one {w : World} {B : Nat} {row : Option Nat} : ∀ {ts : List Tok} {cs : List Value}, TokCs w B row ts cs → ∀ u ∈ cs, u.oneCell' = true
  | [], _, h => by rw [show _ = [] from h]; intro u hu; cases hu
  | t :: ts, _, ⟨ch, r, e, h1, h2⟩ => by
    rw [e]
    intro u hu
    rcases List.mem_append.1 hu with h | h
    · exact h1.one u h
    · exact TokCs.one h2 u h
theorem TokCs.append {w : World} {B : Nat} {row : Option Nat} : ∀ {ts us : List Tok} {cs ds : List Value}, TokCs w B row ts cs → TokCs w B row us ds → TokCs w B row (ts ++ us) (cs ++ ds)
  | [], _, _, _, h, k => by rw [show _ = [] from h]; exact k
  | t :: ts, us, _, ds, ⟨ch, r, e, h1, h2⟩, k => ⟨ch, r ++ ds, by rw [e, List.append_assoc], h1, TokCs.append h2 k⟩
theorem WAway.mono {w w' : World} {B B' : Nat} {row row' : Option Nat} {A : Option Addr} {n : Nat} (h : WAway w B row A n) (hs : w.heap.size ≤ w'.heap.size) (hB : B' ≤ B) (hr : ∀ b, B ≤ b → b < w.heap.size → row ≠ some b → row' ≠ some b) : WAway w' B' row' A n := fun hn ad e => by
  obtain ⟨h1, h2, h3⟩ := h hn ad e
  exact ⟨by omega, by omega, hr _ h1 h2 h3⟩
theorem ZLite.grown {w w' : World} {B : Nat} {row : Option Nat} {s : Bool} {A : Option Addr} {n c : Nat} {z : Int} (h : ZLite w s A n c z) (hg : w.grownBy w' row) (ha : WAway w B row A n) : ZLite w' s A n c z := by
  refine ⟨h.1, ⟨h.2.1.1, h.2.1.2.1, fun hn => ?_⟩, h.2.2⟩
  obtain ⟨b, off, e, hl, hc⟩ := h.2.1.2.2 hn
  refine ⟨b, off, e, Nat.lt_of_lt_of_le hl hg.size, fun i hi => ?_⟩
  rw [← hc i hi]
  exact World.cell?_of_block (hg.block b hl (fun e2 => (ha hn _ e).2.2 e2.symm))
theorem TokC.grown {w w' : World} {B B' : Nat} {row row' : Option Nat} {t : Tok} {ch : List Value} (h : TokC w B row t ch) (hg : w.grownBy w' row) (hB : B' ≤ B) (hr : ∀ b, B ≤ b → b < w.heap.size → row ≠ some b → row' ≠ some b) : TokC w' B' row' t ch := by
  obtain ⟨s, A, n, c, s', A', n', c', e, ⟨⟨h1, h2⟩, h3⟩, h4, h5⟩ := h
  exact ⟨s, A, n, c, s', A', n', c', e, ⟨⟨h1.grown hg h4, h2.grown hg h5⟩, h3⟩, h4.mono hg.size hB hr, h5.mono hg.size hB hr⟩
theorem TokCs.grown {w w' : World} {B B' : Nat} {row row' : Option Nat} (hg : w.grownBy w' row) (hB : B' ≤ B) (hr : ∀ b, B ≤ b → b < w.heap.size → row ≠ some b → row' ≠ some b) : ∀ {ts : List Tok} {cs : List Value}, TokCs w B row ts cs → TokCs w' B' row' ts cs
  | [], _, h => h
  | _t :: _ts, _, ⟨ch, r, e, h1, h2⟩ => ⟨ch, r, e, h1.grown hg hB hr, TokCs.grown hg hB hr h2⟩
theorem grown_ext {w w' : World} (h : Ext w w') (row : Option Nat) : w.grownBy w' row := ⟨h.os, h.tape, h.output, h.size, fun k hk _ => h.block k hk⟩
theorem TokCs.turn {w w' : World} {B B' : Nat} {row row' : Option Nat} (hE : Ext w w') (hB : B' ≤ B) (hr : ∀ b, B ≤ b → b < w.heap.size → row ≠ some b → row' ≠ some b) {ts : List Tok} {cs : List Value} (h : TokCs w B row ts cs) : TokCs w' B' row' ts cs := TokCs.grown (grown_ext hE row) hB hr h
/-- A row of tokens that the call owns. -/
def RowT (w : World) (B : Nat) (v : Value) (ts : List Tok) : Prop := ∃ cs, w.ownsRow B 53 6 v ts.length cs ∧ TokCs w B v.ownBlock ts cs
theorem RowT.ext {w w' : World} {B : Nat} {v : Value} {ts : List Tok} (h : RowT w B v ts) (hE : Ext w w') : RowT w' B v ts := by
  obtain ⟨cs, h1, h2⟩ := h
  exact ⟨cs, own_keep h1 (fun g hg => hE.block g (own_lt h1 hg).1), TokCs.turn hE (Nat.le_refl _) (fun _ _ _ h => h) h2⟩
/-- Behind append. -/
theorem RowT.grow {w w' : World} {B g cap : Nat} {v : Value} {ts us : List Tok} {cs news : List Value} (h2 : TokCs w B v.ownBlock ts cs) (h3 : TokCs w B v.ownBlock us news)
    (hown : w'.ownsRow B 53 6 (.slice (some ⟨g, 0, none⟩) (ts.length + us.length) cap) (ts.length + us.length) (cs ++ news)) (hg : w.grownBy w' v.ownBlock) (hor : v.ownBlock = some g ∨ g = w.heap.size) : RowT w' B (.slice (some ⟨g, 0, none⟩) (ts.length + us.length) cap) (ts ++ us) := by
  refine ⟨cs ++ news, by rw [List.length_append]; exact hown, TokCs.grown hg (Nat.le_refl _) (fun b _ hb hn => ?_) (TokCs.append h2 h3)⟩
  show some g ≠ some b
  rcases hor with h | h
  · rw [← h]; exact hn
  · intro e; injection e with e; omega
theorem tokc_plain (w : World) (B : Nat) (row : Option Nat) (k : Int) (l : Bs) : TokC w B row ⟨k, l, 0⟩ [.int .u8 k, .string (bs l), .bool false, .slice none 0 0, .bool false, .slice none 0 0] :=
  ⟨false, none, 0, 0, false, none, 0, 0, rfl, (tok_zero w 0 k l).lite, fun h => absurd h (by omega), fun h => absurd h (by omega)⟩
theorem toks_get {w : World} {B : Nat} {row : Option Nat} : ∀ {ts : List Tok} {cs : List Value}, TokCs w B row ts cs → ∀ i, i < ts.length → ∃ ch, TokC w B row (ts.getD i tok0) ch ∧ ∀ j, j < 6 → cs[i * 6 + j]? = ch[j]?
  | [], _, _, i, hi => by simp at hi
  | t :: ts, _, ⟨ch, r, e, h1, h2⟩, 0, _ => ⟨ch, h1, fun j hj => by rw [e, Nat.zero_mul, Nat.zero_add, List.getElem?_append_left (by rw [h1.len]; exact hj)]⟩
  | t :: ts, _, ⟨ch, r, e, h1, h2⟩, i + 1, hi => by
    obtain ⟨ch2, h3, h4⟩ := toks_get h2 i (by simpa using hi)
    refine ⟨ch2, by simpa using h3, fun j hj => ?_⟩
    rw [e, List.getElem?_append_right (by rw [h1.len]; omega), h1.len, ← h4 j hj]
    congr 1
    omega
theorem RowT.toks {w : World} {B : Nat} {v : Value} {ts : List Tok} (h : RowT w B v ts) : ∃ A c, v = .slice A ts.length c ∧ ToksAt w A ts.length ts := by
  obtain ⟨cs, h1, h2⟩ := h
  rcases h1.2 with ⟨rfl, h0⟩ | ⟨g, cap, cur, rfl, hg, hb, _⟩
  · rw [h0]
    exact ⟨none, 0, rfl, h0, fun h => absurd h (by omega)⟩
  · refine ⟨_, cap, rfl, rfl, fun _ => ⟨g, 0, rfl, (Array.getElem?_eq_some_iff.1 hb).1, fun i hi => ?_⟩⟩
    obtain ⟨ch, ⟨s, A, n, c, s', A', n', c', rfl, hL, _⟩, hc⟩ := toks_get h2 i hi
    have hcell := fun j (hj : j < 6) u (hu : ([.int .u8 (ts.getD i tok0).kind, .string (bs (ts.getD i tok0).text), .bool s, .slice A n c, .bool s', .slice A' n' c'] : List Value)[j]? = some u) => h1.cells (g := g) rfl (i * 6 + j) u (by rw [hc j hj]; exact hu)
    have hadd : ∀ x, (⟨g, 0, none⟩ : Addr).add x = ⟨g, x, none⟩ := fun x => by by_cases h : x = 0 <;> simp [Addr.add, h]
    have a0 := hcell 0 (by omega) _ rfl
    have a1 := hcell 1 (by omega) _ rfl
    have a2 := hcell 2 (by omega) _ rfl
    have a3 := hcell 3 (by omega) _ rfl
    have a4 := hcell 4 (by omega) _ rfl
    have a5 := hcell 5 (by omega) _ rfl
    rw [hadd] at a0 a1 a2 a3 a4 a5
    simp only [Nat.zero_add]
    exact ⟨s, A, n, c, s', A', n', c', a0, a1, a2, a3, a4, a5, hL⟩
/-- A slice of integers. -/
def IntsAt (w : World) (P : Option Addr) (n : Nat) (zs : List Int) : Prop := zs.length = n ∧ (0 < n → ∃ b off, P = some ⟨b, off, none⟩ ∧ b < w.heap.size ∧ ∀ i, i < n → w.cell? ⟨b, off + i, none⟩ = some (.int .i64 (zs.getD i 0)))
theorem IntsAt.ext {w w' : World} {P : Option Addr} {n : Nat} {zs : List Int} (h : IntsAt w P n zs) (hb : Ext w w') : IntsAt w' P n zs := by
  refine ⟨h.1, fun hn => ?_⟩
  obtain ⟨b, off, e, hl, hc⟩ := h.2 hn
  exact ⟨b, off, e, Nat.lt_of_lt_of_le hl hb.size, fun i hi => Ext.cellOf hb (hc i hi)⟩
theorem info_tok : (Tryz.prog.info? 53).map (fun i => (i.zero, i.size, i.bytes)) = some (some (.agg #[.int .u8 0, .string ⟨#[]⟩, .bool false, .slice none 0 0, .bool false, .slice none 0 0]), 6, 88) := by kernel_rfl
def numT (z : Int) : Tok := tokN (z : Rat)
set_option maxRecDepth 100000 in
set_option maxHeartbeats 8000000 in
theorem group_any (W : ByteArray) (P : Option Addr) (n c : Nat) (zs : List Int) (w : World) (h : IntsAt w P n zs) (hz : ∀ i, i < n → I64r (zs.getD i 0)) (hn : n ≤ 1000) :
    Calls Tryz.prog 19 #[.string W, .slice P n c] w fun e w' => (∃ v, e = .returned v ∧ RowT w' w.heap.size v (tokO :: tokW W.data.toList :: zs.map numT)) ∧ Ext w w' := by
  obtain ⟨i0, hi, hz0, hz1, hz2⟩ := info_parts info_tok
  have H := Lib.hid h
  have HLN := Lib.hid h.1
  have HZ := Lib.hid hz
  clear h hz
  go_enter Tryz.func19, Tryz.ntmps19
  go_wp2_with fail
  have HO : Hid ((w.alloc (.cells #[.int .u8 1, .string ⟨#[]⟩, .bool false, .slice none 0 0, .bool false, .slice none 0 0, .int .u8 3, .string W, .bool false, .slice none 0 0, .bool false, .slice none 0 0] 53)).ownsRow w.heap.size 53 6 (.slice (some ⟨w.heap.size, 0, none⟩) 2 2) 2 [.int .u8 1, .string ⟨#[]⟩, .bool false, .slice none 0 0, .bool false, .slice none 0 0, .int .u8 3, .string W, .bool false, .slice none 0 0, .bool false, .slice none 0 0]) := World.ownsRow_lit (base := w.heap.size) (e := 53) (size := 6) w #[.int .u8 1, .string ⟨#[]⟩, .bool false, .slice none 0 0, .bool false, .slice none 0 0, .int .u8 3, .string W, .bool false, .slice none 0 0, .bool false, .slice none 0 0] 2 (Nat.le_refl _) (by unfold maxLen; omega) rfl
  have HT : Hid (TokCs (w.alloc (.cells #[.int .u8 1, .string ⟨#[]⟩, .bool false, .slice none 0 0, .bool false, .slice none 0 0, .int .u8 3, .string W, .bool false, .slice none 0 0, .bool false, .slice none 0 0] 53)) w.heap.size (some w.heap.size) [tokO, tokW W.data.toList] [.int .u8 1, .string ⟨#[]⟩, .bool false, .slice none 0 0, .bool false, .slice none 0 0, .int .u8 3, .string W, .bool false, .slice none 0 0, .bool false, .slice none 0 0]) := by
    refine ⟨[.int .u8 1, .string ⟨#[]⟩, .bool false, .slice none 0 0, .bool false, .slice none 0 0], [.int .u8 3, .string W, .bool false, .slice none 0 0, .bool false, .slice none 0 0], rfl, tokc_plain _ _ _ 1 [], [.int .u8 3, .string W, .bool false, .slice none 0 0, .bool false, .slice none 0 0], [], rfl, ?_, rfl⟩
    have := tokc_plain (w.alloc (.cells #[.int .u8 1, .string ⟨#[]⟩, .bool false, .slice none 0 0, .bool false, .slice none 0 0, .int .u8 3, .string W, .bool false, .slice none 0 0, .bool false, .slice none 0 0] 53)) w.heap.size (some w.heap.size) 3 W.data.toList
    rw [bs_self] at this
    exact this
  have HE0 : Hid (Ext w (w.alloc (.cells #[.int .u8 1, .string ⟨#[]⟩, .bool false, .slice none 0 0, .bool false, .slice none 0 0, .int .u8 3, .string W, .bool false, .slice none 0 0, .bool false, .slice none 0 0] 53))) := Ext.al Ext.rfl' _
  have HS0 : Hid (w.heap.size < (w.alloc (.cells #[.int .u8 1, .string ⟨#[]⟩, .bool false, .slice none 0 0, .bool false, .slice none 0 0, .int .u8 3, .string W, .bool false, .slice none 0 0, .bool false, .slice none 0 0] 53)).heap.size) := by unfold Hid; simp
  generalize (w.alloc (.cells #[.int .u8 1, .string ⟨#[]⟩, .bool false, .slice none 0 0, .bool false, .slice none 0 0, .int .u8 3, .string W, .bool false, .slice none 0 0, .bool false, .slice none 0 0] 53)) = w0 at *
  obtain ⟨B, hB⟩ : ∃ B, w.heap.size = B := ⟨_, rfl⟩
  rw [hB] at HO HT HS0 ⊢
  have HBW := Lib.hid hB
  clear hB
  go_loopw [5, 14] (fun v i wr => ∃ (k cap g : Nat) (cs : List Value), k ≤ n ∧ i = .int .i64 (k : Int) ∧ v = .slice (some ⟨g, 0, none⟩) (k + 2) cap ∧ Hid (wr.ownsRow B 53 6 (.slice (some ⟨g, 0, none⟩) (k + 2) cap) (k + 2) cs) ∧ Hid (TokCs wr B (some g) (tokO :: tokW W.data.toList :: (zs.take k).map numT) cs) ∧ Hid (Ext w wr) ∧ Hid (B < wr.heap.size)) (fun _ i _ => n - (intOf i).toNat)
  case atStart => exact ⟨0, 2, B, _, by omega, rfl, rfl, HO, HT, HE0, HS0⟩
  case round =>
    obtain ⟨k, cap, g, cs, hk, rfl, rfl, HOR, HTR, HE, HBS⟩ := hrel
    by_cases hlt : k < n
    · have hbv : decide ((k : Int) < (n : Int)) = true := by simp; omega
      have hbv2 : decide (k < n) = true := by simp; omega
      have hz0' : (0 : Int) ≤ (k : Int) := by omega
      have hzn : (k : Int) < (n : Int) := by omega
      obtain ⟨b, off, rfl, hblt, hcs⟩ := (H.out.ext HE.out).2 (by omega)
      have hc := hcs k hlt
      have hzr := HZ.out k hlt
      have htk : tokO :: tokW W.data.toList :: (zs.take (k + 1)).map numT = (tokO :: tokW W.data.toList :: (zs.take k).map numT) ++ [numT (zs.getD k 0)] := by
        have hkl : k < zs.length := by rw [HLN.out]; exact hlt
        rw [List.take_succ_eq_append_getElem hkl, List.map_append]
        simp [List.getD, List.getElem?_eq_getElem hkl]
      obtain ⟨z, hz⟩ : ∃ z, zs.getD k 0 = z := ⟨_, rfl⟩
      rw [hz] at hc hzr htk
      have HTK := Lib.hid htk
      have HZK := Lib.hid hzr
      clear hz hcs htk hzr
      go_wp2_with fail
      refine (qfrom_any z wr HZK.out).mono ?_
      rintro e w1 ⟨s, A, nn, cc, s', A', n', c', rfl, hq, hE⟩
      clear hc
      have hn1 : nn ≤ 1000 := Nat.le_trans (i64_words (show I64r ((z : Rat).num) from by rw [Rat.num_intCast]; exact HZK.out) hq.1) (by omega)
      have hn2 : n' ≤ 1000 := Nat.le_trans (i64_words (show I64r (denOf (z : Rat)) from by simp [denOf, I64r]) hq.2) (by omega)
      have hE2 : Ext w1 (w1.alloc (.cells #[.int .u8 4, .string ⟨#[]⟩, .bool s, .slice A nn cc, .bool s', .slice A' n' c'] 53)) := Ext.al Ext.rfl' _
      have hgl := (own_lt HOR.out (g := g) rfl).1
      have hTC : TokC (w1.alloc (.cells #[.int .u8 4, .string ⟨#[]⟩, .bool s, .slice A nn cc, .bool s', .slice A' n' c'] 53)) B (some g) (numT z) [.int .u8 4, .string ⟨#[]⟩, .bool s, .slice A nn cc, .bool s', .slice A' n' c'] := by
        refine ⟨s, A, nn, cc, s', A', n', c', rfl, ⟨⟨hq.1.lite.ext hE2, hq.2.lite.ext hE2⟩, hn1, hn2⟩, ?_, ?_⟩
        · intro _ ad e
          obtain ⟨b2, o2, e2, h1, h2, _⟩ := hq.1.2.2.2.2 ad e
          have := hE2.size
          have := HBS.out
          rw [e2]
          exact ⟨by show B ≤ b2; omega, by show b2 < _; omega, by intro e3; injection e3 with e3; show False; simp at e3; omega⟩
        · intro _ ad e
          obtain ⟨b2, o2, e2, h1, h2, _⟩ := hq.2.2.2.2.2 ad e
          have := hE2.size
          have := HBS.out
          rw [e2]
          exact ⟨by show B ≤ b2; omega, by show b2 < _; omega, by intro e3; injection e3 with e3; show False; simp at e3; omega⟩
      have HTC := Lib.hid hTC
      have hEW : Ext wr (w1.alloc (.cells #[.int .u8 4, .string ⟨#[]⟩, .bool s, .slice A nn cc, .bool s', .slice A' n' c'] 53)) := Ext.trans hE hE2
      have HO2 : Hid ((w1.alloc (.cells #[.int .u8 4, .string ⟨#[]⟩, .bool s, .slice A nn cc, .bool s', .slice A' n' c'] 53)).ownsRow B 53 6 (.slice (some ⟨g, 0, none⟩) (k + 2) cap) (k + 2) cs) := own_keep HOR.out (fun g2 hg => hEW.block g2 (own_lt HOR.out hg).1)
      have HT2 := Lib.hid (HTR.out.turn hEW (Nat.le_refl B) (fun _ _ _ h => h))
      have HE2 := Lib.hid (Ext.trans HE.out hEW)
      have HNW := Lib.hid (World.news_of_block (cs := #[.int .u8 4, .string ⟨#[]⟩, .bool s, .slice A nn cc, .bool s', .slice A' n' c']) (t := 53) (fr := (0, 0)) (heap_alloc_new w1 (.cells #[.int .u8 4, .string ⟨#[]⟩, .bool s, .slice A nn cc, .bool s', .slice A' n' c'] 53)))
      have HS2 : Hid (B < (w1.alloc (.cells #[.int .u8 4, .string ⟨#[]⟩, .bool s, .slice A nn cc, .bool s', .slice A' n' c'] 53)).heap.size) := Nat.lt_of_lt_of_le HBS.out hEW.size
      clear hTC hEW hE hE2 hq HOR HTR hgl hn1 hn2
      go_wp2_with (
        at_builtin
        (
        refine wpList_append_atW _ rfl (.tmp 18) (.tmp 22) 43 rfl B 53 i0 _ 6 88 Tryz.underlying43 hi hz0 hz1 hz2 rfl (by omega) (.slice (some ⟨g, 0, none⟩) (k + 2) cap) (k + 2) cs rfl HO2.out ⟨w1.heap.size, 0, none⟩ 1 1 [.int .u8 4, .string ⟨#[]⟩, .bool s, .slice A nn cc, .bool s', .slice A' n' c'] rfl rfl HNW.out (by simp [Value.oneCell']) (.inr (by omega)) (by unfold maxLen; omega) (by omega) (Nat.le_of_lt HS2.out) ?_
        intro g3 cap3 w3 hown hgr hat
        have HO3 := Lib.hid hown
        have HT3 : Hid (TokCs w3 B (some g3) (tokO :: tokW W.data.toList :: (zs.take (k + 1)).map numT) (cs ++ [.int .u8 4, .string ⟨#[]⟩, .bool s, .slice A nn cc, .bool s', .slice A' n' c'])) := by
          unfold Hid
          rw [HTK.out]
          refine TokCs.grown hgr (Nat.le_refl _) (fun b2 _ hb hn => ?_) (TokCs.append HT2.out ⟨_, [], rfl, HTC.out, rfl⟩)
          rcases hat with h | h
          · rw [← h]; exact hn
          · intro e; injection e with e; omega
        have HE3 : Hid (Ext w w3) := ext_grownW HE2.out hgr (fun x e => by
          have := (own_lt HO2.out (g := x) e).2
          have := HBW.out
          omega)
        have HS3 : Hid (B < w3.heap.size) := Nat.lt_of_lt_of_le HS2.out hgr.size
        clear hown hgr hat))
      go_roundw
      case rel => exact ⟨k + 1, cap3, g3, _, by omega, by go_num, by first | rfl | trivial, HO3.out, HT3.out, HE3.out, HS3.out⟩
      case measure => simp [intOf]; omega
    · obtain rfl : k = n := by omega
      have hbv : decide ((k : Int) < (k : Int)) = false := by simp
      have hbv2 : decide (k < k) = false := by simp
      go_wp2_with fail
      go_ret
      refine ⟨⟨_, rfl, ?_⟩, HE.out⟩
      rw [HBW.out]
      refine ⟨cs, ?_, ?_⟩
      · rw [show (tokO :: tokW W.data.toList :: zs.map numT).length = k + 2 by simp [HLN.out]]
        exact HOR.out
      · have := HTR.out
        rw [List.take_of_length_le (by rw [HLN.out]; exact Nat.le_refl _)] at this
        exact this

end Go.Proofs.YtnofbjcikfofgaaGreat
