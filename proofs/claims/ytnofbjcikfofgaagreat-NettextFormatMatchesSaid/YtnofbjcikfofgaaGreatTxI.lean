/- The contract of nettext.ParseNet. Printed by gen_txi.py. -/
import Derived.Test.YtnofbjcikfofgaaGreatTxJ
namespace Go.Proofs.YtnofbjcikfofgaaGreat
open Go.RowKit
/-- The parser in block g, read off the world. -/
def psOf (w : World) (g : Nat) : PS := match w.cell? ⟨g, 1, none⟩, w.cell? ⟨g, 2, none⟩ with
  | some (.int _ k), some (.int _ e) => ⟨k, e⟩
  | _, _ => ⟨0, 1⟩
theorem PAt.of {w : World} {g : Nat} {s : ByteArray} {p : PS} (h : PAt w g s p) : psOf w g = p := by
  unfold psOf
  rw [h.cells.1.2.1, h.cells.1.2.2]
def lnCell (z : List Int) : List Value := [.int .i64 (z.getD 0 0), .int .i64 (z.getD 1 0), .int .i64 (z.getD 2 0), .int .i64 (z.getD 3 0)]
def lnCells (ls : List (List Int)) : List Value := ls.flatMap lnCell
theorem lnCells_get : ∀ (ls : List (List Int)) (i j : Nat), i < ls.length → j < 4 → (lnCells ls)[i * 4 + j]? = some (.int .i64 ((ls.getD i []).getD j 0))
  | [], i, j, h, _ => by simp at h
  | z :: ls, 0, j, _, hj => by
    simp only [lnCells, List.flatMap_cons, lnCell, Nat.zero_mul, Nat.zero_add]
    match j, hj with
    | 0, _ => rfl
    | 1, _ => rfl
    | 2, _ => rfl
    | 3, _ => rfl
  | z :: ls, i + 1, j, h, hj => by
    have := lnCells_get ls i j (by simpa using h) hj
    simp only [lnCells, List.flatMap_cons] at this ⊢
    rw [List.getElem?_append_right (by simp [lnCell]; omega)]
    have e : (i + 1) * 4 + j - (lnCell z).length = i * 4 + j := by simp [lnCell]; omega
    rw [e, this]
    simp [List.getD]
/-- Lines that the call owns. -/
def RowLn (w : World) (B : Nat) (v : Value) (ls : List (List Int)) : Prop := w.ownsRow B 46 4 v ls.length (lnCells ls)
theorem RowLn.lines {w : World} {B : Nat} {v : Value} {ls : List (List Int)} (h : RowLn w B v ls) : ∃ A c, v = .slice A ls.length c ∧ LinesAt w A ls.length ls := by
  rcases h.2 with ⟨rfl, h0⟩ | ⟨g, cap, cur, rfl, hg, hb, _⟩
  · rw [h0]
    exact ⟨none, 0, rfl, h0, fun h => absurd h (by omega)⟩
  · refine ⟨_, cap, rfl, rfl, fun _ => ⟨g, 0, rfl, (Array.getElem?_eq_some_iff.1 hb).1, fun i hi => ?_⟩⟩
    have hc := fun j hj => h.cells (g := g) rfl (i * 4 + j) _ (lnCells_get ls i j hi hj)
    have a0 := hc 0 (by omega)
    have a1 := hc 1 (by omega)
    have a2 := hc 2 (by omega)
    have a3 := hc 3 (by omega)
    have hadd : ∀ x, (⟨g, 0, none⟩ : Addr).add x = ⟨g, x, none⟩ := fun x => by by_cases h : x = 0 <;> simp [Addr.add, h]
    rw [hadd] at a0 a1 a2 a3
    simp only [Nat.zero_add]
    exact ⟨a0, a1, a2, a3⟩
/-- A network, an offset, an error. -/
def RetNet (w : World) (x : NR) (e : Ending) (w' : World) : Prop := ∃ A c, e = .returned (.tuple #[.agg #[.int .i64 x.b, .slice A x.ls.length c], .int .i64 x.nx, .int .i64 x.e]) ∧ LinesAt w' A x.ls.length x.ls ∧ Ext w w'
theorem info_ln : (Tryz.prog.info? 46).map (fun i => (i.zero, i.size, i.bytes)) = some (some (.agg #[.int .i64 0, .int .i64 0, .int .i64 0, .int .i64 0]), 4, 32) := by kernel_rfl
theorem blk_mv {g r : Nat} {w w' : World} {t : TypeId} {cs : Array Value} (h : Blk w r t cs) (hm : Mv g w w') (hne : r ≠ g) : Blk w' r t cs := h.keep (hm.block r h.lt (fun e => hne (by injection e)))
theorem rowln_mv {g : Nat} {w w' : World} {B : Nat} {v : Value} {ls : List (List Int)} (h : RowLn w B v ls) (hm : Mv g w w') (hg : g < B) : RowLn w' B v ls := own_keep h fun x hx => hm.block x (own_lt h hx).1 (fun e => by have := (own_lt h hx).2; injection e with e; omega)
theorem RowLn.at {w : World} {B n c : Nat} {A : Option Addr} {ls : List (List Int)} (h : RowLn w B (.slice A n c) ls) : LinesAt w A ls.length ls := by
  obtain ⟨A', c', e, h'⟩ := h.lines
  injection e with e1 e2 e3
  rw [e1]
  exact h'
theorem rowln_touch {x : Nat} {w w' : World} {B : Nat} {v : Value} {ls : List (List Int)} (h : RowLn w B v ls) (ht : Touch x w w') (hx : x < B) : RowLn w' B v ls := own_keep h fun b hb => ht.block b (by have := (own_lt h hb).2; omega)
theorem rowln_ext {w w' : World} {B : Nat} {v : Value} {ls : List (List Int)} (h : RowLn w B v ls) (hb : Ext w w') : RowLn w' B v ls := own_keep h fun x hx => hb.block x (own_lt h hx).1
theorem blk2 {w : World} {r : Nat} {t : TypeId} {v0 v1 : Value} (h : Blk w r t #[v0, v1]) : w.cell? ⟨r, 0, none⟩ = some v0 ∧ w.cell? ⟨r, 1, none⟩ = some v1 ∧ w.frozen? ⟨r, 0, none⟩ = false ∧ w.frozen? ⟨r, 1, none⟩ = false ∧ r < w.heap.size := ⟨by rw [h.cell]; rfl, by rw [h.cell]; rfl, h.frozen 0, h.frozen 1, h.lt⟩

set_option maxRecDepth 100000 in
set_option maxHeartbeats 16000000 in
theorem parsenet_any (s : ByteArray) (k : Int) (w : World) (hs : s.size ≤ maxLen) :
    Calls Tryz.prog 12 #[.string s, .int .i64 k] w (RetNet w (netR s.data.toList k)) := by
  obtain ⟨i0, hi, hz0, hz1, hz2⟩ := info_parts info_ln
  obtain ⟨NF, hNF⟩ : ∃ x, netR s.data.toList k = x := ⟨_, rfl⟩
  rw [hNF]
  have HN := Lib.hid hNF
  have HS := Lib.hid hs
  clear hNF hs
  go_enter Tryz.func12, Tryz.ntmps12
  go_wp2_with fail
  have hP0 : PAt ((w.alloc (.cells #[.int .i64 0, .slice none 0 0] 24)).alloc (.cells #[.string s, .int .i64 k, .int .i64 0] 59)) (w.heap.size + 1) s ⟨k, 0⟩ := by have := Blk.new (w.alloc (.cells #[.int .i64 0, .slice none 0 0] 24)) 59 #[.string s, .int .i64 k, .int .i64 0]; simp only [World.size_alloc] at this; exact this
  have hB0 : Blk ((w.alloc (.cells #[.int .i64 0, .slice none 0 0] 24)).alloc (.cells #[.string s, .int .i64 k, .int .i64 0] 59)) w.heap.size 24 #[.int .i64 0, .slice none 0 0] := (Blk.new w 24 _).alloc _
  have hE0 : Ext w ((w.alloc (.cells #[.int .i64 0, .slice none 0 0] 24)).alloc (.cells #[.string s, .int .i64 k, .int .i64 0] 59)) := Ext.al (Ext.al Ext.rfl' _) _
  have hsz : ((w.alloc (.cells #[.int .i64 0, .slice none 0 0] 24)).alloc (.cells #[.string s, .int .i64 k, .int .i64 0] 59)).heap.size = w.heap.size + 2 := by simp
  generalize ((w.alloc (.cells #[.int .i64 0, .slice none 0 0] 24)).alloc (.cells #[.string s, .int .i64 k, .int .i64 0] 59)) = w0 at *
  obtain ⟨r, hr⟩ : ∃ r, w.heap.size = r := ⟨_, rfl⟩
  rw [hr] at hP0 hB0 hsz ⊢
  obtain ⟨g, hg⟩ : ∃ g, r + 1 = g := ⟨_, rfl⟩
  rw [hg] at hP0 ⊢
  have hgr : r < g := by omega
  have hg0 : g < w0.heap.size := hP0.blk.lt
  have HP0 := Lib.hid hP0
  have HB0 := Lib.hid hB0
  have HE0 := Lib.hid hE0
  have HR := Lib.hid hr
  have HSZ : Hid (w0.heap.size = g + 1) := by unfold Hid; omega
  clear hP0 hB0 hE0 hr hg hsz
  have HM0 : Hid (Mv g w0 w0) := grown_refl _ _
  refine (nexpect_any g s ⟨k, 0⟩ 1 w0 HP0.out HS.out).mono ?_
  rintro e w1 ⟨⟨_, _, _, _, _, _, _, _, rfl⟩, hp, hm⟩
  have HP1 := Lib.hid hp
  have HM1 := Lib.hid hm
  clear hp hm
  go_wp2_with fail
  refine (word_any g s _ ⟨#[110, 101, 116]⟩ w1 HP1.out HS.out).mono ?_
  rintro e w2 ⟨rfl, hp, hm⟩
  have HP2 : Hid (PAt w2 g s (netHd s.data.toList k)) := hp
  have HM2 := Lib.hid (Mv.trans HM1.out hm)
  clear hp hm
  go_wp2_with fail
  have HNR : Hid (NF = netEnd s.data.toList (linesP s.data.toList (s.data.toList.length + 2) (psI s.data.toList (netHd s.data.toList k)) []).1 (psV s.data.toList (netHd s.data.toList k)) (linesP s.data.toList (s.data.toList.length + 2) (psI s.data.toList (netHd s.data.toList k)) []).2) := HN.out.symm
  clear HN
  generalize netHd s.data.toList k = ph at *
  refine (int_any g s ph w2 HP2.out HS.out).mono ?_
  rintro e w3 ⟨rfl, hp, hm⟩
  obtain ⟨bv, hbv0⟩ : ∃ b, psV s.data.toList ph = b := ⟨_, rfl⟩
  rw [hbv0] at HNR ⊢
  clear hbv0
  generalize psI s.data.toList ph = pi at *
  have HM3 := Lib.hid (Mv.trans HM2.out hm)
  have HB3 := Lib.hid (blk_mv HB0.out HM3.out (by omega))
  have HP3 := Lib.hid hp
  clear hp hm
  obtain ⟨x0, x1, f0, f1, xl⟩ := blk2 HB3.out
  go_wp2_with fail
  clear x0 x1 f0 f1 xl
  have HB4 : Hid (Blk (w3.setCell ⟨r, 0, none⟩ (.int .i64 bv)) r 24 #[.int .i64 bv, .slice none 0 0]) := HB3.out.put 0 _
  have HP4 : Hid (PAt (w3.setCell ⟨r, 0, none⟩ (.int .i64 bv)) g s pi) := HP3.out.touch ((Touch.refl r w3).set 0 _) (by omega)
  have HE4 : Hid (Ext w (w3.setCell ⟨r, 0, none⟩ (.int .i64 bv))) := Below.setCell (Mv.ext HM3.out HE0.out (by rw [HR.out]; omega)) (p := ⟨r, 0, none⟩) (by rw [HR.out]; exact Nat.le_refl _) _
  have HS4 : Hid (w0.heap.size ≤ (w3.setCell ⟨r, 0, none⟩ (.int .i64 bv)).heap.size) := by have := HM3.out.size; simpa [World.setCell, Hid] using this
  clear HP0 HB0 HP1 HM1 HP2 HM2 HM3 HB3 HP3
  generalize w3.setCell ⟨r, 0, none⟩ (.int .i64 bv) = w4 at *
  obtain ⟨B, hB⟩ : ∃ B, w0.heap.size = B := ⟨_, rfl⟩
  rw [hB] at hg0 HS4 HSZ
  clear hB
  obtain ⟨PF, hPF⟩ : ∃ x, linesP s.data.toList (s.data.toList.length + 2) pi [] = x := ⟨_, rfl⟩
  rw [hPF] at HNR
  have HPF := Lib.hid hPF
  clear hPF
  have hRow0 : RowLn w4 B (.slice none 0 0) [] := rown_nil _ _ _ _
  have HRow0 := Lib.hid hRow0
  clear hRow0
  have HF0 : Hid (psF s.data.toList pi ≤ s.data.toList.length + 2) := by unfold Hid psF; split <;> omega
  go_loopw [] (fun wr => ∃ (p : PS) (acc : List (List Int)) (v : Value) (f : Nat), Hid (PAt wr g s p) ∧ Hid (Blk wr r 24 #[.int .i64 bv, v]) ∧ Hid (RowLn wr B v acc) ∧ Hid (linesP s.data.toList f p acc = PF) ∧ Hid (psF s.data.toList p ≤ f) ∧ Hid (acc.length + f ≤ s.data.toList.length + 2) ∧ Hid (0 < acc.length → s.data.toList.length ≤ 65536) ∧ Hid (Ext w wr) ∧ Hid (B ≤ wr.heap.size)) (fun wr => psF s.data.toList (psOf wr g))
  case atStart => exact ⟨pi, [], _, _, HP4, HB4, HRow0, HPF, HF0, by simp [Hid], fun h => absurd h (by simp), HE4, HS4⟩
  case round =>
    obtain ⟨p, acc, v, f, HP, HB, HRow, HL, HF, HAF, HSM, HE, HBS⟩ := hrel
    obtain ⟨⟨p0, p1, p2⟩, q1, q2, pl⟩ := HP.out.cells
    obtain ⟨mb, hmb⟩ : ∃ b, psMore s.data.toList p = b := ⟨_, rfl⟩
    have HMB := Lib.hid hmb
    clear hmb
    by_cases h0 : p.e = 0
    rotate_left
    · have hb : (p.e == 0) = false := by simp [h0]
      have hm0 : mb = false := by rw [← HMB.out]; unfold psMore; rw [decide_eq_false h0]; rfl
      subst hm0
      clear h0
      have HLS : Hid (PF = (p, acc)) := by unfold Hid; rw [← HL.out, linesP_stop HMB.out]
      have hacc : acc.length ≤ 65538 := by
        have h1 := HAF.out
        rcases Nat.eq_zero_or_pos acc.length with h2 | h2
        · omega
        · have := HSM.out h2
          omega
      clear HL HF HAF HMB HSM
      go_wp2_with fail
      clear p0 p1 p2 q1 q2 pl
      refine (nexpect_any g s p 2 wr HP.out HS.out).mono ?_
      rintro e w6 ⟨⟨_, _, _, _, _, _, _, _, rfl⟩, hp, hm⟩
      have HB6 := Lib.hid (blk_mv HB.out hm (by omega))
      have HRow6 := Lib.hid (rowln_mv HRow.out hm (by omega))
      have HE6 := Lib.hid (Mv.ext hm HE.out (by rw [HR.out]; omega))
      have HP6 := Lib.hid hp
      clear hp hm HP HB HRow HE
      have HNE : Hid (NF = netEnd s.data.toList p bv acc) := by unfold Hid; rw [HNR.out, HLS.out]
      have HND : Hid (NF = if (if (psE s.data.toList p 2).e = 0 then netC bv acc else (psE s.data.toList p 2).e) ≠ 0 then ⟨0, [], 0, if (psE s.data.toList p 2).e = 0 then netC bv acc else (psE s.data.toList p 2).e⟩ else ⟨bv, acc, (psE s.data.toList p 2).k, 0⟩) := HNE.out
      clear HNE HLS HNR
      generalize psE s.data.toList p 2 = p6 at *
      obtain ⟨k6, e6⟩ := p6
      simp only at HND
      obtain ⟨A, c, rfl, hLn⟩ := HRow6.out.lines
      clear hLn
      have HLN6 := HRow6
      obtain ⟨⟨p0, p1, p2⟩, q1, q2, pl⟩ := HP6.out.cells
      simp only at p1 p2
      by_cases h6 : e6 = 0
      rotate_left
      · have hb1 : (e6 == 0) = false := by simp [h6]
        have hb2 : (e6 != 0) = true := by simp [h6]
        have HRES : Hid (NF = ⟨0, [], 0, e6⟩) := by unfold Hid; rw [HND.out, if_neg h6, if_pos h6]
        clear h6 HND
        go_wp2_with fail
        clear p0 p1 p2 q1 q2 pl
        have HEX : Hid (Ext w6 w6.drew) := Ext.rfl'.drew
        have hB9 : Blk w6.drew r 24 #[.int .i64 bv, .slice A acc.length c] := HB6.out.keep (HEX.out.block r HB6.out.lt)
        have hP9 := HP6.out.ext HEX.out
        have hL9 := rowln_ext HLN6.out HEX.out
        have hE9 := Ext.trans HE6.out HEX.out
        refine wp_region_lexS (C := InX w6.drew [r]) (by kernel_rfl) (by kernel_rfl) (inX_self _ _) ?_
        generalize w6.drew = w9 at *
        obtain ⟨⟨z0, z1, z2⟩, -, -, -⟩ := hP9.cells
        have HB9 := Lib.hid hB9
        obtain ⟨b0, b1, -, -, -⟩ := blk2 hB9
        have zz1 := fun z : ExtX w9 [r] => z.cell (p := ⟨g, 1, none⟩) z1 (by simp; omega)
        have zz2 := fun z : ExtX w9 [r] => z.cell (p := ⟨g, 2, none⟩) z2 (by simp; omega)
        have HE9 := Lib.hid hE9
        have HL9 := Lib.hid hL9
        clear z0 z1 z2 b0 b1 hE9 hL9 hP9 hB9
        repeat (refine lexAt_still (by rfl) ?_; go_big_quiet_step (fail); refine wpQuiet_nil ?_)
        obtain ⟨c0, c1, f0, f1, cl⟩ := blk2 HB9.out
        refine lexAt_move (by rfl) (by kernel_rfl) ?_
        go_wp2_with fail
        have hBf : Blk ((w9.setCell ⟨r, 0, none⟩ (.int .i64 0)).setCell ⟨r, 1, none⟩ (.slice none 0 0)) r 24 #[.int .i64 0, .slice none 0 0] := (HB9.out.put 0 _).put 1 _
        refine And.intro (inX_put (inX_put (inX_self _ _) (p := ⟨r, 0, none⟩) (.inl (by simp)) _) (p := ⟨r, 1, none⟩) (.inl (by simp)) _) ?_
        have hEf : Ext w ((w9.setCell ⟨r, 0, none⟩ (.int .i64 0)).setCell ⟨r, 1, none⟩ (.slice none 0 0)) := (((Touch.refl r w9).set 0 _).set 1 _).ext w HE9.out (by rw [HR.out]; exact Nat.le_refl _)
        have hLf : LinesAt ((w9.setCell ⟨r, 0, none⟩ (.int .i64 0)).setCell ⟨r, 1, none⟩ (.slice none 0 0)) A acc.length acc := (rowln_touch HL9.out (((Touch.refl r w9).set 0 _).set 1 _) (by omega)).at
        have HBf := Lib.hid hBf
        have HEf := Lib.hid hEf
        have HLf := Lib.hid hLf
        clear hBf hEf hLf c0 c1 f0 f1 cl
        repeat (refine lexAt_still (by rfl) ?_; go_big_quiet_step (fail); refine wpQuiet_nil ?_)
        refine lexAt_nil ?_
        clear zz1 zz2
        generalize ((w9.setCell ⟨r, 0, none⟩ (.int .i64 0)).setCell ⟨r, 1, none⟩ (.slice none 0 0)) = wf at *
        go_wp2_with fail
        obtain ⟨c0, c1, f0, f1, cl⟩ := blk2 HBf.out
        refine bodyPost_ret (v := .tuple #[.agg #[.int .i64 0, .slice none 0 0], .int .i64 0, .int .i64 e6]) (by simp [results, Tryz.results12, go_sem, c0, c1]) rfl ?_
        rw [HRES.out]
        exact ⟨_, _, rfl, ⟨rfl, fun h => absurd h (by simp)⟩, HEf.out⟩
      · subst h6
        have HN2 : Hid (NF = if netC bv acc ≠ 0 then ⟨0, [], 0, netC bv acc⟩ else ⟨bv, acc, k6, 0⟩) := by unfold Hid; rw [HND.out, if_pos rfl]
        clear HND
        obtain ⟨x0, x1, f0, f1, xl⟩ := blk2 HB6.out
        go_wp2_with fail
        clear p0 p1 p2 q1 q2 pl x0 x1 f0 f1 xl
        refine (ncheck_any bv A acc.length c acc w6 HLN6.out.at (by omega)).mono ?_
        rintro e w7 ⟨rfl, hE7⟩
        generalize netC bv acc = ec at *
        have HP7 := Lib.hid (HP6.out.ext hE7)
        have HB7 := Lib.hid (HB6.out.keep (hE7.block r HB6.out.lt))
        have HE7 := Lib.hid (Ext.trans HE6.out hE7)
        have HLN7 := Lib.hid (rowln_ext HLN6.out hE7)
        clear hE7 HP6 HB6 HE6 HLN6 HRow6
        obtain ⟨⟨p0, p1, p2⟩, q1, q2, pl⟩ := HP7.out.cells
        simp only at p1 p2
        have HP8 : Hid (PAt (w7.setCell ⟨g, 2, none⟩ (.int .i64 ec)) g s ⟨k6, ec⟩) := HP7.out.set2 ec
        have ht8 : Touch g w7 (w7.setCell ⟨g, 2, none⟩ (.int .i64 ec)) := (Touch.refl g w7).set 2 _
        have HB8 : Hid (Blk (w7.setCell ⟨g, 2, none⟩ (.int .i64 ec)) r 24 #[.int .i64 bv, .slice A acc.length c]) := HB7.out.keep (ht8.block r (by omega))
        have HE8 : Hid (Ext w (w7.setCell ⟨g, 2, none⟩ (.int .i64 ec))) := ht8.ext w HE7.out (by rw [HR.out]; omega)
        have HLN8 : Hid (RowLn (w7.setCell ⟨g, 2, none⟩ (.int .i64 ec)) B (.slice A acc.length c) acc) := rowln_touch HLN7.out ht8 (by omega)
        clear ht8 HP7 HB7 HE7 HLN7
        by_cases hec : ec = 0
        rotate_left
        · have hb2 : (ec != 0) = true := by simp [hec]
          have HRES : Hid (NF = ⟨0, [], 0, ec⟩) := by unfold Hid; rw [HN2.out, if_pos hec]
          clear hec HN2
          go_wp2_with fail
          clear p0 p1 p2 q1 q2 pl
          generalize (w7.setCell ⟨g, 2, none⟩ (.int .i64 ec)) = w8 at *
          have HEX : Hid (Ext w8 w8.drew) := Ext.rfl'.drew
          have hB9 : Blk w8.drew r 24 #[.int .i64 bv, .slice A acc.length c] := HB8.out.keep (HEX.out.block r HB8.out.lt)
          have hP9 := HP8.out.ext HEX.out
          have hL9 := rowln_ext HLN8.out HEX.out
          have hE9 := Ext.trans HE8.out HEX.out
          refine wp_region_lexS (C := InX w8.drew [r]) (by kernel_rfl) (by kernel_rfl) (inX_self _ _) ?_
          generalize w8.drew = w9 at *
          obtain ⟨⟨z0, z1, z2⟩, -, -, -⟩ := hP9.cells
          have HB9 := Lib.hid hB9
          obtain ⟨b0, b1, -, -, -⟩ := blk2 hB9
          have zz1 := fun z : ExtX w9 [r] => z.cell (p := ⟨g, 1, none⟩) z1 (by simp; omega)
          have zz2 := fun z : ExtX w9 [r] => z.cell (p := ⟨g, 2, none⟩) z2 (by simp; omega)
          have HE9 := Lib.hid hE9
          have HL9 := Lib.hid hL9
          clear z0 z1 z2 b0 b1 hE9 hL9 hP9 hB9
          repeat (refine lexAt_still (by rfl) ?_; go_big_quiet_step (fail); refine wpQuiet_nil ?_)
          obtain ⟨c0, c1, f0, f1, cl⟩ := blk2 HB9.out
          refine lexAt_move (by rfl) (by kernel_rfl) ?_
          go_wp2_with fail
          have hBf : Blk ((w9.setCell ⟨r, 0, none⟩ (.int .i64 0)).setCell ⟨r, 1, none⟩ (.slice none 0 0)) r 24 #[.int .i64 0, .slice none 0 0] := (HB9.out.put 0 _).put 1 _
          refine And.intro (inX_put (inX_put (inX_self _ _) (p := ⟨r, 0, none⟩) (.inl (by simp)) _) (p := ⟨r, 1, none⟩) (.inl (by simp)) _) ?_
          have hEf : Ext w ((w9.setCell ⟨r, 0, none⟩ (.int .i64 0)).setCell ⟨r, 1, none⟩ (.slice none 0 0)) := (((Touch.refl r w9).set 0 _).set 1 _).ext w HE9.out (by rw [HR.out]; exact Nat.le_refl _)
          have hLf : LinesAt ((w9.setCell ⟨r, 0, none⟩ (.int .i64 0)).setCell ⟨r, 1, none⟩ (.slice none 0 0)) A acc.length acc := (rowln_touch HL9.out (((Touch.refl r w9).set 0 _).set 1 _) (by omega)).at
          have HBf := Lib.hid hBf
          have HEf := Lib.hid hEf
          have HLf := Lib.hid hLf
          clear hBf hEf hLf c0 c1 f0 f1 cl
          repeat (refine lexAt_still (by rfl) ?_; go_big_quiet_step (fail); refine wpQuiet_nil ?_)
          refine lexAt_nil ?_
          clear zz1 zz2
          generalize ((w9.setCell ⟨r, 0, none⟩ (.int .i64 0)).setCell ⟨r, 1, none⟩ (.slice none 0 0)) = wf at *
          go_wp2_with fail
          obtain ⟨c0, c1, f0, f1, cl⟩ := blk2 HBf.out
          refine bodyPost_ret (v := .tuple #[.agg #[.int .i64 0, .slice none 0 0], .int .i64 0, .int .i64 ec]) (by simp [results, Tryz.results12, go_sem, c0, c1]) rfl ?_
          rw [HRES.out]
          exact ⟨_, _, rfl, ⟨rfl, fun h => absurd h (by simp)⟩, HEf.out⟩
        · subst hec
          have HRES : Hid (NF = ⟨bv, acc, k6, 0⟩) := by unfold Hid; rw [HN2.out, if_neg (by simp)]
          clear HN2
          go_wp2_with fail
          clear p0 p1 p2 q1 q2 pl
          generalize (w7.setCell ⟨g, 2, none⟩ (.int .i64 0)) = w8 at *
          have HEX : Hid (Ext w8 w8.drew) := Ext.rfl'.drew
          have hB9 : Blk w8.drew r 24 #[.int .i64 bv, .slice A acc.length c] := HB8.out.keep (HEX.out.block r HB8.out.lt)
          have hP9 := HP8.out.ext HEX.out
          have hL9 := rowln_ext HLN8.out HEX.out
          have hE9 := Ext.trans HE8.out HEX.out
          refine wp_region_lexS (C := InX w8.drew []) (by kernel_rfl) (by kernel_rfl) (inX_self _ _) ?_
          generalize w8.drew = w9 at *
          obtain ⟨⟨z0, z1, z2⟩, -, -, -⟩ := hP9.cells
          have HB9 := Lib.hid hB9
          obtain ⟨b0, b1, -, -, -⟩ := blk2 hB9
          have zz1 := fun z : ExtX w9 [] => z.cell (p := ⟨g, 1, none⟩) z1 (by simp)
          have zz2 := fun z : ExtX w9 [] => z.cell (p := ⟨g, 2, none⟩) z2 (by simp)
          have bb0 := fun z : ExtX w9 [] => z.cell (p := ⟨r, 0, none⟩) b0 (by simp)
          have bb1 := fun z : ExtX w9 [] => z.cell (p := ⟨r, 1, none⟩) b1 (by simp)
          have HE9 := Lib.hid hE9
          have HL9 := Lib.hid hL9
          clear z0 z1 z2 b0 b1 hE9 hL9 hP9 hB9
          repeat (refine lexAt_still (by rfl) ?_; go_big_quiet_step (fail); refine wpQuiet_nil ?_)
          obtain ⟨c0, c1, f0, f1, cl⟩ := blk2 HB9.out
          refine lexAt_move (by rfl) (by kernel_rfl) ?_
          go_wp2_with fail
          have hBf : Blk ((w9.setCell ⟨r, 0, none⟩ (.int .i64 bv)).setCell ⟨r, 1, none⟩ (.slice A acc.length c)) r 24 #[.int .i64 bv, .slice A acc.length c] := (HB9.out.put 0 _).put 1 _
          have hsame : InX w9 [] ((w9.setCell ⟨r, 0, none⟩ (.int .i64 bv)).setCell ⟨r, 1, none⟩ (.slice A acc.length c)) := ⟨⟨_, by simp [World.setCell], fun x hx _ => by
            by_cases e : x = r
            · rw [e]; exact hBf.trans HB9.out.symm
            · exact (((Touch.refl r w9).set 0 _).set 1 _).block x e⟩, rfl⟩
          refine And.intro hsame ?_
          have hEf : Ext w ((w9.setCell ⟨r, 0, none⟩ (.int .i64 bv)).setCell ⟨r, 1, none⟩ (.slice A acc.length c)) := (((Touch.refl r w9).set 0 _).set 1 _).ext w HE9.out (by rw [HR.out]; exact Nat.le_refl _)
          have hLf : LinesAt ((w9.setCell ⟨r, 0, none⟩ (.int .i64 bv)).setCell ⟨r, 1, none⟩ (.slice A acc.length c)) A acc.length acc := (rowln_touch HL9.out (((Touch.refl r w9).set 0 _).set 1 _) (by omega)).at
          have HBf := Lib.hid hBf
          have HEf := Lib.hid hEf
          have HLf := Lib.hid hLf
          clear hBf hEf hLf c0 c1 f0 f1 cl hsame
          repeat (refine lexAt_still (by rfl) ?_; go_big_quiet_step (fail); refine wpQuiet_nil ?_)
          refine lexAt_nil ?_
          clear zz1 zz2 bb0 bb1
          generalize ((w9.setCell ⟨r, 0, none⟩ (.int .i64 bv)).setCell ⟨r, 1, none⟩ (.slice A acc.length c)) = wf at *
          go_wp2_with fail
          obtain ⟨c0, c1, f0, f1, cl⟩ := blk2 HBf.out
          refine bodyPost_ret (v := .tuple #[.agg #[.int .i64 bv, .slice A acc.length c], .int .i64 k6, .int .i64 0]) (by simp [results, Tryz.results12, go_sem, c0, c1]) rfl ?_
          rw [HRES.out]
          exact ⟨_, _, rfl, HLf.out, HEf.out⟩
    · have hb : (p.e == 0) = true := by simp [h0]
      have HMP : Hid (peekT s.data.toList p.k 1 = mb) := by unfold Hid; rw [← HMB.out]; unfold psMore; rw [decide_eq_true h0]; rfl
      clear h0
      go_wp2_with fail
      refine (peek_any s p.k 1 wr HS.out).mono ?_
      rintro e wp ⟨rfl, hEp⟩
      rw [HMP.out]
      clear p0 p1 p2 q1 q2 pl HMP
      have HPx := Lib.hid (HP.out.ext hEp)
      have HBx := Lib.hid (HB.out.keep (hEp.block r HB.out.lt))
      have HRx : Hid (RowLn wp B v acc) := own_keep HRow.out (fun x hx => hEp.block x (own_lt HRow.out hx).1)
      have HEx := Lib.hid (Ext.trans HE.out hEp)
      have HBSx : Hid (B ≤ wp.heap.size) := Nat.le_trans HBS.out hEp.size
      have HME : Hid (psOf wr g = p) := HP.out.of
      clear hEp HP HB HRow HE HBS
      have HP := HPx
      have HB := HBx
      have HRow := HRx
      have HE := HEx
      have HBS := HBSx
      clear HPx HBx HRx HEx HBSx
      obtain ⟨⟨p0, p1, p2⟩, q1, q2, pl⟩ := HP.out.cells
      cases mb
      · skip
        have HLS : Hid (PF = (p, acc)) := by unfold Hid; rw [← HL.out, linesP_stop HMB.out]
        have hacc : acc.length ≤ 65538 := by
          have h1 := HAF.out
          rcases Nat.eq_zero_or_pos acc.length with h2 | h2
          · omega
          · have := HSM.out h2
            omega
        clear HL HF HAF HMB HSM
        go_wp2_with fail
        clear p0 p1 p2 q1 q2 pl
        refine (nexpect_any g s p 2 wp HP.out HS.out).mono ?_
        rintro e w6 ⟨⟨_, _, _, _, _, _, _, _, rfl⟩, hp, hm⟩
        have HB6 := Lib.hid (blk_mv HB.out hm (by omega))
        have HRow6 := Lib.hid (rowln_mv HRow.out hm (by omega))
        have HE6 := Lib.hid (Mv.ext hm HE.out (by rw [HR.out]; omega))
        have HP6 := Lib.hid hp
        clear hp hm HP HB HRow HE
        have HNE : Hid (NF = netEnd s.data.toList p bv acc) := by unfold Hid; rw [HNR.out, HLS.out]
        have HND : Hid (NF = if (if (psE s.data.toList p 2).e = 0 then netC bv acc else (psE s.data.toList p 2).e) ≠ 0 then ⟨0, [], 0, if (psE s.data.toList p 2).e = 0 then netC bv acc else (psE s.data.toList p 2).e⟩ else ⟨bv, acc, (psE s.data.toList p 2).k, 0⟩) := HNE.out
        clear HNE HLS HNR
        generalize psE s.data.toList p 2 = p6 at *
        obtain ⟨k6, e6⟩ := p6
        simp only at HND
        obtain ⟨A, c, rfl, hLn⟩ := HRow6.out.lines
        clear hLn
        have HLN6 := HRow6
        obtain ⟨⟨p0, p1, p2⟩, q1, q2, pl⟩ := HP6.out.cells
        simp only at p1 p2
        by_cases h6 : e6 = 0
        rotate_left
        · have hb1 : (e6 == 0) = false := by simp [h6]
          have hb2 : (e6 != 0) = true := by simp [h6]
          have HRES : Hid (NF = ⟨0, [], 0, e6⟩) := by unfold Hid; rw [HND.out, if_neg h6, if_pos h6]
          clear h6 HND
          go_wp2_with fail
          clear p0 p1 p2 q1 q2 pl
          have HEX : Hid (Ext w6 w6.drew) := Ext.rfl'.drew
          have hB9 : Blk w6.drew r 24 #[.int .i64 bv, .slice A acc.length c] := HB6.out.keep (HEX.out.block r HB6.out.lt)
          have hP9 := HP6.out.ext HEX.out
          have hL9 := rowln_ext HLN6.out HEX.out
          have hE9 := Ext.trans HE6.out HEX.out
          refine wp_region_lexS (C := InX w6.drew [r]) (by kernel_rfl) (by kernel_rfl) (inX_self _ _) ?_
          generalize w6.drew = w9 at *
          obtain ⟨⟨z0, z1, z2⟩, -, -, -⟩ := hP9.cells
          have HB9 := Lib.hid hB9
          obtain ⟨b0, b1, -, -, -⟩ := blk2 hB9
          have zz1 := fun z : ExtX w9 [r] => z.cell (p := ⟨g, 1, none⟩) z1 (by simp; omega)
          have zz2 := fun z : ExtX w9 [r] => z.cell (p := ⟨g, 2, none⟩) z2 (by simp; omega)
          have HE9 := Lib.hid hE9
          have HL9 := Lib.hid hL9
          clear z0 z1 z2 b0 b1 hE9 hL9 hP9 hB9
          repeat (refine lexAt_still (by rfl) ?_; go_big_quiet_step (fail); refine wpQuiet_nil ?_)
          obtain ⟨c0, c1, f0, f1, cl⟩ := blk2 HB9.out
          refine lexAt_move (by rfl) (by kernel_rfl) ?_
          go_wp2_with fail
          have hBf : Blk ((w9.setCell ⟨r, 0, none⟩ (.int .i64 0)).setCell ⟨r, 1, none⟩ (.slice none 0 0)) r 24 #[.int .i64 0, .slice none 0 0] := (HB9.out.put 0 _).put 1 _
          refine And.intro (inX_put (inX_put (inX_self _ _) (p := ⟨r, 0, none⟩) (.inl (by simp)) _) (p := ⟨r, 1, none⟩) (.inl (by simp)) _) ?_
          have hEf : Ext w ((w9.setCell ⟨r, 0, none⟩ (.int .i64 0)).setCell ⟨r, 1, none⟩ (.slice none 0 0)) := (((Touch.refl r w9).set 0 _).set 1 _).ext w HE9.out (by rw [HR.out]; exact Nat.le_refl _)
          have hLf : LinesAt ((w9.setCell ⟨r, 0, none⟩ (.int .i64 0)).setCell ⟨r, 1, none⟩ (.slice none 0 0)) A acc.length acc := (rowln_touch HL9.out (((Touch.refl r w9).set 0 _).set 1 _) (by omega)).at
          have HBf := Lib.hid hBf
          have HEf := Lib.hid hEf
          have HLf := Lib.hid hLf
          clear hBf hEf hLf c0 c1 f0 f1 cl
          repeat (refine lexAt_still (by rfl) ?_; go_big_quiet_step (fail); refine wpQuiet_nil ?_)
          refine lexAt_nil ?_
          clear zz1 zz2
          generalize ((w9.setCell ⟨r, 0, none⟩ (.int .i64 0)).setCell ⟨r, 1, none⟩ (.slice none 0 0)) = wf at *
          go_wp2_with fail
          obtain ⟨c0, c1, f0, f1, cl⟩ := blk2 HBf.out
          refine bodyPost_ret (v := .tuple #[.agg #[.int .i64 0, .slice none 0 0], .int .i64 0, .int .i64 e6]) (by simp [results, Tryz.results12, go_sem, c0, c1]) rfl ?_
          rw [HRES.out]
          exact ⟨_, _, rfl, ⟨rfl, fun h => absurd h (by simp)⟩, HEf.out⟩
        · subst h6
          have HN2 : Hid (NF = if netC bv acc ≠ 0 then ⟨0, [], 0, netC bv acc⟩ else ⟨bv, acc, k6, 0⟩) := by unfold Hid; rw [HND.out, if_pos rfl]
          clear HND
          obtain ⟨x0, x1, f0, f1, xl⟩ := blk2 HB6.out
          go_wp2_with fail
          clear p0 p1 p2 q1 q2 pl x0 x1 f0 f1 xl
          refine (ncheck_any bv A acc.length c acc w6 HLN6.out.at (by omega)).mono ?_
          rintro e w7 ⟨rfl, hE7⟩
          generalize netC bv acc = ec at *
          have HP7 := Lib.hid (HP6.out.ext hE7)
          have HB7 := Lib.hid (HB6.out.keep (hE7.block r HB6.out.lt))
          have HE7 := Lib.hid (Ext.trans HE6.out hE7)
          have HLN7 := Lib.hid (rowln_ext HLN6.out hE7)
          clear hE7 HP6 HB6 HE6 HLN6 HRow6
          obtain ⟨⟨p0, p1, p2⟩, q1, q2, pl⟩ := HP7.out.cells
          simp only at p1 p2
          have HP8 : Hid (PAt (w7.setCell ⟨g, 2, none⟩ (.int .i64 ec)) g s ⟨k6, ec⟩) := HP7.out.set2 ec
          have ht8 : Touch g w7 (w7.setCell ⟨g, 2, none⟩ (.int .i64 ec)) := (Touch.refl g w7).set 2 _
          have HB8 : Hid (Blk (w7.setCell ⟨g, 2, none⟩ (.int .i64 ec)) r 24 #[.int .i64 bv, .slice A acc.length c]) := HB7.out.keep (ht8.block r (by omega))
          have HE8 : Hid (Ext w (w7.setCell ⟨g, 2, none⟩ (.int .i64 ec))) := ht8.ext w HE7.out (by rw [HR.out]; omega)
          have HLN8 : Hid (RowLn (w7.setCell ⟨g, 2, none⟩ (.int .i64 ec)) B (.slice A acc.length c) acc) := rowln_touch HLN7.out ht8 (by omega)
          clear ht8 HP7 HB7 HE7 HLN7
          by_cases hec : ec = 0
          rotate_left
          · have hb2 : (ec != 0) = true := by simp [hec]
            have HRES : Hid (NF = ⟨0, [], 0, ec⟩) := by unfold Hid; rw [HN2.out, if_pos hec]
            clear hec HN2
            go_wp2_with fail
            clear p0 p1 p2 q1 q2 pl
            generalize (w7.setCell ⟨g, 2, none⟩ (.int .i64 ec)) = w8 at *
            have HEX : Hid (Ext w8 w8.drew) := Ext.rfl'.drew
            have hB9 : Blk w8.drew r 24 #[.int .i64 bv, .slice A acc.length c] := HB8.out.keep (HEX.out.block r HB8.out.lt)
            have hP9 := HP8.out.ext HEX.out
            have hL9 := rowln_ext HLN8.out HEX.out
            have hE9 := Ext.trans HE8.out HEX.out
            refine wp_region_lexS (C := InX w8.drew [r]) (by kernel_rfl) (by kernel_rfl) (inX_self _ _) ?_
            generalize w8.drew = w9 at *
            obtain ⟨⟨z0, z1, z2⟩, -, -, -⟩ := hP9.cells
            have HB9 := Lib.hid hB9
            obtain ⟨b0, b1, -, -, -⟩ := blk2 hB9
            have zz1 := fun z : ExtX w9 [r] => z.cell (p := ⟨g, 1, none⟩) z1 (by simp; omega)
            have zz2 := fun z : ExtX w9 [r] => z.cell (p := ⟨g, 2, none⟩) z2 (by simp; omega)
            have HE9 := Lib.hid hE9
            have HL9 := Lib.hid hL9
            clear z0 z1 z2 b0 b1 hE9 hL9 hP9 hB9
            repeat (refine lexAt_still (by rfl) ?_; go_big_quiet_step (fail); refine wpQuiet_nil ?_)
            obtain ⟨c0, c1, f0, f1, cl⟩ := blk2 HB9.out
            refine lexAt_move (by rfl) (by kernel_rfl) ?_
            go_wp2_with fail
            have hBf : Blk ((w9.setCell ⟨r, 0, none⟩ (.int .i64 0)).setCell ⟨r, 1, none⟩ (.slice none 0 0)) r 24 #[.int .i64 0, .slice none 0 0] := (HB9.out.put 0 _).put 1 _
            refine And.intro (inX_put (inX_put (inX_self _ _) (p := ⟨r, 0, none⟩) (.inl (by simp)) _) (p := ⟨r, 1, none⟩) (.inl (by simp)) _) ?_
            have hEf : Ext w ((w9.setCell ⟨r, 0, none⟩ (.int .i64 0)).setCell ⟨r, 1, none⟩ (.slice none 0 0)) := (((Touch.refl r w9).set 0 _).set 1 _).ext w HE9.out (by rw [HR.out]; exact Nat.le_refl _)
            have hLf : LinesAt ((w9.setCell ⟨r, 0, none⟩ (.int .i64 0)).setCell ⟨r, 1, none⟩ (.slice none 0 0)) A acc.length acc := (rowln_touch HL9.out (((Touch.refl r w9).set 0 _).set 1 _) (by omega)).at
            have HBf := Lib.hid hBf
            have HEf := Lib.hid hEf
            have HLf := Lib.hid hLf
            clear hBf hEf hLf c0 c1 f0 f1 cl
            repeat (refine lexAt_still (by rfl) ?_; go_big_quiet_step (fail); refine wpQuiet_nil ?_)
            refine lexAt_nil ?_
            clear zz1 zz2
            generalize ((w9.setCell ⟨r, 0, none⟩ (.int .i64 0)).setCell ⟨r, 1, none⟩ (.slice none 0 0)) = wf at *
            go_wp2_with fail
            obtain ⟨c0, c1, f0, f1, cl⟩ := blk2 HBf.out
            refine bodyPost_ret (v := .tuple #[.agg #[.int .i64 0, .slice none 0 0], .int .i64 0, .int .i64 ec]) (by simp [results, Tryz.results12, go_sem, c0, c1]) rfl ?_
            rw [HRES.out]
            exact ⟨_, _, rfl, ⟨rfl, fun h => absurd h (by simp)⟩, HEf.out⟩
          · subst hec
            have HRES : Hid (NF = ⟨bv, acc, k6, 0⟩) := by unfold Hid; rw [HN2.out, if_neg (by simp)]
            clear HN2
            go_wp2_with fail
            clear p0 p1 p2 q1 q2 pl
            generalize (w7.setCell ⟨g, 2, none⟩ (.int .i64 0)) = w8 at *
            have HEX : Hid (Ext w8 w8.drew) := Ext.rfl'.drew
            have hB9 : Blk w8.drew r 24 #[.int .i64 bv, .slice A acc.length c] := HB8.out.keep (HEX.out.block r HB8.out.lt)
            have hP9 := HP8.out.ext HEX.out
            have hL9 := rowln_ext HLN8.out HEX.out
            have hE9 := Ext.trans HE8.out HEX.out
            refine wp_region_lexS (C := InX w8.drew []) (by kernel_rfl) (by kernel_rfl) (inX_self _ _) ?_
            generalize w8.drew = w9 at *
            obtain ⟨⟨z0, z1, z2⟩, -, -, -⟩ := hP9.cells
            have HB9 := Lib.hid hB9
            obtain ⟨b0, b1, -, -, -⟩ := blk2 hB9
            have zz1 := fun z : ExtX w9 [] => z.cell (p := ⟨g, 1, none⟩) z1 (by simp)
            have zz2 := fun z : ExtX w9 [] => z.cell (p := ⟨g, 2, none⟩) z2 (by simp)
            have bb0 := fun z : ExtX w9 [] => z.cell (p := ⟨r, 0, none⟩) b0 (by simp)
            have bb1 := fun z : ExtX w9 [] => z.cell (p := ⟨r, 1, none⟩) b1 (by simp)
            have HE9 := Lib.hid hE9
            have HL9 := Lib.hid hL9
            clear z0 z1 z2 b0 b1 hE9 hL9 hP9 hB9
            repeat (refine lexAt_still (by rfl) ?_; go_big_quiet_step (fail); refine wpQuiet_nil ?_)
            obtain ⟨c0, c1, f0, f1, cl⟩ := blk2 HB9.out
            refine lexAt_move (by rfl) (by kernel_rfl) ?_
            go_wp2_with fail
            have hBf : Blk ((w9.setCell ⟨r, 0, none⟩ (.int .i64 bv)).setCell ⟨r, 1, none⟩ (.slice A acc.length c)) r 24 #[.int .i64 bv, .slice A acc.length c] := (HB9.out.put 0 _).put 1 _
            have hsame : InX w9 [] ((w9.setCell ⟨r, 0, none⟩ (.int .i64 bv)).setCell ⟨r, 1, none⟩ (.slice A acc.length c)) := ⟨⟨_, by simp [World.setCell], fun x hx _ => by
              by_cases e : x = r
              · rw [e]; exact hBf.trans HB9.out.symm
              · exact (((Touch.refl r w9).set 0 _).set 1 _).block x e⟩, rfl⟩
            refine And.intro hsame ?_
            have hEf : Ext w ((w9.setCell ⟨r, 0, none⟩ (.int .i64 bv)).setCell ⟨r, 1, none⟩ (.slice A acc.length c)) := (((Touch.refl r w9).set 0 _).set 1 _).ext w HE9.out (by rw [HR.out]; exact Nat.le_refl _)
            have hLf : LinesAt ((w9.setCell ⟨r, 0, none⟩ (.int .i64 bv)).setCell ⟨r, 1, none⟩ (.slice A acc.length c)) A acc.length acc := (rowln_touch HL9.out (((Touch.refl r w9).set 0 _).set 1 _) (by omega)).at
            have HBf := Lib.hid hBf
            have HEf := Lib.hid hEf
            have HLf := Lib.hid hLf
            clear hBf hEf hLf c0 c1 f0 f1 cl hsame
            repeat (refine lexAt_still (by rfl) ?_; go_big_quiet_step (fail); refine wpQuiet_nil ?_)
            refine lexAt_nil ?_
            clear zz1 zz2 bb0 bb1
            generalize ((w9.setCell ⟨r, 0, none⟩ (.int .i64 bv)).setCell ⟨r, 1, none⟩ (.slice A acc.length c)) = wf at *
            go_wp2_with fail
            obtain ⟨c0, c1, f0, f1, cl⟩ := blk2 HBf.out
            refine bodyPost_ret (v := .tuple #[.agg #[.int .i64 bv, .slice A acc.length c], .int .i64 k6, .int .i64 0]) (by simp [results, Tryz.results12, go_sem, c0, c1]) rfl ?_
            rw [HRES.out]
            exact ⟨_, _, rfl, HLf.out, HEf.out⟩
      · skip
        obtain ⟨f, rfl⟩ : ∃ f', f = f' + 1 := ⟨f - 1, by have := more_dec HMB.out; have := HF.out; omega⟩
        have HDEC := Lib.hid (more_dec HMB.out)
        have HSPEC := Lib.hid (more_spec HMB.out)
        have HL2 : Hid (linesP s.data.toList f (lineP s.data.toList p) (acc ++ [lineV s.data.toList p]) = PF) := by unfold Hid; rw [← linesP_more HMB.out]; exact HL.out
        clear HL HMB p0 p1 p2 q1 q2 pl
        have hrow : ∀ x, v.ownBlock = some x → x ≠ r ∧ B ≤ x ∧ x < wp.heap.size := fun x hx => ⟨fun e => own_ne HRow.out (g := r) (cs := #[.int .i64 bv, v]) HB.out (by decide) (by rw [hx, e]), (HRow.out |> fun h => (own_lt h hx).2), (own_lt HRow.out hx).1⟩
        have HROWB := Lib.hid hrow
        clear hrow
        have hX : r ∉ g :: v.ownBlock.toList := by
          simp only [List.mem_cons, Option.mem_toList, not_or]
          exact ⟨by omega, fun h => (HROWB.out r h).1 rfl⟩
        have HXR := Lib.hid hX
        clear hX
        go_wp2_with fail
        have HEX : Hid (Ext wp wp.drew) := Ext.rfl'.drew
        have hB9 : Blk wp.drew r 24 #[.int .i64 bv, v] := HB.out.keep (HEX.out.block r HB.out.lt)
        have hP9 := HP.out.ext HEX.out
        have hR9 := rowln_ext HRow.out HEX.out
        have hE9 := Ext.trans HE.out HEX.out
        have hS9 : B ≤ wp.drew.heap.size := Nat.le_trans HBS.out HEX.out.size
        refine wp_region_lexS (C := InX wp.drew (g :: v.ownBlock.toList)) (by kernel_rfl) (by kernel_rfl) (inX_self _ _) ?_
        generalize wp.drew = w9 at *
        have HB9 := Lib.hid hB9
        have HP9 := Lib.hid hP9
        have HR9 := Lib.hid hR9
        have HE9 := Lib.hid hE9
        have HS9 := Lib.hid hS9
        obtain ⟨b0, b1, -, -, -⟩ := blk2 hB9
        clear hB9 hP9 hR9 hE9 hS9
        have bb1 := fun z : ExtX w9 (g :: v.ownBlock.toList) => z.cell (p := ⟨r, 1, none⟩) b1 HXR.out
        clear b0 b1
        repeat (refine lexAt_still (by rfl) ?_; go_big_quiet_step (fail); refine wpQuiet_nil ?_)
        refine lexAt_move (by rfl) (by kernel_rfl) ?_
        go_wp2_with fail
        obtain ⟨z, hz⟩ : ∃ z, lineV s.data.toList p = z := ⟨_, rfl⟩
        rw [hz] at HL2
        refine (nline_any g s p z w9 HP9.out HS.out hz).mono ?_
        rintro e w10 ⟨rfl, hp, hm⟩
        clear hz
        have HLC : Hid (lnCell z = [.int .i64 (z.getD 0 0), .int .i64 (z.getD 1 0), .int .i64 (z.getD 2 0), .int .i64 (z.getD 3 0)]) := rfl
        generalize z.getD 0 0 = u0 at *
        generalize z.getD 1 0 = u1 at *
        generalize z.getD 2 0 = u2 at *
        generalize z.getD 3 0 = u3 at *
        go_wp2_with fail
        have hC : InX w9 (g :: v.ownBlock.toList) w10 := inX_grown (inX_self _ _) hm (fun x e => by injection e with e; subst e; simp)
        refine And.intro hC ?_
        have HC10 := Lib.hid hC
        clear hC
        have HP10 := Lib.hid hp
        have HM10 := Lib.hid hm
        have HB10 := Lib.hid (blk_mv HB9.out hm (by omega))
        have HR10 := Lib.hid (rowln_mv HR9.out hm (by omega))
        have HE10 := Lib.hid (Mv.ext hm HE9.out (by rw [HR.out]; omega))
        have HS10 : Hid (B ≤ w10.heap.size) := Nat.le_trans HS9.out hm.size
        clear hp hm
        repeat (refine lexAt_still (by rfl) ?_; go_big_quiet_step (fail); refine wpQuiet_nil ?_)
        refine lexAt_move (by rfl) (by kernel_rfl) ?_
        go_wp2_with fail
        refine And.intro (inX_ext HC10.out (Ext.al Ext.rfl' _)) ?_
        have hE11 : Ext w10 (w10.alloc (.cells #[.int .i64 u0, .int .i64 u1, .int .i64 u2, .int .i64 u3] 46)) := Ext.al Ext.rfl' _
        have hN11 : Blk (w10.alloc (.cells #[.int .i64 u0, .int .i64 u1, .int .i64 u2, .int .i64 u3] 46)) w10.heap.size 46 #[.int .i64 u0, .int .i64 u1, .int .i64 u2, .int .i64 u3] := Blk.new w10 _ _
        obtain ⟨ng, hng⟩ : ∃ g, w10.heap.size = g := ⟨_, rfl⟩
        rw [hng] at hN11 ⊢
        clear hng
        have HC11 := Lib.hid (inX_ext HC10.out hE11)
        have HP11 := Lib.hid (HP10.out.ext hE11)
        have HB11 := Lib.hid (HB10.out.keep (hE11.block r HB10.out.lt))
        have HR11 := Lib.hid (rowln_ext HR10.out hE11)
        have HE11 := Lib.hid (Ext.trans HE10.out hE11)
        have HS11 : Hid (B ≤ (w10.alloc (.cells #[.int .i64 u0, .int .i64 u1, .int .i64 u2, .int .i64 u3] 46)).heap.size) := Nat.le_trans HS10.out hE11.size
        clear hE11 HP10 HB10 HR10 HE10 HS10 HC10 HM10
        generalize (w10.alloc (.cells #[.int .i64 u0, .int .i64 u1, .int .i64 u2, .int .i64 u3] 46)) = w11 at *
        have HN11 := Lib.hid hN11
        clear hN11
        repeat (refine lexAt_still (by rfl) ?_; go_big_quiet_step (fail); refine wpQuiet_nil ?_)
        have hacc : acc.length ≤ 65538 := by have := HAF.out; have := HSPEC.out.2.2.2; omega
        have hnw : ∀ j u, ([.int .i64 u0, .int .i64 u1, .int .i64 u2, .int .i64 u3] : List Value)[j]? = some u → w11.cell? ((⟨ng, 0, none⟩ : Addr).add j) = some u := fun j u hj => by
          have hadd : (⟨ng, 0, none⟩ : Addr).add j = ⟨ng, j, none⟩ := by by_cases h : j = 0 <;> simp [Addr.add, h]
          rw [hadd, HN11.out.cell]
          simpa using hj
        have HNW := Lib.hid hnw
        clear hnw
        refine lexAt_move (by rfl) (by kernel_rfl) ?_
        refine wpList_append_own _ rfl (.tmp 33) (.tmp 36) 22 rfl B 46 i0 _ 4 32 Tryz.underlying22 hi hz0 hz1 hz2 rfl (by omega) v acc.length (lnCells acc) rfl HR11.out ⟨ng, 0, none⟩ 1 1 [.int .i64 u0, .int .i64 u1, .int .i64 u2, .int .i64 u3] rfl rfl HNW.out (by simp [Value.oneCell']) (by unfold maxLen; omega) (by omega) HS11.out ?_
        intro v2 w12 hown hg hv2
        go_wp2_with fail
        have hrow2 : RowLn w12 B v2 (acc ++ [z]) := by
          unfold RowLn
          rw [show lnCells (acc ++ [z]) = lnCells acc ++ lnCell z by simp [lnCells], List.length_append, HLC.out]
          exact hown
        have hC12 := inX_grown HC11.out hg (fun x e => by simp [e])
        refine And.intro hC12 ?_
        have HB12 := Lib.hid (HB11.out.keep (hg.block r HB11.out.lt (fun e => (HROWB.out r e.symm).1 rfl)))
        have HP12 : Hid (PAt w12 g s (lineP s.data.toList p)) := (hg.block g HP11.out.blk.lt (fun e => by have := (HROWB.out g e.symm).2.1; omega)).trans HP11.out
        have HE12 : Hid (Ext w w12) := ext_grownW HE11.out hg (fun x e => by have := (HROWB.out x e).2.1; rw [HR.out]; omega)
        have HS12 : Hid (B ≤ w12.heap.size) := Nat.le_trans HS11.out hg.size
        obtain ⟨A2, c2, hv2e, -⟩ := hrow2.lines
        rw [show (acc ++ [z]).length = acc.length + 1 by simp] at hv2e
        subst hv2e
        have HR12 := Lib.hid hrow2
        clear hrow2 hC12 hown hg hv2 HB11 HP11 HE11 HS11 HR11 HC11 HNW HN11
        repeat (refine lexAt_still (by rfl) ?_; go_big_quiet_step (fail); refine wpQuiet_nil ?_)
        obtain ⟨b0, b1, f0, f1, bl⟩ := blk2 HB12.out
        refine lexAt_last (by rfl) (by kernel_rfl) (by kernel_rfl) ?_
        go_wp2_with fail
        refine And.intro trivial (lexAt_nil ?_)
        clear bb1 b0 b1 f0 f1 bl
        have ht : Touch r w12 (w12.setCell ⟨r, 1, none⟩ (.slice A2 (acc.length + 1) c2)) := (Touch.refl r w12).set 1 _
        have HB13 := Lib.hid (HB12.out.put 1 (.slice A2 (acc.length + 1) c2))
        have HP13 := Lib.hid (HP12.out.touch ht (by omega))
        have HR13 := Lib.hid (rowln_touch HR12.out ht (by omega))
        have HE13 := Lib.hid (ht.ext w HE12.out (by rw [HR.out]; exact Nat.le_refl _))
        have HS13 : Hid (B ≤ (w12.setCell ⟨r, 1, none⟩ (.slice A2 (acc.length + 1) c2)).heap.size) := by unfold Hid; rw [ht.size]; exact HS12.out
        generalize w12.setCell ⟨r, 1, none⟩ (.slice A2 (acc.length + 1) c2) = w13 at *
        clear ht
        go_wp2_with fail
        go_roundw
        case rel => exact ⟨lineP s.data.toList p, acc ++ [z], _, f, HP13.out, HB13.out, HR13.out, HL2.out, by have := HDEC.out; have := HF.out; unfold Hid; omega, by have := HAF.out; unfold Hid; simp only [List.length_append, List.length_singleton]; omega, fun _ => HSPEC.out.2.2.2, HE13.out, HS13.out⟩
        case measure =>
          rw [HP13.out.of, HME.out]
          exact HDEC.out
end Go.Proofs.YtnofbjcikfofgaaGreat
