/- The contract of nettext.FormatNet. Printed by gen_txu.py. -/
import Derived.Test.YtnofbjcikfofgaaGreatTxA
namespace Go.Proofs.YtnofbjcikfofgaaGreat
open Go.RowKit
def lnTok (z : List Int) : List Tok := [tokO, tokW [108, 105, 110, 101], numT (z.getD 0 0), numT (z.getD 1 0), numT (z.getD 2 0), numT (z.getD 3 0), tokC]
def netToks (b : Int) (ls : List (List Int)) : List Tok := tokO :: tokW [110, 101, 116] :: numT b :: (ls.flatMap lnTok ++ [tokC])
def netT (b : Int) (ls : List (List Int)) : Bs × Int := if netC b ls = 0 then (fmtT (netToks b ls), 0) else ([], netC b ls)
theorem lnOk_i64 {b : Int} {z : List Int} (hb : 1 ≤ b ∧ b ≤ 6) (h : lnOk b z = true) : I64r (z.getD 0 0) ∧ I64r (z.getD 1 0) ∧ I64r (z.getD 2 0) ∧ I64r (z.getD 3 0) := by
  unfold lnOk lnC inB at h
  simp only [Bool.and_eq_true, decide_eq_true_eq] at h
  obtain ⟨⟨h1, h2⟩, ⟨h3, h4⟩, -, ⟨h5, h6⟩, h7, h8⟩ := h
  exact ⟨⟨by omega, by omega⟩, ⟨by omega, by omega⟩, ⟨by omega, by omega⟩, ⟨by omega, by omega⟩⟩
theorem netC_ok {b : Int} {ls : List (List Int)} (h : netC b ls = 0) : (1 ≤ b ∧ b ≤ 6) ∧ ls.length ≤ 10 ∧ ∀ z ∈ ls, lnOk b z = true := by
  unfold netC at h
  by_cases h1 : b < 1 ∨ 6 < b
  · rw [if_pos h1] at h; cases h
  · rw [if_neg h1] at h
    by_cases h2 : 10 < ls.length
    · rw [if_pos h2] at h; cases h
    · rw [if_neg h2] at h
      by_cases h3 : ls.all (lnOk b) = true
      · exact ⟨by omega, by omega, List.all_eq_true.1 h3⟩
      · rw [if_neg h3] at h; cases h
theorem lnToks_len (ls : List (List Int)) : (ls.flatMap lnTok).length = ls.length * 7 := by
  induction ls with
  | nil => rfl
  | cons z r ih => rw [List.flatMap_cons, List.length_append, ih, List.length_cons]; simp [lnTok]; omega
theorem net_good {b : Int} {ls : List (List Int)} (h : netC b ls = 0) : ∀ t ∈ netToks b ls, GoodT t ∧ (pieceT t).length ≤ 20 := by
  obtain ⟨hb, -, hl⟩ := netC_ok h
  have hO : GoodT tokO ∧ (pieceT tokO).length ≤ 20 := ⟨.inl rfl, by simp [pieceT, tokO]⟩
  have hC : GoodT tokC ∧ (pieceT tokC).length ≤ 20 := ⟨.inr (.inl rfl), by simp [pieceT, tokC]⟩
  have hN : ∀ z, I64r z → GoodT (numT z) ∧ (pieceT (numT z)).length ≤ 20 := fun z hz => ⟨good_num hz, piece_num hz⟩
  intro t ht
  unfold netToks at ht
  rcases List.mem_cons.1 ht with rfl | ht
  · exact hO
  rcases List.mem_cons.1 ht with rfl | ht
  · exact ⟨.inr (.inr (.inl ⟨_, rfl, by decide +kernel⟩)), by simp [pieceT, tokW]⟩
  rcases List.mem_cons.1 ht with rfl | ht
  · exact hN b ⟨by omega, by omega⟩
  rcases List.mem_append.1 ht with ht | ht
  · obtain ⟨z, hz, ht⟩ := List.mem_flatMap.1 ht
    obtain ⟨h0, h1, h2, h3⟩ := lnOk_i64 hb (hl z hz)
    simp only [lnTok, List.mem_cons, List.not_mem_nil, or_false] at ht
    rcases ht with rfl | rfl | rfl | rfl | rfl | rfl | rfl
    · exact hO
    · exact ⟨.inr (.inr (.inl ⟨_, rfl, by decide +kernel⟩)), by simp [pieceT, tokW]⟩
    · exact hN _ h0
    · exact hN _ h1
    · exact hN _ h2
    · exact hN _ h3
    · exact hC
  · obtain rfl : t = tokC := by simpa using ht
    exact hC
/-- The tokens behind k lines. -/
def netPre (b : Int) (ls : List (List Int)) (k : Nat) : List Tok := tokO :: tokW [110, 101, 116] :: numT b :: (ls.take k).flatMap lnTok
theorem netPre_len {b : Int} {ls : List (List Int)} {k : Nat} (h : k ≤ ls.length) : (netPre b ls k).length = k * 7 + 3 := by
  unfold netPre
  simp only [List.length_cons, lnToks_len, List.length_take]
  omega
theorem netPre_step {b : Int} {ls : List (List Int)} {k : Nat} (h : k < ls.length) : netPre b ls (k + 1) = netPre b ls k ++ lnTok (ls.getD k []) := by
  unfold netPre
  rw [List.take_succ_eq_append_getElem h, List.flatMap_append]
  simp [List.getD, List.getElem?_eq_getElem h]
theorem netPre_all {b : Int} {ls : List (List Int)} : netPre b ls ls.length ++ [tokC] = netToks b ls := by
  unfold netPre netToks
  rw [List.take_of_length_le (Nat.le_refl _)]
  simp
set_option maxRecDepth 100000 in
set_option maxHeartbeats 16000000 in
theorem fmtnet_any (b : Int) (P : Option Addr) (n c : Nat) (ls : List (List Int)) (w : World) (h : LinesAt w P n ls) (hn : n ≤ 1000000) :
    Calls Tryz.prog 7 #[.agg #[.int .i64 b, .slice P n c]] w fun e w' => e = .returned (.tuple #[.string (bs (netT b ls).1), .int .i64 (netT b ls).2]) ∧ Ext w w' := by
  obtain ⟨X, hX⟩ : ∃ X, netT b ls = X := ⟨_, rfl⟩
  rw [hX]
  have HX := Lib.hid hX
  have H := Lib.hid h
  have HLN := Lib.hid h.1
  clear hX h
  go_enter Tryz.func7, Tryz.ntmps7
  go_wp2_with fail
  have hE0 : Ext w (w.alloc (.cells #[.int .i64 b, .slice P n c] 24)) := Ext.al Ext.rfl' _
  have hk2 := Cell2.new w _ rfl (.int .i64 b) (.slice P n c) 24
  have hsz : w.heap.size < (w.alloc (.cells #[.int .i64 b, .slice P n c] 24)).heap.size := by simp
  obtain ⟨B, hB⟩ : ∃ B, w.heap.size = B := ⟨_, rfl⟩
  generalize (w.alloc (.cells #[.int .i64 b, .slice P n c] 24)) = w0 at *
  rw [hB] at hk2 hsz ⊢
  have HBW := Lib.hid hB
  have HSZ := Lib.hid hsz
  have HE0 := Lib.hid hE0
  have HK := Lib.hid hk2
  clear hB hsz hE0 hk2
  obtain ⟨c0, c1, -, -, -⟩ := HK.out
  go_wp2_with fail
  clear c0 c1
  refine (ncheck_any b P n c ls w0 (H.out.ext HE0.out) hn).mono ?_
  rintro e w1 ⟨rfl, hE1⟩
  have HK1 := Lib.hid (HK.out.ext hE1)
  have HE1 : Hid (Ext w w1) := Ext.trans HE0.out hE1
  have HSZ1 : Hid (B < w1.heap.size) := Nat.lt_of_lt_of_le HSZ.out hE1.size
  clear hE1
  by_cases hc : netC b ls = 0
  rotate_left
  · have HR : Hid (([], netC b ls) = X) := by unfold Hid; rw [← HX.out]; unfold netT; rw [if_neg hc]
    generalize netC b ls = nc at *
    have hcb : (nc != 0) = true := by simp [hc]
    clear hc
    go_wp2_with fail
    go_ret2
    exact ⟨by rw [← HR.out]; rfl, HE1.out⟩
  · have HR : Hid ((fmtT (netToks b ls), 0) = X) := by unfold Hid; rw [← HX.out]; unfold netT; rw [if_pos hc]
    rw [hc]
    have HC := Lib.hid hc
    have HN10 : Hid (n ≤ 10) := by have := (netC_ok hc).2.1; have := HLN.out; unfold Hid; omega
    clear hc
    obtain ⟨c0, c1, -, -, -⟩ := HK1.out
    go_wp2_with fail
    clear c0 c1
    have hI := ints_lit w1 #[.int .i64 b] 2 [b] rfl
    have hz : ∀ i, i < 1 → I64r (([b] : List Int).getD i 0) := fun i hi => by
      have := (netC_ok HC.out).1
      match i, hi with
      | 0, _ => exact ⟨by show _ ≤ b; omega, by show b ≤ _; omega⟩
    refine (group_any _ _ 1 _ [b] _ hI hz (by omega)).mono ?_
    rintro e w2 ⟨⟨v, rfl, hrow⟩, hE2⟩
    have hE12 := Ext.trans (Ext.al (Ext.rfl' (w := w1)) (.cells #[.int .i64 b] 2)) hE2
    have HE2 : Hid (Ext w w2) := Ext.trans HE1.out hE12
    have HK2 := Lib.hid (HK1.out.ext hE12)
    clear hI hz
    obtain ⟨g, cap, rfl, hg1, hg2⟩ := hrow.some (n := 3) rfl (by omega)
    obtain ⟨G, hG⟩ : ∃ G, (w1.alloc (.cells #[.int .i64 b] 2)).heap.size = G := ⟨_, rfl⟩
    rw [hG] at hrow hg1
    have HROW : Hid (RowT w2 G (.slice (some ⟨g, 0, none⟩) (0 * 7 + 3) cap) (netPre b ls 0)) := hrow
    have HGB : Hid (B ≤ G) := by have := HSZ1.out; unfold Hid; rw [← hG]; simp; omega
    have HGL : Hid (G ≤ w2.heap.size) := by unfold Hid; omega
    clear hrow hg1 hg2 hG hE2 hE12
    obtain ⟨c0, c1, -, -, -⟩ := HK2.out
    go_wp2_with fail
    clear c0 c1
    go_loopw [5, 20] (fun v i wr => ∃ (k cap g : Nat), k ≤ n ∧ i = .int .i64 (k : Int) ∧ v = .slice (some ⟨g, 0, none⟩) (k * 7 + 3) cap ∧ Hid (RowT wr G (.slice (some ⟨g, 0, none⟩) (k * 7 + 3) cap) (netPre b ls k)) ∧ Hid (Ext w wr) ∧ Hid (G ≤ wr.heap.size)) (fun _ i _ => n - (intOf i).toNat)
    case atStart => exact ⟨0, cap, g, by omega, rfl, rfl, HROW, HE2, HGL⟩
    case round =>
      obtain ⟨k, cap, g, hk, rfl, rfl, HROWR, HER, HGR⟩ := hrel
      by_cases hlt : k < n
      · have hbv : decide ((k : Int) < (n : Int)) = true := by simp; omega
        have hbv2 : decide (k < n) = true := by simp; omega
        have hz0 : (0 : Int) ≤ (k : Int) := by omega
        have hzn : (k : Int) < (n : Int) := by omega
        have HST := Lib.hid (netPre_step (b := b) (ls := ls) (k := k) (by rw [HLN.out]; exact hlt))
        have HLOK := Lib.hid (lnOk_i64 (netC_ok HC.out).1 ((netC_ok HC.out).2.2 (ls.getD k []) (by
          have hk2 : k < ls.length := by rw [HLN.out]; exact hlt
          rw [show ls.getD k [] = ls[k] by simp [List.getD, List.getElem?_eq_getElem hk2]]
          exact List.getElem_mem hk2)))
        obtain ⟨lb, lo, rfl, hlb, hlc⟩ := (H.out.ext HER.out).2 (by omega)
        obtain ⟨y0, y1, y2, y3⟩ := hlc k hlt
        obtain ⟨z, hz⟩ : ∃ z, ls.getD k [] = z := ⟨_, rfl⟩
        rw [hz] at y0 y1 y2 y3 HST HLOK
        have HZL : Hid (lnTok z = [tokO, tokW [108, 105, 110, 101], numT (z.getD 0 0), numT (z.getD 1 0), numT (z.getD 2 0), numT (z.getD 3 0)] ++ [tokC]) := rfl
        clear hz hlc
        generalize z.getD 0 0 = z0 at *
        generalize z.getD 1 0 = z1 at *
        generalize z.getD 2 0 = z2 at *
        generalize z.getD 3 0 = z3 at *
        have HW4 := Lib.hid (Cell4.new wr _ rfl (.int .i64 z0) (.int .i64 z1) (.int .i64 z2) (.int .i64 z3) 46)
        have HEW := Lib.hid (show Ext wr (wr.alloc (.cells #[.int .i64 z0, .int .i64 z1, .int .i64 z2, .int .i64 z3] 46)) from Ext.al Ext.rfl' _)
        go_wp2_with fail
        have hEW := HEW.out
        clear y0 y1 y2 y3 HW4 HEW
        have hI : IntsAt ((wr.alloc (.cells #[.int .i64 z0, .int .i64 z1, .int .i64 z2, .int .i64 z3] 46)).alloc (.cells #[.int .i64 z0, .int .i64 z1, .int .i64 z2, .int .i64 z3] 2)) (some ⟨wr.heap.size + 1, 0, none⟩) 4 [z0, z1, z2, z3] := by
          have := ints_lit (wr.alloc (.cells #[.int .i64 z0, .int .i64 z1, .int .i64 z2, .int .i64 z3] 46)) #[.int .i64 z0, .int .i64 z1, .int .i64 z2, .int .i64 z3] 2 [z0, z1, z2, z3] rfl
          have e : (wr.alloc (.cells #[.int .i64 z0, .int .i64 z1, .int .i64 z2, .int .i64 z3] 46)).heap.size = wr.heap.size + 1 := by simp
          rw [e] at this
          exact this
        have hz : ∀ i, i < 4 → I64r (([z0, z1, z2, z3] : List Int).getD i 0) := fun i hi => by
          obtain ⟨h0, h1, h2, h3⟩ := HLOK.out
          match i, hi with
          | 0, _ => exact h0
          | 1, _ => exact h1
          | 2, _ => exact h2
          | 3, _ => exact h3
        refine (group_any _ _ 4 _ [z0, z1, z2, z3] _ hI hz (by omega)).mono ?_
        rintro e w3 ⟨⟨v, rfl, hrow⟩, hE3⟩
        have hE13 := Ext.trans hEW (Ext.trans (Ext.al (Ext.rfl' (w := (wr.alloc (.cells #[.int .i64 z0, .int .i64 z1, .int .i64 z2, .int .i64 z3] 46)))) (.cells #[.int .i64 z0, .int .i64 z1, .int .i64 z2, .int .i64 z3] 2)) hE3)
        have HE3 : Hid (Ext w w3) := Ext.trans HER.out hE13
        have HROW3 := Lib.hid (HROWR.out.ext hE13)
        have HG3 : Hid (G ≤ w3.heap.size) := Nat.le_trans HGR.out hE13.size
        clear hI hz
        obtain ⟨g2, cap2, rfl, hg1, hg2⟩ := hrow.some (n := 6) rfl (by omega)
        obtain ⟨B2, hB2⟩ : ∃ x, ((wr.alloc (.cells #[.int .i64 z0, .int .i64 z1, .int .i64 z2, .int .i64 z3] 46)).alloc (.cells #[.int .i64 z0, .int .i64 z1, .int .i64 z2, .int .i64 z3] 2)).heap.size = x := ⟨_, rfl⟩
        rw [hB2] at hrow hg1
        have HB2 : Hid (wr.heap.size ≤ B2) := by unfold Hid; rw [← hB2]; simp; omega
        obtain ⟨cs2, hown2, htk2⟩ := hrow
        have HNW3 := Lib.hid (fun j u (hj : cs2[j]? = some u) => hown2.cells (g := g2) rfl j u hj)
        have HTC3 : Hid (TokCs w3 G (some g) [tokO, tokW [108, 105, 110, 101], numT z0, numT z1, numT z2, numT z3] cs2) := by
          refine TokCs.grown (World.grownBy.refl w3 _) (by have := HB2.out; have := HGR.out; omega) (fun x hx _ _ e => ?_) htk2
          injection e with e
          obtain ⟨cs, ho, _⟩ := HROWR.out
          have := (own_lt ho (g := g) rfl).1
          have := HB2.out
          omega
        have HL3 : Hid ((netPre b ls k).length = k * 7 + 3) := netPre_len (by have := HLN.out; omega)
        have hk10 : k ≤ 10 := by have := HN10.out; omega
        clear hown2 htk2 hg1 hg2 hB2 hE3 hE13 hEW
        go_wp2_with (
          at_builtin
          first
          | refine wpList_append_toks _ rfl (.tmp 24) (.tmp 34) rfl G (k * 7 + 3) 6 (.slice (some ⟨g, 0, none⟩) (k * 7 + 3) cap) _ [tokO, tokW [108, 105, 110, 101], numT z0, numT z1, numT z2, numT z3] cs2 rfl HROW3.out HL3.out ⟨g2, 0, none⟩ cap2 rfl rfl HNW3.out HTC3.out (by omega) (by omega) HG3.out ?_
            intro g5 cap5 w5 hr5 hgr
            have HR5 := Lib.hid hr5
            have HE5 : Hid (Ext w w5) := ext_grownW HE3.out hgr (fun x e => by
              obtain ⟨cs, ho, _⟩ := HROW3.out
              have := (own_lt ho (g := x) e).2
              have := HBW.out
              have := HGB.out
              omega)
            have HG5 : Hid (G ≤ w5.heap.size) := Nat.le_trans HG3.out hgr.size
            have HLm : Hid ((netPre b ls k ++ [tokO, tokW [108, 105, 110, 101], numT z0, numT z1, numT z2, numT z3]).length = k * 7 + 3 + 6) := by unfold Hid; rw [List.length_append, HL3.out]; rfl
            clear hr5 hgr
            have HEma : Hid (Ext w (w5.alloc (.cells #[.int .u8 2, .string ⟨#[]⟩, .bool false, .slice none 0 0, .bool false, .slice none 0 0] 53))) := Ext.trans HE5.out (Ext.al Ext.rfl' _)
            have HRma := Lib.hid (HR5.out.ext (Ext.al (Ext.rfl' (w := w5)) (.cells #[.int .u8 2, .string ⟨#[]⟩, .bool false, .slice none 0 0, .bool false, .slice none 0 0] 53)))
            have HNWm := Lib.hid (World.news_of_block (cs := #[.int .u8 2, .string ⟨#[]⟩, .bool false, .slice none 0 0, .bool false, .slice none 0 0]) (t := 53) (fr := (0, 0)) (heap_alloc_new w5 (.cells #[.int .u8 2, .string ⟨#[]⟩, .bool false, .slice none 0 0, .bool false, .slice none 0 0] 53)))
            have HGSm : Hid (G ≤ (w5.alloc (.cells #[.int .u8 2, .string ⟨#[]⟩, .bool false, .slice none 0 0, .bool false, .slice none 0 0] 53)).heap.size) := by have := HG5.out; unfold Hid; simp; omega
          | skip
            refine wpList_append_toks _ rfl (.tmp 36) (.tmp 38) rfl G (k * 7 + 3 + 6) 1 (.slice (some ⟨g5, 0, none⟩) (k * 7 + 3 + 6) cap5) _ [tokC] [.int .u8 2, .string ⟨#[]⟩, .bool false, .slice none 0 0, .bool false, .slice none 0 0] rfl HRma.out HLm.out ⟨w5.heap.size, 0, none⟩ 1 rfl rfl HNWm.out (close_tok _ _ _) (by omega) (by omega) HGSm.out ?_
            intro gm capm wm hr3 hgr
            have HRm := Lib.hid hr3
            have HEm : Hid (Ext w wm) := ext_grownW HEma.out hgr (fun x e => by
              obtain ⟨cs, ho, _⟩ := HRma.out
              have := (own_lt ho (g := x) e).2
              have := HBW.out
              have := HGB.out
              omega)
            have HGm : Hid (G ≤ wm.heap.size) := Nat.le_trans HGSm.out hgr.size
            clear hr3 hgr)
        go_roundw
        case rel =>
          refine ⟨k + 1, capm, gm, by omega, by go_num, by rw [show (k + 1) * 7 + 3 = k * 7 + 3 + 6 + 1 by omega], ?_, HEm.out, HGm.out⟩
          have := HRm.out
          rw [List.append_assoc, ← HZL.out, ← HST.out] at this
          rw [show (k + 1) * 7 + 3 = k * 7 + 3 + 6 + 1 by omega]
          exact this
        case measure => simp [intOf]; omega
      · obtain rfl : k = n := by omega
        have hbv : decide ((k : Int) < (k : Int)) = false := by simp
        have hbv2 : decide (k < k) = false := by simp
        have hk10 : k ≤ 10 := HN10.out
        have HLf : Hid ((netPre b ls k).length = k * 7 + 3) := netPre_len (by rw [HLN.out]; exact Nat.le_refl _)
        have HEfa : Hid (Ext w (wr.alloc (.cells #[.int .u8 2, .string ⟨#[]⟩, .bool false, .slice none 0 0, .bool false, .slice none 0 0] 53))) := Ext.trans HER.out (Ext.al Ext.rfl' _)
        have HRfa := Lib.hid (HROWR.out.ext (Ext.al (Ext.rfl' (w := wr)) (.cells #[.int .u8 2, .string ⟨#[]⟩, .bool false, .slice none 0 0, .bool false, .slice none 0 0] 53)))
        have HNWf := Lib.hid (World.news_of_block (cs := #[.int .u8 2, .string ⟨#[]⟩, .bool false, .slice none 0 0, .bool false, .slice none 0 0]) (t := 53) (fr := (0, 0)) (heap_alloc_new wr (.cells #[.int .u8 2, .string ⟨#[]⟩, .bool false, .slice none 0 0, .bool false, .slice none 0 0] 53)))
        have HGSf : Hid (G ≤ (wr.alloc (.cells #[.int .u8 2, .string ⟨#[]⟩, .bool false, .slice none 0 0, .bool false, .slice none 0 0] 53)).heap.size) := by have := HGR.out; unfold Hid; simp; omega
        go_wp2_with (
          at_builtin
          refine wpList_append_toks _ rfl (.tmp 41) (.tmp 43) rfl G (k * 7 + 3) 1 (.slice (some ⟨g, 0, none⟩) (k * 7 + 3) cap) _ [tokC] [.int .u8 2, .string ⟨#[]⟩, .bool false, .slice none 0 0, .bool false, .slice none 0 0] rfl HRfa.out HLf.out ⟨wr.heap.size, 0, none⟩ 1 rfl rfl HNWf.out (close_tok _ _ _) (by omega) (by omega) HGSf.out ?_
          intro gf capf wf hr3 hgr
          have HRf := Lib.hid hr3
          have HEf : Hid (Ext w wf) := ext_grownW HEfa.out hgr (fun x e => by
            obtain ⟨cs, ho, _⟩ := HRfa.out
            have := (own_lt ho (g := x) e).2
            have := HBW.out
            have := HGB.out
            omega)
          have HGf : Hid (G ≤ wf.heap.size) := Nat.le_trans HGSf.out hgr.size
          clear hr3 hgr)
        have HTK : Hid (netPre b ls k ++ [tokC] = netToks b ls) := by unfold Hid; rw [← HLN.out]; exact netPre_all
        have hrf := HRf.out
        rw [HTK.out] at hrf
        have hlf : (netToks b ls).length = k * 7 + 3 + 1 := by rw [← HTK.out, List.length_append, HLf.out]; rfl
        refine (tformat_row (r := (netToks b ls).tail) hrf rfl hlf (by omega) (net_good HC.out)).mono ?_
        rintro e w9 ⟨rfl, hE9⟩
        have HE9 : Hid (Ext w w9) := Ext.trans HEf.out hE9
        clear hE9 hrf hlf
        go_wp2_with fail
        go_ret2
        exact ⟨by rw [← HR.out]; rfl, HE9.out⟩
end Go.Proofs.YtnofbjcikfofgaaGreat
