/- The contracts of nettext.FormatOutage and FormatNet. Printed by gen_txa.py. -/
import Derived.Test.YtnofbjcikfofgaaGreatTxY
namespace Go.Proofs.YtnofbjcikfofgaaGreat
open Go.RowKit
theorem good_num {z : Int} (h : I64r z) : GoodT (numT z) := .inr (.inr (.inr ⟨z, rfl, Nat.le_trans (fmtN_len64 h) (by omega)⟩))
theorem piece_num {z : Int} (h : I64r z) : (pieceT (numT z)).length ≤ 20 := by
  show (fmtZ ((z : Rat).num)).length ≤ 20
  rw [Rat.num_intCast]
  exact fmtZ_len64 h
theorem spaced_len : ∀ (ts : List Tok) (b : Bool), (∀ t ∈ ts, (pieceT t).length ≤ 20) → (spell (spaced b ts)).length ≤ 21 * ts.length
  | [], _, _ => by simp [spaced, spell]
  | t :: r, b, h => by
    have h1 := spaced_len r (decide (t.kind = 1)) (fun x hx => h x (List.mem_cons_of_mem _ hx))
    have h2 := h t List.mem_cons_self
    have h3 : (sepT b t).length ≤ 1 := by unfold sepT; split <;> simp
    rw [spaced_cons, List.length_append, List.length_append, List.length_cons]
    omega
theorem fmt_ne (r : List Tok) : fmtT (tokO :: r) ≠ [] := by
  unfold fmtT
  rw [spaced_cons]
  simp [sepT, pieceT, tokO]
theorem ints_lit (w : World) (cs : Array Value) (t : TypeId) (zs : List Int) (h : cs = (zs.map (Value.int .i64)).toArray) : IntsAt (w.alloc (.cells cs t)) (some ⟨w.heap.size, 0, none⟩) zs.length zs := by
  refine ⟨rfl, fun hn => ⟨w.heap.size, 0, rfl, by simp, fun i hi => ?_⟩⟩
  have hb := Blk.new w t cs
  rw [Nat.zero_add, hb.cell, h]
  simp [List.getD, List.getElem?_eq_getElem hi]
theorem RowT.some {w : World} {B n : Nat} {v : Value} {ts : List Tok} (h : RowT w B v ts) (hn : ts.length = n) (h0 : 0 < n) : ∃ g cap, v = .slice (some ⟨g, 0, none⟩) n cap ∧ B ≤ g ∧ g < w.heap.size := by
  subst hn
  obtain ⟨cs, h1, h2⟩ := h
  rcases h1.2 with ⟨rfl, hz⟩ | ⟨g, cap, cur, rfl, hg, hb, _⟩
  · omega
  · exact ⟨g, cap, rfl, hg, (Array.getElem?_eq_some_iff.1 hb).1⟩
/-- append of tokens to a row of tokens. -/
theorem wpList_append_toks (w : World) {ops : Array Oper} {rest : List Oper} {o : Oper} {a : Act} {Q : Exit → Act → World → Prop} (hgd : o.guard = none) (s x : Operand)
    (ho : o.op = .call { callee := .builtin .append, args := #[s, x], argTypes := #[43, 43] })
    (B n m : Nat) (v : Value) (ts us : List Tok) (news : List Value) (hs : a.eval s = v) (hr : RowT w B v ts) (hn : ts.length = n) (ad : Addr) (c : Nat) (hx : a.eval x = .slice (some ad) m c) (hm : us.length = m)
    (hnews : ∀ j u, news[j]? = some u → w.cell? (ad.add j) = some u) (htc : TokCs w B v.ownBlock us news) (h0 : 0 < m) (hl : n + m ≤ 100000) (hB : B ≤ w.heap.size)
    (h : ∀ g cap w', RowT w' B (.slice (some ⟨g, 0, none⟩) (n + m) cap) (ts ++ us) → w.grownBy w' v.ownBlock → wpList Tryz.prog ops Q rest (a.put o.dst (.slice (some ⟨g, 0, none⟩) (n + m) cap)) w') :
    wpList Tryz.prog ops Q (o :: rest) a w := by
  obtain ⟨i0, hi, hz0, hz1, hz2⟩ := info_parts info_tok
  subst hn hm
  obtain ⟨cs, hown, hts⟩ := hr
  refine wpList_append_atW w hgd s x 43 ho B 53 i0 _ 6 88 Tryz.underlying43 hi hz0 hz1 hz2 rfl (by omega) v ts.length cs hs hown ad us.length c news hx htc.len hnews htc.one (.inr h0) (by unfold maxLen; omega) (by omega) hB ?_
  intro g cap w' h1 h2 h3
  exact h g cap w' (RowT.grow hts htc h1 h2 h3) h2
theorem close_tok (w : World) (B : Nat) (row : Option Nat) : TokCs w B row [tokC] [.int .u8 2, .string ⟨#[]⟩, .bool false, .slice none 0 0, .bool false, .slice none 0 0] := ⟨_, [], rfl, tokc_plain w B row 2 [], rfl⟩
def outName (kd : Int) : Bs := if kd = 1 then [112, 108, 97, 110] else if kd = 2 then [108, 111, 115, 115] else [116, 114, 105, 112]
def outToks (kd wh fr to_ : Int) : List Tok := [tokO, tokW (outName kd), numT wh, numT fr, numT to_, tokC]
def outT (kd wh fr to_ : Int) : Bs × Int := if kd = 1 ∨ kd = 2 ∨ kd = 3 then (if validO kd wh fr to_ then (fmtT (outToks kd wh fr to_), 0) else ([], 1)) else ([], 12)
theorem out_small {kd wh fr to_ : Int} (h : validO kd wh fr to_ = true) : I64r wh ∧ I64r fr ∧ I64r to_ := by
  unfold validO at h
  simp only [Bool.and_eq_true, decide_eq_true_eq] at h
  have : wh < 10 := by have := h.2.1; split at this <;> omega
  refine ⟨⟨by omega, by omega⟩, ⟨by omega, by omega⟩, ⟨by omega, by omega⟩⟩
theorem out_good {kd wh fr to_ : Int} (hk : kd = 1 ∨ kd = 2 ∨ kd = 3) (h : validO kd wh fr to_ = true) : ∀ t ∈ outToks kd wh fr to_, GoodT t ∧ (pieceT t).length ≤ 20 := by
  obtain ⟨h1, h2, h3⟩ := out_small h
  have hw : allC isLow (outName kd) = true ∧ (outName kd).length = 4 := by rcases hk with rfl | rfl | rfl <;> exact ⟨by decide +kernel, rfl⟩
  intro t ht
  simp only [outToks, List.mem_cons, List.not_mem_nil, or_false] at ht
  rcases ht with rfl | rfl | rfl | rfl | rfl | rfl
  · exact ⟨.inl rfl, by simp [pieceT, tokO]⟩
  · exact ⟨.inr (.inr (.inl ⟨_, rfl, hw.1⟩)), by simp [pieceT, tokW, hw.2]⟩
  · exact ⟨good_num h1, piece_num h1⟩
  · exact ⟨good_num h2, piece_num h2⟩
  · exact ⟨good_num h3, piece_num h3⟩
  · exact ⟨.inr (.inl rfl), by simp [pieceT, tokC]⟩
/-- token.Format at a row. -/
theorem tformat_row {w : World} {B n c : Nat} {g : Nat} {ts r : List Tok} (hr : RowT w B (.slice (some ⟨g, 0, none⟩) n c) ts) (he : ts = tokO :: r) (hn : ts.length = n) (hl : n ≤ 3000) (hg : ∀ t ∈ ts, GoodT t ∧ (pieceT t).length ≤ 20) :
    Calls Tryz.prog 20 #[.slice (some ⟨g, 0, none⟩) n c] w fun e w' => e = .returned (.tuple #[.string (bs (fmtT ts)), .int .i64 0]) ∧ Ext w w' := by
  obtain ⟨A, c2, e, ht⟩ := hr.toks
  injection e with e1 e2 e3
  subst e1 e3
  rw [hn] at ht
  refine tformat_any _ n _ ts w ht (by omega) (fun k hk => ?_) ?_ (by rw [he]; exact fmt_ne r)
  · have hk2 : k < ts.length := by omega
    have e4 : ts.getD k tok0 = ts[k] := by simp [List.getD, List.getElem?_eq_getElem hk2]
    rw [e4]
    exact (hg _ (List.getElem_mem hk2)).1
  · have := spaced_len ts true (fun t ht => (hg t ht).2)
    unfold fmtT
    omega
set_option maxRecDepth 100000 in
set_option maxHeartbeats 8000000 in
theorem fmtout_any (kd wh fr to_ : Int) (w : World) :
    Calls Tryz.prog 9 #[.agg #[.int .u8 kd, .int .i64 wh, .int .i64 fr, .int .i64 to_]] w fun e w' => e = .returned (.tuple #[.string (bs (outT kd wh fr to_).1), .int .i64 (outT kd wh fr to_).2]) ∧ Ext w w' := by
  obtain ⟨X, hX⟩ : ∃ X, outT kd wh fr to_ = X := ⟨_, rfl⟩
  rw [hX]
  have HX := Lib.hid hX
  clear hX
  by_cases k1 : kd = 1
  · subst k1
    go_enter Tryz.func9, Tryz.ntmps9
    go_wp2_with fail
    have hE0 : Ext w (w.alloc (.cells #[.int .u8 1, .int .i64 wh, .int .i64 fr, .int .i64 to_] 26)) := Ext.al Ext.rfl' _
    obtain ⟨c0, c1, c2, c3, -⟩ := blk4 (Blk.new w 26 #[.int .u8 1, .int .i64 wh, .int .i64 fr, .int .i64 to_])
    have hsz : w.heap.size < (w.alloc (.cells #[.int .u8 1, .int .i64 wh, .int .i64 fr, .int .i64 to_] 26)).heap.size := by simp
    obtain ⟨B, hB⟩ : ∃ B, w.heap.size = B := ⟨_, rfl⟩
    generalize (w.alloc (.cells #[.int .u8 1, .int .i64 wh, .int .i64 fr, .int .i64 to_] 26)) = w0 at *
    rw [hB] at c0 c1 c2 c3 hsz ⊢
    have HBW := Lib.hid hB
    have HSZ := Lib.hid hsz
    have HE0 := Lib.hid hE0
    clear hB hsz hE0
    go_wp2_with fail
    refine (valid_any 1 wh fr to_ w0).mono ?_
    rintro e w1 ⟨rfl, hE1⟩
    have d1 := Ext.cellOf hE1 c1
    have d2 := Ext.cellOf hE1 c2
    have d3 := Ext.cellOf hE1 c3
    have HE1 : Hid (Ext w w1) := Ext.trans HE0.out hE1
    clear c0 c1 c2 c3 hE1
    rcases Bool.eq_false_or_eq_true (validO 1 wh fr to_) with hv | hv
    rotate_left
    · rw [hv]
      have HR : Hid (([], 1) = X) := by unfold Hid; rw [← HX.out]; unfold outT; rw [if_pos (by omega), hv]; rfl
      clear hv
      go_wp2_with fail
      go_ret2
      exact ⟨by rw [← HR.out]; rfl, HE1.out⟩
    · rw [hv]
      have HV := Lib.hid hv
      have HR : Hid ((fmtT (outToks 1 wh fr to_), 0) = X) := by unfold Hid; rw [← HX.out]; unfold outT; rw [if_pos (by omega), hv]; rfl
      clear hv
      go_wp2_with fail
      have hI := ints_lit w1 #[.int .i64 wh, .int .i64 fr, .int .i64 to_] 2 [wh, fr, to_] rfl
      have hz : ∀ i, i < 3 → I64r (([wh, fr, to_] : List Int).getD i 0) := fun i hi => by
        obtain ⟨h1, h2, h3⟩ := out_small HV.out
        match i, hi with
        | 0, _ => exact h1
        | 1, _ => exact h2
        | 2, _ => exact h3
      refine (group_any _ _ 3 _ [wh, fr, to_] _ hI hz (by omega)).mono ?_
      rintro e w2 ⟨⟨v, rfl, hrow⟩, hE2⟩
      have HE2 : Hid (Ext w w2) := Ext.trans HE1.out (Ext.trans (Ext.al Ext.rfl' _) hE2)
      clear d1 d2 d3 hI hz
      obtain ⟨g, cap, rfl, hg1, hg2⟩ := hrow.some (n := 5) rfl (by omega)
      obtain ⟨G, hG⟩ : ∃ G, (w1.alloc (.cells #[.int .i64 wh, .int .i64 fr, .int .i64 to_] 2)).heap.size = G := ⟨_, rfl⟩
      rw [hG] at hrow hg1
      have HROW := Lib.hid hrow
      have HGL : Hid (B ≤ G ∧ G ≤ w2.heap.size) := ⟨by have := HE1.out.size; have := HBW.out; rw [← hG]; simp; omega, by omega⟩
      clear hrow hg1 hg2 hG hE2
      have HE3 : Hid (Ext w (w2.alloc (.cells #[.int .u8 2, .string ⟨#[]⟩, .bool false, .slice none 0 0, .bool false, .slice none 0 0] 53))) := Ext.trans HE2.out (Ext.al Ext.rfl' _)
      have HROW3 := Lib.hid (HROW.out.ext (Ext.al (Ext.rfl' (w := w2)) (.cells #[.int .u8 2, .string ⟨#[]⟩, .bool false, .slice none 0 0, .bool false, .slice none 0 0] 53)))
      have HNW := Lib.hid (World.news_of_block (cs := #[.int .u8 2, .string ⟨#[]⟩, .bool false, .slice none 0 0, .bool false, .slice none 0 0]) (t := 53) (fr := (0, 0)) (heap_alloc_new w2 (.cells #[.int .u8 2, .string ⟨#[]⟩, .bool false, .slice none 0 0, .bool false, .slice none 0 0] 53)))
      have HGS : Hid (G ≤ (w2.alloc (.cells #[.int .u8 2, .string ⟨#[]⟩, .bool false, .slice none 0 0, .bool false, .slice none 0 0] 53)).heap.size) := by have := HGL.out.2; unfold Hid; simp; omega
      go_wp2_with (
        at_builtin
        refine wpList_append_toks _ rfl (.tmp 26) (.tmp 28) rfl G 5 1 (.slice (some ⟨g, 0, none⟩) 5 cap) _ [tokC] [.int .u8 2, .string ⟨#[]⟩, .bool false, .slice none 0 0, .bool false, .slice none 0 0] rfl HROW3.out rfl ⟨w2.heap.size, 0, none⟩ 1 rfl rfl HNW.out (close_tok _ _ _) (by omega) (by omega) HGS.out ?_
        intro g3 cap3 w3 hr3 hgr
        have HR3 := Lib.hid hr3
        have HE4 : Hid (Ext w w3) := ext_grownW HE3.out hgr (fun x e => by
          obtain ⟨cs, ho, _⟩ := HROW3.out
          have := (own_lt ho (g := x) e).2
          have := HBW.out
          have := HGL.out.1
          omega)
        clear hr3 hgr)
      refine (tformat_row (r := (outToks 1 wh fr to_).tail) (ts := outToks 1 wh fr to_) HR3.out rfl rfl (by omega) (out_good (by omega) HV.out)).mono ?_
      rintro e w4 ⟨rfl, hE5⟩
      have HE5 : Hid (Ext w w4) := Ext.trans HE4.out hE5
      clear hE5
      go_wp2_with fail
      go_ret2
      exact ⟨by rw [← HR.out]; rfl, HE5.out⟩
  · by_cases k2 : kd = 2
    · subst k2
      go_enter Tryz.func9, Tryz.ntmps9
      go_wp2_with fail
      have hE0 : Ext w (w.alloc (.cells #[.int .u8 2, .int .i64 wh, .int .i64 fr, .int .i64 to_] 26)) := Ext.al Ext.rfl' _
      obtain ⟨c0, c1, c2, c3, -⟩ := blk4 (Blk.new w 26 #[.int .u8 2, .int .i64 wh, .int .i64 fr, .int .i64 to_])
      have hsz : w.heap.size < (w.alloc (.cells #[.int .u8 2, .int .i64 wh, .int .i64 fr, .int .i64 to_] 26)).heap.size := by simp
      obtain ⟨B, hB⟩ : ∃ B, w.heap.size = B := ⟨_, rfl⟩
      generalize (w.alloc (.cells #[.int .u8 2, .int .i64 wh, .int .i64 fr, .int .i64 to_] 26)) = w0 at *
      rw [hB] at c0 c1 c2 c3 hsz ⊢
      have HBW := Lib.hid hB
      have HSZ := Lib.hid hsz
      have HE0 := Lib.hid hE0
      clear hB hsz hE0
      go_wp2_with fail
      refine (valid_any 2 wh fr to_ w0).mono ?_
      rintro e w1 ⟨rfl, hE1⟩
      have d1 := Ext.cellOf hE1 c1
      have d2 := Ext.cellOf hE1 c2
      have d3 := Ext.cellOf hE1 c3
      have HE1 : Hid (Ext w w1) := Ext.trans HE0.out hE1
      clear c0 c1 c2 c3 hE1
      rcases Bool.eq_false_or_eq_true (validO 2 wh fr to_) with hv | hv
      rotate_left
      · rw [hv]
        have HR : Hid (([], 1) = X) := by unfold Hid; rw [← HX.out]; unfold outT; rw [if_pos (by omega), hv]; rfl
        clear hv
        go_wp2_with fail
        go_ret2
        exact ⟨by rw [← HR.out]; rfl, HE1.out⟩
      · rw [hv]
        have HV := Lib.hid hv
        have HR : Hid ((fmtT (outToks 2 wh fr to_), 0) = X) := by unfold Hid; rw [← HX.out]; unfold outT; rw [if_pos (by omega), hv]; rfl
        clear hv
        go_wp2_with fail
        have hI := ints_lit w1 #[.int .i64 wh, .int .i64 fr, .int .i64 to_] 2 [wh, fr, to_] rfl
        have hz : ∀ i, i < 3 → I64r (([wh, fr, to_] : List Int).getD i 0) := fun i hi => by
          obtain ⟨h1, h2, h3⟩ := out_small HV.out
          match i, hi with
          | 0, _ => exact h1
          | 1, _ => exact h2
          | 2, _ => exact h3
        refine (group_any _ _ 3 _ [wh, fr, to_] _ hI hz (by omega)).mono ?_
        rintro e w2 ⟨⟨v, rfl, hrow⟩, hE2⟩
        have HE2 : Hid (Ext w w2) := Ext.trans HE1.out (Ext.trans (Ext.al Ext.rfl' _) hE2)
        clear d1 d2 d3 hI hz
        obtain ⟨g, cap, rfl, hg1, hg2⟩ := hrow.some (n := 5) rfl (by omega)
        obtain ⟨G, hG⟩ : ∃ G, (w1.alloc (.cells #[.int .i64 wh, .int .i64 fr, .int .i64 to_] 2)).heap.size = G := ⟨_, rfl⟩
        rw [hG] at hrow hg1
        have HROW := Lib.hid hrow
        have HGL : Hid (B ≤ G ∧ G ≤ w2.heap.size) := ⟨by have := HE1.out.size; have := HBW.out; rw [← hG]; simp; omega, by omega⟩
        clear hrow hg1 hg2 hG hE2
        have HE3 : Hid (Ext w (w2.alloc (.cells #[.int .u8 2, .string ⟨#[]⟩, .bool false, .slice none 0 0, .bool false, .slice none 0 0] 53))) := Ext.trans HE2.out (Ext.al Ext.rfl' _)
        have HROW3 := Lib.hid (HROW.out.ext (Ext.al (Ext.rfl' (w := w2)) (.cells #[.int .u8 2, .string ⟨#[]⟩, .bool false, .slice none 0 0, .bool false, .slice none 0 0] 53)))
        have HNW := Lib.hid (World.news_of_block (cs := #[.int .u8 2, .string ⟨#[]⟩, .bool false, .slice none 0 0, .bool false, .slice none 0 0]) (t := 53) (fr := (0, 0)) (heap_alloc_new w2 (.cells #[.int .u8 2, .string ⟨#[]⟩, .bool false, .slice none 0 0, .bool false, .slice none 0 0] 53)))
        have HGS : Hid (G ≤ (w2.alloc (.cells #[.int .u8 2, .string ⟨#[]⟩, .bool false, .slice none 0 0, .bool false, .slice none 0 0] 53)).heap.size) := by have := HGL.out.2; unfold Hid; simp; omega
        go_wp2_with (
          at_builtin
          refine wpList_append_toks _ rfl (.tmp 26) (.tmp 28) rfl G 5 1 (.slice (some ⟨g, 0, none⟩) 5 cap) _ [tokC] [.int .u8 2, .string ⟨#[]⟩, .bool false, .slice none 0 0, .bool false, .slice none 0 0] rfl HROW3.out rfl ⟨w2.heap.size, 0, none⟩ 1 rfl rfl HNW.out (close_tok _ _ _) (by omega) (by omega) HGS.out ?_
          intro g3 cap3 w3 hr3 hgr
          have HR3 := Lib.hid hr3
          have HE4 : Hid (Ext w w3) := ext_grownW HE3.out hgr (fun x e => by
            obtain ⟨cs, ho, _⟩ := HROW3.out
            have := (own_lt ho (g := x) e).2
            have := HBW.out
            have := HGL.out.1
            omega)
          clear hr3 hgr)
        refine (tformat_row (r := (outToks 2 wh fr to_).tail) (ts := outToks 2 wh fr to_) HR3.out rfl rfl (by omega) (out_good (by omega) HV.out)).mono ?_
        rintro e w4 ⟨rfl, hE5⟩
        have HE5 : Hid (Ext w w4) := Ext.trans HE4.out hE5
        clear hE5
        go_wp2_with fail
        go_ret2
        exact ⟨by rw [← HR.out]; rfl, HE5.out⟩
    · by_cases k3 : kd = 3
      · subst k3
        go_enter Tryz.func9, Tryz.ntmps9
        go_wp2_with fail
        have hE0 : Ext w (w.alloc (.cells #[.int .u8 3, .int .i64 wh, .int .i64 fr, .int .i64 to_] 26)) := Ext.al Ext.rfl' _
        obtain ⟨c0, c1, c2, c3, -⟩ := blk4 (Blk.new w 26 #[.int .u8 3, .int .i64 wh, .int .i64 fr, .int .i64 to_])
        have hsz : w.heap.size < (w.alloc (.cells #[.int .u8 3, .int .i64 wh, .int .i64 fr, .int .i64 to_] 26)).heap.size := by simp
        obtain ⟨B, hB⟩ : ∃ B, w.heap.size = B := ⟨_, rfl⟩
        generalize (w.alloc (.cells #[.int .u8 3, .int .i64 wh, .int .i64 fr, .int .i64 to_] 26)) = w0 at *
        rw [hB] at c0 c1 c2 c3 hsz ⊢
        have HBW := Lib.hid hB
        have HSZ := Lib.hid hsz
        have HE0 := Lib.hid hE0
        clear hB hsz hE0
        go_wp2_with fail
        refine (valid_any 3 wh fr to_ w0).mono ?_
        rintro e w1 ⟨rfl, hE1⟩
        have d1 := Ext.cellOf hE1 c1
        have d2 := Ext.cellOf hE1 c2
        have d3 := Ext.cellOf hE1 c3
        have HE1 : Hid (Ext w w1) := Ext.trans HE0.out hE1
        clear c0 c1 c2 c3 hE1
        rcases Bool.eq_false_or_eq_true (validO 3 wh fr to_) with hv | hv
        rotate_left
        · rw [hv]
          have HR : Hid (([], 1) = X) := by unfold Hid; rw [← HX.out]; unfold outT; rw [if_pos (by omega), hv]; rfl
          clear hv
          go_wp2_with fail
          go_ret2
          exact ⟨by rw [← HR.out]; rfl, HE1.out⟩
        · rw [hv]
          have HV := Lib.hid hv
          have HR : Hid ((fmtT (outToks 3 wh fr to_), 0) = X) := by unfold Hid; rw [← HX.out]; unfold outT; rw [if_pos (by omega), hv]; rfl
          clear hv
          go_wp2_with fail
          have hI := ints_lit w1 #[.int .i64 wh, .int .i64 fr, .int .i64 to_] 2 [wh, fr, to_] rfl
          have hz : ∀ i, i < 3 → I64r (([wh, fr, to_] : List Int).getD i 0) := fun i hi => by
            obtain ⟨h1, h2, h3⟩ := out_small HV.out
            match i, hi with
            | 0, _ => exact h1
            | 1, _ => exact h2
            | 2, _ => exact h3
          refine (group_any _ _ 3 _ [wh, fr, to_] _ hI hz (by omega)).mono ?_
          rintro e w2 ⟨⟨v, rfl, hrow⟩, hE2⟩
          have HE2 : Hid (Ext w w2) := Ext.trans HE1.out (Ext.trans (Ext.al Ext.rfl' _) hE2)
          clear d1 d2 d3 hI hz
          obtain ⟨g, cap, rfl, hg1, hg2⟩ := hrow.some (n := 5) rfl (by omega)
          obtain ⟨G, hG⟩ : ∃ G, (w1.alloc (.cells #[.int .i64 wh, .int .i64 fr, .int .i64 to_] 2)).heap.size = G := ⟨_, rfl⟩
          rw [hG] at hrow hg1
          have HROW := Lib.hid hrow
          have HGL : Hid (B ≤ G ∧ G ≤ w2.heap.size) := ⟨by have := HE1.out.size; have := HBW.out; rw [← hG]; simp; omega, by omega⟩
          clear hrow hg1 hg2 hG hE2
          have HE3 : Hid (Ext w (w2.alloc (.cells #[.int .u8 2, .string ⟨#[]⟩, .bool false, .slice none 0 0, .bool false, .slice none 0 0] 53))) := Ext.trans HE2.out (Ext.al Ext.rfl' _)
          have HROW3 := Lib.hid (HROW.out.ext (Ext.al (Ext.rfl' (w := w2)) (.cells #[.int .u8 2, .string ⟨#[]⟩, .bool false, .slice none 0 0, .bool false, .slice none 0 0] 53)))
          have HNW := Lib.hid (World.news_of_block (cs := #[.int .u8 2, .string ⟨#[]⟩, .bool false, .slice none 0 0, .bool false, .slice none 0 0]) (t := 53) (fr := (0, 0)) (heap_alloc_new w2 (.cells #[.int .u8 2, .string ⟨#[]⟩, .bool false, .slice none 0 0, .bool false, .slice none 0 0] 53)))
          have HGS : Hid (G ≤ (w2.alloc (.cells #[.int .u8 2, .string ⟨#[]⟩, .bool false, .slice none 0 0, .bool false, .slice none 0 0] 53)).heap.size) := by have := HGL.out.2; unfold Hid; simp; omega
          go_wp2_with (
            at_builtin
            refine wpList_append_toks _ rfl (.tmp 26) (.tmp 28) rfl G 5 1 (.slice (some ⟨g, 0, none⟩) 5 cap) _ [tokC] [.int .u8 2, .string ⟨#[]⟩, .bool false, .slice none 0 0, .bool false, .slice none 0 0] rfl HROW3.out rfl ⟨w2.heap.size, 0, none⟩ 1 rfl rfl HNW.out (close_tok _ _ _) (by omega) (by omega) HGS.out ?_
            intro g3 cap3 w3 hr3 hgr
            have HR3 := Lib.hid hr3
            have HE4 : Hid (Ext w w3) := ext_grownW HE3.out hgr (fun x e => by
              obtain ⟨cs, ho, _⟩ := HROW3.out
              have := (own_lt ho (g := x) e).2
              have := HBW.out
              have := HGL.out.1
              omega)
            clear hr3 hgr)
          refine (tformat_row (r := (outToks 3 wh fr to_).tail) (ts := outToks 3 wh fr to_) HR3.out rfl rfl (by omega) (out_good (by omega) HV.out)).mono ?_
          rintro e w4 ⟨rfl, hE5⟩
          have HE5 : Hid (Ext w w4) := Ext.trans HE4.out hE5
          clear hE5
          go_wp2_with fail
          go_ret2
          exact ⟨by rw [← HR.out]; rfl, HE5.out⟩
      · have b1 : (kd == 1) = false := by simp [k1]
        have b2 : (kd == 2) = false := by simp [k2]
        have b3 : (kd == 3) = false := by simp [k3]
        have HR : Hid (([], 12) = X) := by unfold Hid; rw [← HX.out]; unfold outT; rw [if_neg (by omega)]
        clear k1 k2 k3
        go_enter Tryz.func9, Tryz.ntmps9
        go_wp2_with fail
        go_ret2
        exact ⟨by rw [← HR.out]; rfl, Ext.al Ext.rfl' _⟩
end Go.Proofs.YtnofbjcikfofgaaGreat
