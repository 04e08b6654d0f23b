/- The contracts of nettext.FormatOutage and FormatNet. Printed by gen_txa.py. -/
import Derived.Test.YtkdbpcenehhopaaTxY
namespace Go.Proofs.Ytkdbpcenehhopaa
open Go.RowKit
theorem good_num {z : Int} (h : I64r z) : GoodT (numT z) := .inr (.inr (.inr ⟨z, rfl, Nat.le_trans (fmtN_len64 h) (by omega)⟩))
theorem piece_num {z : Int} (h : I64r z) : (pieceT (numT z)).length ≤ 20 := by
  show (fmtZ ((z : Rat).num)).length ≤ 20
  rw [Rat.num_intCast]
  exact fmtZ_len64 h
theorem spaced_len : ∀ (ts : List Tok) (b : Bool), (∀ t ∈ ts, (pieceT t).length ≤ 20) → (spell (spaced b ts)).length ≤ 21 * ts.length
  | [], _, _ => by simp [spaced, spell]
  | t :: r, b, h => by
    have h1 := spaced_len r (decide (t.kind = 1)) (fun x hx => h x (List.mem_cons_of_mem _ hx))
    have h2 := h t List.mem_cons_self
    have h3 : (sepT b t).length ≤ 1 := by unfold sepT; split <;> simp
    rw [spaced_cons, List.length_append, List.length_append, List.length_cons]
    omega
theorem fmt_ne (r : List Tok) : fmtT (tokO :: r) ≠ [] := by
  unfold fmtT
  rw [spaced_cons]
  simp [sepT, pieceT, tokO]
theorem ints_lit (w : World) (cs : Array Value) (t : TypeId) (zs : List Int) (h : cs = (zs.map (Value.int .i64)).toArray) : IntsAt (w.alloc (.cells cs t)) (some ⟨w.heap.size, 0, none⟩) zs.length zs := by
  refine ⟨rfl, fun hn => ⟨w.heap.size, 0, rfl, by simp, fun i hi => ?_⟩⟩
  have hb := Blk.new w t cs
  rw [Nat.zero_add, hb.cell, h]
  simp [List.getD, List.getElem?_eq_getElem hi]
theorem RowT.some {w : World} {B n : Nat} {v : Value} {ts : List Tok} (h : RowT w B v ts) (hn : ts.length = n) (h0 : 0 < n) : ∃ g cap, v = .slice (some ⟨g, 0, none⟩) n cap ∧ B ≤ g ∧ g < w.heap.size := by
  subst hn
  obtain ⟨cs, h1, h2⟩ := h
  rcases h1.2 with ⟨rfl, hz⟩ | ⟨g, cap, cur, rfl, hg, hb, _⟩
  · omega
  · exact ⟨g, cap, rfl, hg, (Array.getElem?_eq_some_iff.1 hb).1⟩
/-- append of tokens to a row of tokens. -/
theorem wpList_append_toks (w : World) {ops : Array Oper} {rest : List Oper} {o : Oper} {a : Act} {Q : Exit → Act → World → Prop} (hgd : o.guard = none) (s x : Operand)
    (ho : o.op = .call { callee := .builtin .append, args := #[s, x], argTypes := #[52, 52] })
    (B n m : Nat) (v : Value) (ts us : List Tok) (news : List Value) (hs : a.eval s = v) (hr : RowT w B v ts) (hn : ts.length = n) (ad : Addr) (c : Nat) (hx : a.eval x = .slice (some ad) m c) (hm : us.length = m)
    (hnews : ∀ j u, news[j]? = some u → w.cell? (ad.add j) = some u) (htc : TokCs w B v.ownBlock us news) (h0 : 0 < m) (hl : n + m ≤ 100000) (hB : B ≤ w.heap.size)
    (h : ∀ g cap w', RowT w' B (.slice (some ⟨g, 0, none⟩) (n + m) cap) (ts ++ us) → w.grownBy w' v.ownBlock → wpList Try.prog ops Q rest (a.put o.dst (.slice (some ⟨g, 0, none⟩) (n + m) cap)) w') :
    wpList Try.prog ops Q (o :: rest) a w := by
  obtain ⟨i0, hi, hz0, hz1, hz2⟩ := info_parts info_tok
  subst hn hm
  obtain ⟨cs, hown, hts⟩ := hr
  refine wpList_append_atW w hgd s x 52 ho B 75 i0 _ 6 88 Try.underlying52 hi hz0 hz1 hz2 rfl (by omega) v ts.length cs hs hown ad us.length c news hx htc.len hnews htc.one (.inr h0) (by unfold maxLen; omega) (by omega) hB ?_
  intro g cap w' h1 h2 h3
  exact h g cap w' (RowT.grow hts htc h1 h2 h3) h2
theorem close_tok (w : World) (B : Nat) (row : Option Nat) : TokCs w B row [tokC] [.int .u8 2, .string ⟨#[]⟩, .bool false, .slice none 0 0, .bool false, .slice none 0 0] := ⟨_, [], rfl, tokc_plain w B row 2 [], rfl⟩
def outName (kd : Int) : Bs := if kd = 1 then [112, 108, 97, 110] else if kd = 2 then [108, 111, 115, 115] else [116, 114, 105, 112]
def outToks (kd wh fr to_ : Int) : List Tok := [tokO, tokW (outName kd), numT wh, numT fr, numT to_, tokC]
def outT (kd wh fr to_ : Int) : Bs × Int := if kd = 1 ∨ kd = 2 ∨ kd = 3 then (if validO kd wh fr to_ then (fmtT (outToks kd wh fr to_), 0) else ([], 1)) else ([], 12)
theorem out_small {kd wh fr to_ : Int} (h : validO kd wh fr to_ = true) : I64r wh ∧ I64r fr ∧ I64r to_ := by
  unfold validO at h
  simp only [Bool.and_eq_true, decide_eq_true_eq] at h
  have : wh < 10 := by have := h.2.1; split at this <;> omega
  refine ⟨⟨by omega, by omega⟩, ⟨by omega, by omega⟩, ⟨by omega, by omega⟩⟩
theorem out_good {kd wh fr to_ : Int} (hk : kd = 1 ∨ kd = 2 ∨ kd = 3) (h : validO kd wh fr to_ = true) : ∀ t ∈ outToks kd wh fr to_, GoodT t ∧ (pieceT t).length ≤ 20 := by
  obtain ⟨h1, h2, h3⟩ := out_small h
  have hw : allC isLow (outName kd) = true ∧ (outName kd).length = 4 := by rcases hk with rfl | rfl | rfl <;> exact ⟨by decide +kernel, rfl⟩
  intro t ht
  simp only [outToks, List.mem_cons, List.not_mem_nil, or_false] at ht
  rcases ht with rfl | rfl | rfl | rfl | rfl | rfl
  · exact ⟨.inl rfl, by simp [pieceT, tokO]⟩
  · exact ⟨.inr (.inr (.inl ⟨_, rfl, hw.1⟩)), by simp [pieceT, tokW, hw.2]⟩
  · exact ⟨good_num h1, piece_num h1⟩
  · exact ⟨good_num h2, piece_num h2⟩
  · exact ⟨good_num h3, piece_num h3⟩
  · exact ⟨.inr (.inl rfl), by simp [pieceT, tokC]⟩
/-- token.Format at a row. -/
theorem tformat_row {w : World} {B n c : Nat} {g : Nat} {ts r : List Tok} (hr : RowT w B (.slice (some ⟨g, 0, none⟩) n c) ts) (he : ts = tokO :: r) (hn : ts.length = n) (hl : n ≤ 3000) (hg : ∀ t ∈ ts, GoodT t ∧ (pieceT t).length ≤ 20) :
    Calls Try.prog 31 #[.slice (some ⟨g, 0, none⟩) n c] w fun e w' => e = .returned (.tuple #[.string (bs (fmtT ts)), .int .i64 0]) ∧ Ext w w' := by
  obtain ⟨A, c2, e, ht⟩ := hr.toks
  injection e with e1 e2 e3
  subst e1 e3
  rw [hn] at ht
  refine tformat_any _ n _ ts w ht (by omega) (fun k hk => ?_) ?_ (by rw [he]; exact fmt_ne r)
  · have hk2 : k < ts.length := by omega
    have e4 : ts.getD k tok0 = ts[k] := by simp [List.getD, List.getElem?_eq_getElem hk2]
    rw [e4]
    exact (hg _ (List.getElem_mem hk2)).1
  · have := spaced_len ts true (fun t ht => (hg t ht).2)
    unfold fmtT
    omega
end Go.Proofs.Ytkdbpcenehhopaa
