/- Contracts of slices.Clone at words, and of whole.Neg, Abs's like: a copy of the words in new memory. -/
import Derived.Test.YtkdbpcenehhopaaAddP
import Derived.Test.YtkdbpcenehhopaaMem
import Derived.Test.YtkdbpcenehhopaaWordsC
namespace Go.Proofs.Ytkdbpcenehhopaa
open Go.RowKit

theorem wpList_append_atW {P : Program} (w : World) {ops : Array Oper} {rest : List Oper} {o : Oper} {a : Act} {Q : Exit → Act → World → Prop} (hgd : o.guard = none) (s x : Operand) (t : TypeId)
    (ho : o.op = .call { callee := .builtin .append, args := #[s, x], argTypes := #[t, t] })
    (base : Nat) (e : TypeId) (i : TypeInfo) (z : Value) (size bytes : Nat) (ht : P.underlying t = some (.slice e)) (hi : P.info? e = some i) (hz : i.zero = some z)
    (hsize : i.size = size) (hby : i.bytes = bytes) (hzs : z.cells.size = size) (hsz : 0 < size)
    (v : Value) (n : Nat) (xs : List Value) (hs : a.eval s = v) (hown : w.ownsRow base e size v n xs)
    (ad : Addr) (m c : Nat) (news : List Value) (hx : a.eval x = .slice (some ad) m c) (hl : news.length = m * size) (hnews : ∀ j u, news[j]? = some u → w.cell? (ad.add j) = some u) (h1 : ∀ u ∈ news, u.oneCell' = true)
    (hv : v ≠ .slice none 0 0 ∨ 0 < m) (h63 : n + m ≤ maxLen) (hbytes : (n + m) * bytes ≤ 140737488355328) (hbase : base ≤ w.heap.size)
    (h : ∀ g cap w', w'.ownsRow base e size (.slice (some ⟨g, 0, none⟩) (n + m) cap) (n + m) (xs ++ news) → w.grownBy w' v.ownBlock → (v.ownBlock = some g ∨ g = w.heap.size) → wpList P ops Q rest (a.put o.dst (.slice (some ⟨g, 0, none⟩) (n + m) cap)) w') :
    wpList P ops Q (o :: rest) a w :=
  wpList_plain hgd fun _ hK => wp_append_at w s x t ho base e i z size bytes ht hi hz hsize hby hzs hsz v n xs hs hown ad m c news hx hl hnews h1 hv h63 hbytes hbase fun g cap w' h2 h3 h4 => hK _ _ (h g cap w' h2 h3 h4)
theorem ext_grownW {w0 w w' : World} {row : Option Nat} (h : Ext w0 w) (hg : w.grownBy w' row) (hr : ∀ k, row = some k → w0.heap.size ≤ k) : Ext w0 w' := Below.grown h hg h.size hr
theorem news_words {w : World} {ad : Addr} {n : Nat} {xs : List Nat} (h : WordsAt w (some ad) n xs) : ∀ j u, (u32s xs)[j]? = some u → w.cell? (ad.add j) = some u := by
  intro j u hu
  have hj : j < xs.length := by
    rcases Nat.lt_or_ge j xs.length with hl | hl
    · exact hl
    · rw [List.getElem?_eq_none (by rw [u32s_len]; exact hl)] at hu; cases hu
  obtain ⟨b, off, e, _, hc⟩ := h.2.2 (by have := h.1; omega)
  injection e with e
  subst e
  have e2 : (⟨b, off, none⟩ : Addr).add j = ⟨b, off + j, none⟩ := by unfold Addr.add; split <;> simp_all
  rw [e2, hc j (by have := h.1; omega), ← hu]
  simp [u32s, List.getD, hj]
/-- A slice of words in new memory. -/
def NewW (w' : World) (B : Nat) (A : Option Addr) (n c : Nat) (xs : List Nat) : Prop := WordsAt w' A n xs ∧ n ≤ c ∧ c ≤ maxLen ∧ Fresh w' B A
theorem own_new {w : World} {base g n c B : Nat} {S : List Nat} (h : w.ownsRow base 120 1 (.slice (some ⟨g, 0, none⟩) n c) n (u32s S)) (hw : Words S) (hB : B ≤ g) : NewW w B (some ⟨g, 0, none⟩) n c S := by
  refine ⟨own_words h hw, ?_, ?_, own_fresh h hB⟩
  · rcases h.2 with ⟨h', _⟩ | ⟨g', cap', cur, h', _, _, h3, h4, _⟩
    · simp at h'
    · simp only [Value.slice.injEq, Option.some.injEq, Addr.mk.injEq, and_true, true_and] at h'
      obtain ⟨rfl, rfl⟩ := h'; exact h3
  · rcases h.2 with ⟨h', _⟩ | ⟨g', cap', cur, h', _, _, h3, h4, _⟩
    · simp at h'
    · simp only [Value.slice.injEq, Option.some.injEq, Addr.mk.injEq, and_true, true_and] at h'
      obtain ⟨rfl, rfl⟩ := h'; exact h4
theorem NewW.ext {w w' : World} {B : Nat} {A : Option Addr} {n c : Nat} {xs : List Nat} (h : NewW w B A n c xs) (hb : Ext w w') : NewW w' B A n c xs := ⟨h.1.below hb, h.2.1, h.2.2.1, h.2.2.2.ext hb⟩
theorem NewW.base {w : World} {B B' : Nat} {A : Option Addr} {n c : Nat} {xs : List Nat} (h : NewW w B A n c xs) (hb : B' ≤ B) : NewW w B' A n c xs := ⟨h.1, h.2.1, h.2.2.1, h.2.2.2.base hb⟩

set_option maxRecDepth 100000 in
set_option maxHeartbeats 1600000 in
theorem clone_any (A : Option Addr) (n c : Nat) (xs : List Nat) (w : World) (h : WordsAt w A n xs) (hn : n ≤ 4294967296) :
    Calls Try.prog 70 #[.slice A n c] w fun e w' => ∃ A' c', e = .returned (.slice A' n c') ∧ NewW w' w.heap.size A' n c' xs ∧ Ext w w' := by
  obtain ⟨i0, hi, hz0, hz1, hz2⟩ := info_parts info_u32
  have heq := fun w a => Lib.run_eql_slice_nil (P := Try.prog) w 68 120 a n c 0 0 Try.underlying68
  rcases A with _ | ad
  · have hn0 : n = 0 := by
      rcases Nat.eq_zero_or_pos n with h0 | h0
      · exact h0
      · obtain ⟨_, _, e, _⟩ := h.2.2 h0; cases e
    subst hn0
    obtain rfl : xs = [] := List.eq_nil_of_length_eq_zero h.1
    go_enter Try.func70, Try.ntmps70
    go_wp2_with fail
    go_ret
    exact ⟨none, 0, rfl, ⟨WordsAt.nil _ _, Nat.le_refl _, by omega, fun ad h => by cases h⟩, Ext.rfl'⟩
  · have HH := Lib.hid h
    clear h
    go_enter Try.func70, Try.ntmps70
    have HO : Hid ((w.alloc (.cells #[] 120)).ownsRow w.heap.size 120 1 (.slice (some ⟨w.heap.size, 0, none⟩) 0 0) 0 []) := by
      have := World.ownsRow_lit (base := w.heap.size) (e := 120) (size := 1) w #[] 0 (Nat.le_refl _) (by omega) (by simp)
      exact this
    have HN := Lib.hid (news_words (HH.out.below (Ext.al Ext.rfl' (.cells #[] 120))))
    go_wp2_with (at_builtin
                 refine wpList_append_atW _ rfl (.tmp 5) (.tmp 6) 68 rfl w.heap.size 120 i0 _ 1 4 Try.underlying68 hi hz0 hz1 hz2 rfl (by omega) (.slice (some ⟨w.heap.size, 0, none⟩) 0 0) 0 [] rfl HO.out ad n c (u32s xs) rfl (by rw [u32s_len, HH.out.1]; omega) HN.out (u32s_one xs) (.inl (by simp)) (by simp [maxLen]; omega) (by omega) (by simp) ?_
                 intro g cap w1 hown hg hat
                 rw [Nat.zero_add, List.nil_append] at hown
                 have HO1 := Lib.hid hown
                 have HG1 := Lib.hid hg
                 have HA1 := Lib.hid hat
                 clear hown hg hat
                 rw [Nat.zero_add])
    go_ret
    refine ⟨_, _, rfl, own_new HO1.out HH.out.2.1 ?_, ?_⟩
    · have := HA1.out
      simp [Value.ownBlock] at this
      omega
    · exact ext_grownW (Ext.al Ext.rfl' _) HG1.out (by intro k hk; simp [Value.ownBlock] at hk; omega)

/-- Block r is a struct of two cells that may be written. -/
def Cell2 (w : World) (r : Nat) (v0 v1 : Value) : Prop := w.cell? ⟨r, 0, none⟩ = some v0 ∧ w.cell? ⟨r, 1, none⟩ = some v1 ∧ w.frozen? ⟨r, 0, none⟩ = false ∧ w.frozen? ⟨r, 1, none⟩ = false ∧ r < w.heap.size
theorem Cell2.new (w : World) (r : Nat) (hr : w.heap.size = r) (v0 v1 : Value) (t : TypeId) : Cell2 (w.alloc (.cells #[v0, v1] t)) r v0 v1 := by
  subst hr
  refine ⟨?_, ?_, ?_, ?_, ?_⟩ <;> simp [go_sem]
theorem Cell2.ext {w w' : World} {r : Nat} {v0 v1 : Value} (h : Cell2 w r v0 v1) (hb : Ext w w') : Cell2 w' r v0 v1 :=
  ⟨Ext.cellOf hb h.1, Ext.cellOf hb h.2.1, (hb.frozen (p := ⟨r, 0, none⟩) h.2.2.2.2).trans h.2.2.1, (hb.frozen (p := ⟨r, 1, none⟩) h.2.2.2.2).trans h.2.2.2.1, Nat.lt_of_lt_of_le h.2.2.2.2 hb.size⟩
/-- The result's cell is filled with a Z. -/
theorem retZ_fill {w w1 : World} {r B : Nat} {b : Bool} {A : Option Addr} {n c : Nat} {z : Int} (hr : w.heap.size ≤ r) (hB : r < B) (hz : ZCan w1 B b A n c z) (hb : Ext w w1) (v0 v1 : Value) :
    ZCan ((w1.setCell ⟨r, 0, none⟩ v0).setCell ⟨r, 1, none⟩ v1) w.heap.size b A n c z ∧ Ext w ((w1.setCell ⟨r, 0, none⟩ v0).setCell ⟨r, 1, none⟩ v1) :=
  ⟨((hz.put (p := ⟨r, 0, none⟩) hB v0).put (p := ⟨r, 1, none⟩) hB v1).base (by omega), Below.setCell (Below.setCell hb (p := ⟨r, 0, none⟩) hr v0) (p := ⟨r, 1, none⟩) hr v1⟩

set_option maxRecDepth 100000 in
set_option maxHeartbeats 1600000 in
theorem neg_any (b : Bool) (A : Option Addr) (n c : Nat) (z : Int) (w : World) (h : ZIs w b A n c z) (hn : n ≤ 1073741824) :
    Calls Try.prog 80 #[.agg #[.bool b, .slice A n c]] w (RetZ w (-z)) := by
  obtain ⟨xs, h1, h2, h3, rfl⟩ := h
  have HS : Hid (sgn (!b) (natOf xs) = -sgn b (natOf xs)) := by unfold Hid sgn; cases b <;> simp
  go_enter Try.func80, Try.ntmps80
  go_wp2_with fail
  have hE : Ext w ((w.alloc (.cells #[.bool b, .slice A n c] 70)).alloc (.cells #[.bool false, .slice none 0 0] 70)) := Ext.al (Ext.al Ext.rfl' _) _
  have a0 := (Cell2.new w _ rfl (.bool b) (.slice A n c) 70).ext (Ext.al Ext.rfl' (.cells #[.bool false, .slice none 0 0] 70))
  have r0 := Cell2.new (w.alloc (.cells #[.bool b, .slice A n c] 70)) (w.heap.size + 1) (by simp) (.bool false) (.slice none 0 0) 70
  generalize ((w.alloc (.cells #[.bool b, .slice A n c] 70)).alloc (.cells #[.bool false, .slice none 0 0] 70)) = W at *
  have x0 := fun y : ExtX W.drew [] => y.cell (p := ⟨w.heap.size, 0, none⟩) a0.1 (by simp)
  have x1 := fun y : ExtX W.drew [] => y.cell (p := ⟨w.heap.size, 1, none⟩) a0.2.1 (by simp)
  have HE := Lib.hid hE
  have HR := Lib.hid r0
  have H1 := Lib.hid h1
  have hle := words_len_ge h1.2.1
  rw [h1.1] at hle
  have hle2 : (wordsOf (natOf xs)).length ≤ 4294967296 := by omega
  clear a0 r0 h1 hE
  refine wp_region_lex (C := InX W.drew []) (by kernel_rfl) (by kernel_rfl) (inX_self _ _) ?_
  repeat (refine wpLex_still (by rfl) ?_; go_big_quiet_step (fail); refine wpQuiet_nil ?_)
  refine wpLex_move (by rfl) (by rfl) ?_
  go_wp2_with fail
  refine (trim_any A n c xs W.drew (H1.out.below HE.out.drew) h2 h3).mono ?_
  rintro e w1 ⟨rfl, rfl⟩
  go_wp2_with fail
  refine And.intro (inX_self _ _) ?_
  refine wpLex_move (by rfl) (by rfl) ?_
  go_wp2_with fail
  have HT := Lib.hid (H1.out.below HE.out.drew).trim
  refine (clone_any A (wordsOf (natOf xs)).length c (wordsOf (natOf xs)) W.drew HT.out hle2).mono ?_
  rintro e w2 ⟨A2, c2, rfl, hN2, hb2⟩
  have HN2 := Lib.hid hN2
  have HB2 := Lib.hid hb2
  clear hN2 hb2
  go_wp2_with fail
  refine And.intro (inX_of_ext _ HB2.out) ?_
  refine wpLex_move (by rfl) (by rfl) ?_
  go_wp2_with fail
  refine (build_any (!b) A2 _ c2 (wordsOf (natOf xs)) w2 W.heap.size HN2.out.1 HN2.out.2.1 HN2.out.2.2.1 HN2.out.2.2.2).mono ?_
  rintro e w3 ⟨b', A', n', c', rfl, hz, hb3⟩
  rw [natOf_wordsOf, HS.out] at hz
  have HZ := Lib.hid hz
  have HB3 := Lib.hid (Ext.trans HB2.out hb3)
  clear hz hb3
  go_wp2_with fail
  refine And.intro (inX_of_ext _ HB3.out) ?_
  obtain ⟨e0, e1, f0, f1, hrl⟩ := (HR.out.ext Ext.rfl'.drew).ext HB3.out
  have hrz : w.heap.size + 1 < W.heap.size := HR.out.2.2.2.2
  refine wpLex_last (by rfl) (by kernel_rfl) (by rfl) ?_
  go_wp2_with fail
  refine And.intro trivial (wpLex_nil ?_)
  go_wp2_with fail
  refine bodyPost_ret (v := .agg #[.bool b', .slice A' n' c']) (by simp [results, Try.results80, go_sem, e0, e1]) rfl ?_
  exact ⟨_, _, _, _, rfl, retZ_fill (by omega) hrz HZ.out (Ext.trans HE.out.drew HB3.out) _ _⟩
end Go.Proofs.Ytkdbpcenehhopaa
