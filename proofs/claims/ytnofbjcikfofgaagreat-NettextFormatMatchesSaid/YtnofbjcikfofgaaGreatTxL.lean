/- Contracts of the parser's methods (advance, word, integer, expect). Printed by gen_txl.py. -/
import Derived.Test.YtnofbjcikfofgaaGreatTxE
import Derived.Test.YtnofbjcikfofgaaGreatTxK
namespace Go.Proofs.YtnofbjcikfofgaaGreat
open Go.RowKit

/-- The parser in block g. -/
def PAt (w : World) (g : Nat) (s : ByteArray) (p : PS) : Prop := w.heap[g]? = some (.cells #[.string s, .int .i64 p.k, .int .i64 p.e] 59 (0, 0))
theorem PAt.blk {w : World} {g : Nat} {s : ByteArray} {p : PS} (h : PAt w g s p) : Blk w g 59 #[.string s, .int .i64 p.k, .int .i64 p.e] := h
theorem PAt.ext {w w' : World} {g : Nat} {s : ByteArray} {p : PS} (h : PAt w g s p) (hb : Ext w w') : PAt w' g s p := (hb.block g h.blk.lt).trans h
theorem PAt.cells {w : World} {g : Nat} {s : ByteArray} {p : PS} (h : PAt w g s p) : (w.cell? ⟨g, 0, none⟩ = some (.string s) ∧ w.cell? ⟨g, 1, none⟩ = some (.int .i64 p.k) ∧ w.cell? ⟨g, 2, none⟩ = some (.int .i64 p.e)) ∧ w.frozen? ⟨g, 1, none⟩ = false ∧ w.frozen? ⟨g, 2, none⟩ = false ∧ g < w.heap.size :=
  ⟨⟨by rw [h.blk.cell]; rfl, by rw [h.blk.cell]; rfl, by rw [h.blk.cell]; rfl⟩, h.blk.frozen 1, h.blk.frozen 2, h.blk.lt⟩
/-- Of what was there only block g may have changed. -/
abbrev Mv (g : Nat) (w w' : World) : Prop := w.grownBy w' (some g)
theorem Mv.of {g : Nat} {w w' : World} (h : Ext w w') : Mv g w w' := ⟨h.os, h.tape, h.output, h.size, fun k hk _ => h.block k hk⟩
theorem Mv.trans {g : Nat} {a b c : World} (h : Mv g a b) (k : Mv g b c) : Mv g a c := ⟨k.os.trans h.os, k.tape.trans h.tape, k.output.trans h.output, Nat.le_trans h.size k.size, fun x hx hn => (k.block x (Nat.lt_of_lt_of_le hx h.size) hn).trans (h.block x hx hn)⟩
theorem Mv.set {g : Nat} {w w' : World} (h : Mv g w w') (i : Nat) (v : Value) : Mv g w (w'.setCell ⟨g, i, none⟩ v) := grown_put h i v
theorem Mv.ext {g : Nat} {w0 w w' : World} (h : Mv g w w') (h0 : Ext w0 w) (hg : w0.heap.size ≤ g) : Ext w0 w' := ext_grownW h0 h fun k e => by cases e; exact hg

set_option maxHeartbeats 1000000 in
theorem adv_any (g : Nat) (s : ByteArray) (p : PS) (nx er : Int) (w : World) (h : PAt w g s p) :
    Calls Tryz.prog 43 #[.pointer (some ⟨g, 0, none⟩), .int .i64 nx, .int .i64 er] w fun e w' => e = .returned (.tuple #[]) ∧ PAt w' g s (p.adv nx er) ∧ Mv g w w' := by
  obtain ⟨⟨c0, c1, c2⟩, f1, f2, hl⟩ := h.cells
  have H := Lib.hid h
  clear h
  by_cases h0 : er = 0
  · have hb : (er == 0) = true := by simp [h0]
    have HR : Hid (p.adv nx er = ⟨nx, 0⟩) := by unfold Hid PS.adv; rw [if_pos h0]
    have HZ := Lib.hid h0
    clear h0
    go_enter Tryz.func43, Tryz.ntmps43
    go_wp2_with fail
    go_end0
    refine ⟨rfl, ?_, Mv.set (Mv.set (grown_refl w _) _ _) _ _⟩
    rw [HR.out]
    have := (H.out.blk.put 2 (.int .i64 er)).put 1 (.int .i64 nx)
    rw [HZ.out] at this ⊢
    exact this
  · have hb : (er == 0) = false := by simp [h0]
    have HR : Hid (p.adv nx er = ⟨p.k, er⟩) := by unfold Hid PS.adv; rw [if_neg h0]
    clear h0
    go_enter Tryz.func43, Tryz.ntmps43
    go_wp2_with fail
    go_end0
    refine ⟨rfl, ?_, Mv.set (grown_refl w _) _ _⟩
    rw [HR.out]
    exact H.out.blk.put 2 (.int .i64 er)

set_option maxRecDepth 100000 in
set_option maxHeartbeats 4000000 in
theorem word_any (g : Nat) (s : ByteArray) (p : PS) (W : ByteArray) (w : World) (h : PAt w g s p) (hs : s.size ≤ maxLen) :
    Calls Tryz.prog 26 #[.pointer (some ⟨g, 0, none⟩), .string W] w fun e w' => e = .returned (.tuple #[]) ∧ PAt w' g s (psW s.data.toList p W.data.toList) ∧ Mv g w w' := by
  obtain ⟨⟨c0, c1, c2⟩, f1, f2, hl⟩ := h.cells
  have H := Lib.hid h
  have HS := Lib.hid hs
  clear h hs
  obtain ⟨pk, pe⟩ := p
  simp only at c1 c2
  by_cases h0 : pe = 0
  rotate_left
  · have hb : (pe != 0) = true := by simp [h0]
    have HR : Hid (psW s.data.toList ⟨pk, pe⟩ W.data.toList = ⟨pk, pe⟩) := by unfold Hid psW; rw [if_pos h0]
    clear h0
    go_enter Tryz.func26, Tryz.ntmps26
    go_wp2_with fail
    refine bodyPost_ret (v := .tuple #[]) (by simp [results, Tryz.results26, go_sem]) rfl ?_
    rw [HR.out]
    exact ⟨rfl, H.out, grown_refl _ _⟩
  · subst h0
    go_enter Tryz.func26, Tryz.ntmps26
    go_wp2_with fail
    have x0 := fun x : ExtOf w => x.cell c0
    have x1 := fun x : ExtOf w => x.cell c1
    clear c0 c1 c2 f1 f2 hl
    refine wp_region_ext (by kernel_rfl) (by kernel_rfl) ?_
    repeat (go_big_quiet_step (exact ext_call (eword_any s pk W _ HS.out)))
    refine wpQuiet_nil ?_
    rintro _ ⟨x, rfl⟩
    have HX := Lib.hid x.h
    clear x0 x1
    generalize x.w = w2 at *
    have HR : Hid (psW s.data.toList ⟨pk, 0⟩ W.data.toList = PS.adv ⟨pk, 0⟩ (ewordT s.data.toList pk W.data.toList).1 (ewordT s.data.toList pk W.data.toList).2) := by unfold Hid psW; rw [if_neg (by simp)]
    generalize ewordT s.data.toList pk W.data.toList = Y at *
    obtain ⟨y1, y2⟩ := Y
    go_wp2_with fail
    refine (adv_any g s ⟨pk, 0⟩ _ _ w2 (H.out.ext HX.out)).mono ?_
    rintro e w3 ⟨rfl, hp3, hm3⟩
    go_wp2_with fail
    go_end0
    rw [HR.out]
    exact ⟨rfl, hp3, Mv.trans (Mv.of HX.out) hm3⟩
set_option maxRecDepth 100000 in
set_option maxHeartbeats 4000000 in
theorem int_any (g : Nat) (s : ByteArray) (p : PS) (w : World) (h : PAt w g s p) (hs : s.size ≤ maxLen) :
    Calls Tryz.prog 27 #[.pointer (some ⟨g, 0, none⟩)] w fun e w' => e = .returned (.int .i64 (psV s.data.toList p)) ∧ PAt w' g s (psI s.data.toList p) ∧ Mv g w w' := by
  obtain ⟨⟨c0, c1, c2⟩, f1, f2, hl⟩ := h.cells
  have H := Lib.hid h
  have HS := Lib.hid hs
  clear h hs
  obtain ⟨pk, pe⟩ := p
  simp only at c1 c2
  by_cases h0 : pe = 0
  rotate_left
  · have hb : (pe != 0) = true := by simp [h0]
    have HR : Hid (psI s.data.toList ⟨pk, pe⟩ = ⟨pk, pe⟩ ∧ psV s.data.toList ⟨pk, pe⟩ = 0) := by unfold Hid psI psV; rw [if_pos h0, if_pos h0]; exact ⟨rfl, rfl⟩
    clear h0
    go_enter Tryz.func27, Tryz.ntmps27
    go_wp2_with fail
    go_ret
    rw [HR.out.1, HR.out.2]
    exact ⟨rfl, H.out, grown_refl _ _⟩
  · subst h0
    go_enter Tryz.func27, Tryz.ntmps27
    go_wp2_with fail
    have x0 := fun x : ExtOf w => x.cell c0
    have x1 := fun x : ExtOf w => x.cell c1
    clear c0 c1 c2 f1 f2 hl
    refine wp_region_ext (by kernel_rfl) (by kernel_rfl) ?_
    repeat (go_big_quiet_step (exact ext_call (eint_any s pk _ HS.out)))
    refine wpQuiet_nil ?_
    rintro _ ⟨x, rfl⟩
    have HX := Lib.hid x.h
    clear x0 x1
    generalize x.w = w2 at *
    have HR : Hid (psI s.data.toList ⟨pk, 0⟩ = PS.adv ⟨pk, 0⟩ (eintT s.data.toList pk).2.1 (eintT s.data.toList pk).2.2 ∧ psV s.data.toList ⟨pk, 0⟩ = (eintT s.data.toList pk).1) := by unfold Hid psI psV; rw [if_neg (by simp), if_neg (by simp)]; exact ⟨rfl, rfl⟩
    generalize eintT s.data.toList pk = Y at *
    obtain ⟨y1, y2, y3⟩ := Y
    go_wp2_with fail
    refine (adv_any g s ⟨pk, 0⟩ _ _ w2 (H.out.ext HX.out)).mono ?_
    rintro e w3 ⟨rfl, hp3, hm3⟩
    go_wp2_with fail
    go_ret
    rw [HR.out.1, HR.out.2]
    exact ⟨rfl, hp3, Mv.trans (Mv.of HX.out) hm3⟩
theorem alloc_t (o : Oper) (ho : o.op = .alloc 53) (a : Act) (w : World) : (execOp a.eval o).run Tryz.prog w = .ok (.value (.pointer (some ⟨w.heap.size, 0, none⟩))) (w.alloc (.cells #[.int .u8 0, .string ⟨#[]⟩, .bool false, .slice none 0 0, .bool false, .slice none 0 0] 53)) := by
  obtain ⟨dst, op, type, pos, after, guard⟩ := o
  simp only at ho
  subst ho
  kernel_rfl
theorem makes_t {l : List Oper} {f : Nat} {o : Oper} (h : l[f]? = some o) (ho : o.op = .alloc 53) : Makes Tryz.prog l.toArray (fun _ => .cells #[.int .u8 0, .string ⟨#[]⟩, .bool false, .slice none 0 0, .bool false, .slice none 0 0] 53) f := ⟨o, by simpa using h, fun a w => alloc_t o ho a w⟩
theorem RowN.mv {g r n : Nat} {w w' : World} (h : RowN w r n) (hm : Mv g w w') (hne : r ≠ g) : RowN w' r n := by
  have hb : w'.heap[r]? = w.heap[r]? := hm.block r h.1 (fun e => hne (by injection e))
  exact ⟨Nat.lt_of_lt_of_le h.1 hm.size, fun j hj => by rw [World.cell?_of_block (w := w) (w' := w') (a := ⟨r, j, none⟩) hb]; exact h.2.1 j hj, fun j => by rw [World.frozen?_of_block (w := w) (w' := w') (a := ⟨r, j, none⟩) hb]; exact h.2.2 j⟩
theorem Mv.cell {g : Nat} {w w' : World} (h : Mv g w w') {p : Addr} {v : Value} (hc : w.cell? p = some v) (hne : p.block ≠ g) : w'.cell? p = some v := World.grownBy.cell h hc (fun e => hne (by injection e))
theorem PAt.touch {w w' : World} {g r : Nat} {s : ByteArray} {p : PS} (h : PAt w g s p) (ht : Touch r w w') (hne : g ≠ r) : PAt w' g s p := (ht.block g hne).trans h
theorem Touch.io {r : Nat} {w w' : World} (ht : Touch r w w') : w'.os = w.os ∧ w'.tape = w.tape ∧ w'.output = w.output := by
  have h := ht.ext { w with heap := #[] } ⟨rfl, rfl, rfl, Nat.zero_le _, fun k hk => absurd hk (by simp)⟩ (by simp)
  exact ⟨h.os, h.tape, h.output⟩
theorem Mv.touch {g r : Nat} {w w1 w2 : World} (h : Mv g w w1) (ht : Touch r w1 w2) (hr : w.heap.size ≤ r) : Mv g w w2 := by
  have he := ht.io
  exact ⟨he.1.trans h.os, he.2.1.trans h.tape, he.2.2.trans h.output, by rw [ht.size]; exact h.size, fun k hk hn => (ht.block k (by omega)).trans (h.block k hk hn)⟩
set_option maxRecDepth 100000 in
set_option maxHeartbeats 8000000 in
theorem nexpect_any (g : Nat) (s : ByteArray) (p : PS) (kd : Int) (w : World) (h : PAt w g s p) (hs : s.size ≤ maxLen) :
    Calls Tryz.prog 25 #[.pointer (some ⟨g, 0, none⟩), .int .u8 kd] w fun e w' => (∃ su Au nu cu tu Bu mu du, e = .returned (.agg #[.int .u8 (psT s.data.toList p kd).kind, .string (bs (psT s.data.toList p kd).text), .bool su, .slice Au nu cu, .bool tu, .slice Bu mu du])) ∧ PAt w' g s (psE s.data.toList p kd) ∧ Mv g w w' := by
  obtain ⟨⟨c0, c1, c2⟩, f1, f2, hl⟩ := (h.ext (Ext.al Ext.rfl' (.cells #[.int .u8 0, .string ⟨#[]⟩, .bool false, .slice none 0 0, .bool false, .slice none 0 0] 53))).cells
  have H := Lib.hid h
  have HLT := Lib.hid h.blk.lt
  have HS := Lib.hid hs
  clear h hs
  obtain ⟨pk, pe⟩ := p
  simp only at c1 c2
  by_cases h0 : pe = 0
  rotate_left
  · have hb : (pe != 0) = true := by simp [h0]
    have HR : Hid (psE s.data.toList ⟨pk, pe⟩ kd = ⟨pk, pe⟩ ∧ psT s.data.toList ⟨pk, pe⟩ kd = tok0) := by unfold Hid psE psT; rw [if_pos h0, if_pos h0]; exact ⟨rfl, rfl⟩
    clear h0
    go_enter Tryz.func25, Tryz.ntmps25
    go_wp2_with fail
    refine bodyPost_ret (v := .agg #[.int .u8 0, .string ⟨#[]⟩, .bool false, .slice none 0 0, .bool false, .slice none 0 0]) (by simp [results, Tryz.results25, go_sem]) rfl ?_
    rw [HR.out.1, HR.out.2]
    exact ⟨⟨_, _, _, _, _, _, _, _, rfl⟩, H.out.ext (Ext.al Ext.rfl' _), Mv.of (Ext.al Ext.rfl' _)⟩
  · subst h0
    have HR : Hid (psE s.data.toList ⟨pk, 0⟩ kd = PS.adv ⟨pk, 0⟩ (expectT s.data.toList pk kd).nx (expectT s.data.toList pk kd).e ∧ psT s.data.toList ⟨pk, 0⟩ kd = (expectT s.data.toList pk kd).t) := by unfold Hid psE psT; rw [if_neg (by simp), if_neg (by simp)]; exact ⟨rfl, rfl⟩
    go_enter Tryz.func25, Tryz.ntmps25
    go_wp2_with fail
    clear c0 c1 c2 f1 f2 hl
    have hR := RowN.of_blk (World.alloc_heap_new w (.cells #[.int .u8 0, .string ⟨#[]⟩, .bool false, .slice none 0 0, .bool false, .slice none 0 0] 53))
    have hE : Ext w (w.alloc (.cells #[.int .u8 0, .string ⟨#[]⟩, .bool false, .slice none 0 0, .bool false, .slice none 0 0] 53)) := Ext.al Ext.rfl' _
    have hsz : (w.alloc (.cells #[.int .u8 0, .string ⟨#[]⟩, .bool false, .slice none 0 0, .bool false, .slice none 0 0] 53)).heap.size = w.heap.size + 1 := by simp
    generalize (w.alloc (.cells #[.int .u8 0, .string ⟨#[]⟩, .bool false, .slice none 0 0, .bool false, .slice none 0 0] 53)) = w0 at *
    have RN := Lib.hid (show RowN w0 w.heap.size 6 from hR)
    have SZ := Lib.hid hsz
    clear hR hsz
    have Ew0 := Lib.hid hE
    clear hE
    refine wp_region_havS [14] [0, 1, 2, 3, 4, 5, 6, 7, 8, 9, 10, 11, 12, 13] [15, 16, 17] (fun _ => .cells #[.int .u8 0, .string ⟨#[]⟩, .bool false, .slice none 0 0, .bool false, .slice none 0 0] 53) (by kernel_rfl) (by kernel_rfl) ?_ ?_
    · intro f hf
      simp only [List.mem_cons, List.not_mem_nil, or_false] at hf
      rcases hf with rfl
      all_goals exact makes_t (by rfl) rfl
    have hE : Ext w0 w0.drew := Ext.rfl'.drew
    generalize w0.drew = w1 at *
    have Ew1 := Lib.hid hE
    clear hE
    have fg0 := fun z : ExtX w1 [] => z.cell (p := ⟨g, 0, none⟩) (H.out.ext (Ext.trans Ew0.out Ew1.out)).cells.1.1 (by simp)
    have fg1 := fun z : ExtX w1 [] => z.cell (p := ⟨g, 1, none⟩) (H.out.ext (Ext.trans Ew0.out Ew1.out)).cells.1.2.1 (by simp)
    intro w2 hE
    have Ew2 := Lib.hid hE
    clear hE
    repeat (refine havAt_still (by rfl) (by rfl) ?_; go_big_quiet_step (fail); refine wpQuiet_nil ?_)
    refine havAt_move (by rfl) (by rfl) (by kernel_rfl) ?_
    go_wp2_with fail
    refine (expect_any s pk kd w2 HS.out).mono ?_
    rintro e w3 ⟨su, Au, nu, cu, tu, Bu, mu, du, rfl, hT, hE⟩
    have Ew3 := Lib.hid hE
    clear hE
    clear hT
    generalize expectT s.data.toList pk kd = X at *
    obtain ⟨⟨xk, xt, xq⟩, xn, xe⟩ := X
    simp only
    go_wp2_with fail
    refine And.intro Ew3.out (fun w4 hE => ?_)
    have Ew4 := Lib.hid hE
    clear hE
    repeat (refine havAt_still (by rfl) (by rfl) ?_; go_big_quiet_step (fail); refine wpQuiet_nil ?_)
    refine havAt_end ?_
    intro gs hgs hne
    have hp6 := hgs 14 (by simp)
    change IdxAt _ _ _ _ _ _ (Act.put _ (some 5) (.pointer (some ⟨gs 14, 0, none⟩))) _
    generalize gs 14 = gb at *
    clear hgs hne
    simp only [Act.put, List.setIfInBounds_toArray, List.set_cons_succ, List.set_cons_zero]
    have HGB := Lib.hid hp6.1
    have hrb := RowN.of_blk hp6.2.1
    have HRB := Lib.hid (show RowN _ gb 6 from hrb)
    clear hp6 hrb
    have HTB := Lib.hid (HRB.out.there (o := 0) (k := 6) (by simp))
    refine idxAt_move (by rfl) (by rfl) (by kernel_rfl) ?_
    refine wpList_storeV rfl 53 _ _ rfl gb 0 [.int .u8 xk, .string (bs xt), .bool su, .slice Au nu cu, .bool tu, .slice Bu mu du] rfl rfl HTB.out (by kernel_rfl) rfl ?_
    intro wB hpv
    go_wp2_with fail
    have NJb := Lib.hid (hpv.touch.ext w1 (Ext.trans Ew2.out (Ext.trans Ew3.out Ew4.out)) HGB.out)
    have HPB := Lib.hid hpv
    have NZb := Lib.hid (Nat.le_of_eq hpv.touch.size.symm)
    clear hpv HTB
    refine And.intro (inX_of_ext _ NJb.out) ?_
    repeat (refine idxAt_still (by rfl) (by rfl) ?_; go_big_quiet_step (fail); refine wpQuiet_nil ?_)
    refine idxAt_nil ?_
    clear fg0 fg1
    go_wp2_with fail
    have HEX := Lib.hid (Ext.trans Ew1.out NJb.out)
    have HEX0 := Lib.hid (Ext.trans Ew0.out (Ext.trans Ew1.out NJb.out))
    have HPW : Hid (PAt wB g s ⟨pk, 0⟩) := H.out.ext HEX0.out
    refine (adv_any g s ⟨pk, 0⟩ _ _ wB HPW.out).mono ?_
    rintro e w8 ⟨rfl, hp8, hm8⟩
    have hgr : g < w.heap.size := HLT.out
    have hrn : Hid (RowN w8 w.heap.size 6) := (RN.out.ext HEX.out).mv hm8 (by omega)
    have hbge : w.heap.size + 1 ≤ gb := by have := HGB.out; have := SZ.out; have h3 := Ew1.out.size; omega
    have y0 : w8.cell? ⟨gb, 0, none⟩ = some (.int .u8 xk) := hm8.cell (by simpa using HPB.out.here 0 _ rfl) (by simp; omega)
    have y1 : w8.cell? ⟨gb, 1, none⟩ = some (.string (bs xt)) := hm8.cell (by simpa using HPB.out.here 1 _ rfl) (by simp; omega)
    have y2 : w8.cell? ⟨gb, 2, none⟩ = some (.bool su) := hm8.cell (by simpa using HPB.out.here 2 _ rfl) (by simp; omega)
    have y3 : w8.cell? ⟨gb, 3, none⟩ = some (.slice Au nu cu) := hm8.cell (by simpa using HPB.out.here 3 _ rfl) (by simp; omega)
    have y4 : w8.cell? ⟨gb, 4, none⟩ = some (.bool tu) := hm8.cell (by simpa using HPB.out.here 4 _ rfl) (by simp; omega)
    have y5 : w8.cell? ⟨gb, 5, none⟩ = some (.slice Bu mu du) := hm8.cell (by simpa using HPB.out.here 5 _ rfl) (by simp; omega)
    have HP8 := Lib.hid hp8
    have HM8 := Lib.hid hm8
    have HT8 := Lib.hid (hrn.out.there (o := 0) (k := 6) (by omega))
    clear hp8 hm8
    go_wp2_with (
      refine wpList_storeV rfl 53 _ _ rfl w.heap.size 0 [.int .u8 xk, .string (bs xt), .bool su, .slice Au nu cu, .bool tu, .slice Bu mu du] rfl rfl HT8.out (by kernel_rfl) rfl ?_
      intro w9 hp
      have HP9 := Lib.hid hp
      clear hp y0 y1 y2 y3 y4 y5)
    have c0 := HP9.out.here 0 _ rfl
    have c1 := HP9.out.here 1 _ rfl
    have c2 := HP9.out.here 2 _ rfl
    have c3 := HP9.out.here 3 _ rfl
    have c4 := HP9.out.here 4 _ rfl
    have c5 := HP9.out.here 5 _ rfl
    simp only [Nat.zero_add] at c0 c1 c2 c3 c4 c5
    refine bodyPost_ret (v := .agg #[.int .u8 xk, .string (bs xt), .bool su, .slice Au nu cu, .bool tu, .slice Bu mu du]) (by simp [results, Tryz.results25, go_sem, c0, c1, c2, c3, c4, c5]) rfl ?_
    rw [HR.out.1, HR.out.2]
    exact ⟨⟨_, _, _, _, _, _, _, _, rfl⟩, HP8.out.touch HP9.out.touch (by omega), Mv.touch (Mv.trans (Mv.of HEX0.out) HM8.out) HP9.out.touch (Nat.le_refl _)⟩
end Go.Proofs.YtnofbjcikfofgaaGreat
