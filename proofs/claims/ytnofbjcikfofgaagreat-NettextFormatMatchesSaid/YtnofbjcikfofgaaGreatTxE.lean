/- Contracts of token.Expect, ExpectWord, ExpectInt, Peek. Printed by gen_txe.py. -/
import Derived.Test.YtnofbjcikfofgaaGreatTxT
namespace Go.Proofs.YtnofbjcikfofgaaGreat
open Go.RowKit
/-- The cells of a token. -/
def Cell6 (w : World) (g : Nat) (v0 v1 v2 v3 v4 v5 : Value) : Prop := w.cell? ⟨g, 0, none⟩ = some v0 ∧ w.cell? ⟨g, 1, none⟩ = some v1 ∧ w.cell? ⟨g, 2, none⟩ = some v2 ∧ w.cell? ⟨g, 3, none⟩ = some v3 ∧ w.cell? ⟨g, 4, none⟩ = some v4 ∧ w.cell? ⟨g, 5, none⟩ = some v5 ∧ g < w.heap.size
theorem Cell6.new (w : World) (v0 v1 v2 v3 v4 v5 : Value) (t : TypeId) : Cell6 (w.alloc (.cells #[v0, v1, v2, v3, v4, v5] t)) w.heap.size v0 v1 v2 v3 v4 v5 := by
  have hb : Blk (w.alloc (.cells #[v0, v1, v2, v3, v4, v5] t)) w.heap.size t #[v0, v1, v2, v3, v4, v5] := Blk.new w t _
  exact ⟨by rw [hb.cell]; rfl, by rw [hb.cell]; rfl, by rw [hb.cell]; rfl, by rw [hb.cell]; rfl, by rw [hb.cell]; rfl, by rw [hb.cell]; rfl, hb.lt⟩
theorem Cell6.ext {w w' : World} {g : Nat} {v0 v1 v2 v3 v4 v5 : Value} (h : Cell6 w g v0 v1 v2 v3 v4 v5) (hb : Ext w w') : Cell6 w' g v0 v1 v2 v3 v4 v5 :=
  ⟨Ext.cellOf hb h.1, Ext.cellOf hb h.2.1, Ext.cellOf hb h.2.2.1, Ext.cellOf hb h.2.2.2.1, Ext.cellOf hb h.2.2.2.2.1, Ext.cellOf hb h.2.2.2.2.2.1, Nat.lt_of_lt_of_le h.2.2.2.2.2.2 hb.size⟩

set_option maxRecDepth 100000 in
set_option maxHeartbeats 16000000 in
theorem expect_any (s : ByteArray) (k : Int) (kd : Int) (w : World) (hs : s.size ≤ maxLen) :
    Calls Tryz.prog 42 #[.string s, .int .i64 k, .int .u8 kd] w (RetTok w (expectT s.data.toList k kd)) := by
  obtain ⟨Y, hY⟩ : ∃ Y, expectT s.data.toList k kd = Y := ⟨_, rfl⟩
  rw [hY]
  have HY : Hid (Y = if (nextT s.data.toList k).e = 8 then nxE 4 else if (nextT s.data.toList k).e ≠ 0 then nxE (nextT s.data.toList k).e else if (nextT s.data.toList k).t.kind ≠ kd then nxE 3 else nextT s.data.toList k) := hY.symm
  clear hY
  have HS := Lib.hid hs
  clear hs
  go_enter Tryz.func42, Tryz.ntmps42
  go_wp2_with fail
  have hR := RowN.of_blk (World.alloc_heap_new w (.cells #[.int .u8 0, .string ⟨#[]⟩, .bool false, .slice none 0 0, .bool false, .slice none 0 0] 53))
  have hE : Ext w (w.alloc (.cells #[.int .u8 0, .string ⟨#[]⟩, .bool false, .slice none 0 0, .bool false, .slice none 0 0] 53)) := Ext.al Ext.rfl' _
  have hsz : (w.alloc (.cells #[.int .u8 0, .string ⟨#[]⟩, .bool false, .slice none 0 0, .bool false, .slice none 0 0] 53)).heap.size = w.heap.size + 1 := by simp
  generalize (w.alloc (.cells #[.int .u8 0, .string ⟨#[]⟩, .bool false, .slice none 0 0, .bool false, .slice none 0 0] 53)) = w0 at *
  have RN := Lib.hid (show RowN w0 w.heap.size 6 from hR)
  have SZ := Lib.hid hsz
  clear hR hsz
  have Ew0 := Lib.hid hE
  clear hE
  refine (next_tok s k w0 HS.out).mono ?_
  rintro e w1 ⟨su, Au, nu, cu, tu, Bu, mu, du, rfl, hT, hE⟩
  have Ew1 := Lib.hid hE
  clear hE
  rw [SZ.out] at hT
  have Tu := Lib.hid hT
  clear hT
  generalize nextT s.data.toList k = X at *
  obtain ⟨⟨xk, xt, xq⟩, xn, xe⟩ := X
  simp only at HY Tu ⊢
  have HT := Lib.hid ((RN.out.ext Ew1.out).there (o := 0) (k := 6) (by omega))
  have HE := Lib.hid (Ext.trans Ew0.out Ew1.out)
  have RNc := Lib.hid (RN.out.ext Ew1.out)
  by_cases h8 : xe = 8
  · subst h8
    have HR : Hid (Y = nxE 4) := by unfold Hid; rw [HY.out, if_pos rfl]
    clear HY
    go_wp2_with (first
      | (refine wpList_storeV rfl 53 _ _ rfl w.heap.size 0 [.int .u8 xk, .string (bs xt), .bool su, .slice Au nu cu, .bool tu, .slice Bu mu du] rfl rfl HT.out (by kernel_rfl) rfl ?_
         intro w8 hp
         have HP := Lib.hid hp
         have HT2 := Lib.hid ((RNc.out.putVs hp).there (o := 0) (k := 6) (by omega))
         have c0 := hp.here 0 _ rfl
         have c1 := hp.here 1 _ rfl
         have c2 := hp.here 2 _ rfl
         have c3 := hp.here 3 _ rfl
         have c4 := hp.here 4 _ rfl
         have c5 := hp.here 5 _ rfl
         simp only [Nat.zero_add] at c0 c1 c2 c3 c4 c5
         clear hp)
      | (refine wpList_storeV rfl 53 _ _ rfl w.heap.size 0 [.int .u8 0, .string ⟨#[]⟩, .bool false, .slice none 0 0, .bool false, .slice none 0 0] rfl rfl HT2.out (by kernel_rfl) rfl ?_
         intro w9 hp
         clear c0 c1 c2 c3 c4 c5
         have HP2 := Lib.hid hp
         clear hp))
    have c0 := HP2.out.here 0 _ rfl
    have c1 := HP2.out.here 1 _ rfl
    have c2 := HP2.out.here 2 _ rfl
    have c3 := HP2.out.here 3 _ rfl
    have c4 := HP2.out.here 4 _ rfl
    have c5 := HP2.out.here 5 _ rfl
    simp only [Nat.zero_add] at c0 c1 c2 c3 c4 c5
    obtain ⟨hg1, hg2⟩ := tok_put HP.out HE.out (Nat.le_refl _) (B0 := w.heap.size + 1) (Nat.lt_succ_self _) Tu.out
    obtain ⟨hf1, hf2⟩ := tok_put HP2.out hg2 (Nat.le_refl _) (B0 := w.heap.size + 1) (Nat.lt_succ_self _) (tok_zero w8 (w.heap.size + 1) 0 [])
    refine bodyPost_ret (v := .tuple #[.agg #[.int .u8 0, .string ⟨#[]⟩, .bool false, .slice none 0 0, .bool false, .slice none 0 0], .int .i64 0, .int .i64 4]) (by simp [results, Tryz.results42, go_sem, c0, c1, c2, c3, c4, c5]) rfl ?_
    rw [HR.out]
    exact ⟨_, _, _, _, _, _, _, _, rfl, hf1, hf2⟩
  · have h8b : (xe == 8) = false := by simp [h8]
    have HY2 : Hid (Y = if xe ≠ 0 then nxE xe else if xk ≠ kd then nxE 3 else ⟨⟨xk, xt, xq⟩, xn, xe⟩) := by unfold Hid; rw [HY.out, if_neg h8]
    clear HY h8
    by_cases h0 : xe = 0
    rotate_left
    · have h0b : (xe != 0) = true := by simp [h0]
      have HR : Hid (Y = nxE xe) := by unfold Hid; rw [HY2.out, if_pos h0]
      clear HY2 h0
      go_wp2_with (first
        | (refine wpList_storeV rfl 53 _ _ rfl w.heap.size 0 [.int .u8 xk, .string (bs xt), .bool su, .slice Au nu cu, .bool tu, .slice Bu mu du] rfl rfl HT.out (by kernel_rfl) rfl ?_
           intro w8 hp
           have HP := Lib.hid hp
           have HT2 := Lib.hid ((RNc.out.putVs hp).there (o := 0) (k := 6) (by omega))
           have c0 := hp.here 0 _ rfl
           have c1 := hp.here 1 _ rfl
           have c2 := hp.here 2 _ rfl
           have c3 := hp.here 3 _ rfl
           have c4 := hp.here 4 _ rfl
           have c5 := hp.here 5 _ rfl
           simp only [Nat.zero_add] at c0 c1 c2 c3 c4 c5
           clear hp)
        | (refine wpList_storeV rfl 53 _ _ rfl w.heap.size 0 [.int .u8 0, .string ⟨#[]⟩, .bool false, .slice none 0 0, .bool false, .slice none 0 0] rfl rfl HT2.out (by kernel_rfl) rfl ?_
           intro w9 hp
           clear c0 c1 c2 c3 c4 c5
           have HP2 := Lib.hid hp
           clear hp))
      have c0 := HP2.out.here 0 _ rfl
      have c1 := HP2.out.here 1 _ rfl
      have c2 := HP2.out.here 2 _ rfl
      have c3 := HP2.out.here 3 _ rfl
      have c4 := HP2.out.here 4 _ rfl
      have c5 := HP2.out.here 5 _ rfl
      simp only [Nat.zero_add] at c0 c1 c2 c3 c4 c5
      obtain ⟨hg1, hg2⟩ := tok_put HP.out HE.out (Nat.le_refl _) (B0 := w.heap.size + 1) (Nat.lt_succ_self _) Tu.out
      obtain ⟨hf1, hf2⟩ := tok_put HP2.out hg2 (Nat.le_refl _) (B0 := w.heap.size + 1) (Nat.lt_succ_self _) (tok_zero w8 (w.heap.size + 1) 0 [])
      refine bodyPost_ret (v := .tuple #[.agg #[.int .u8 0, .string ⟨#[]⟩, .bool false, .slice none 0 0, .bool false, .slice none 0 0], .int .i64 0, .int .i64 xe]) (by simp [results, Tryz.results42, go_sem, c0, c1, c2, c3, c4, c5]) rfl ?_
      rw [HR.out]
      exact ⟨_, _, _, _, _, _, _, _, rfl, hf1, hf2⟩
    · subst h0
      have HY3 : Hid (Y = if xk ≠ kd then nxE 3 else ⟨⟨xk, xt, xq⟩, xn, 0⟩) := by unfold Hid; rw [HY2.out, if_neg (by simp)]
      clear HY2 h8b
      by_cases hk : xk = kd
      rotate_left
      · have hkb : (xk != kd) = true := by simp [hk]
        have HR : Hid (Y = nxE 3) := by unfold Hid; rw [HY3.out, if_pos hk]
        clear HY3 hk
        go_wp2_with (first
          | (refine wpList_storeV rfl 53 _ _ rfl w.heap.size 0 [.int .u8 xk, .string (bs xt), .bool su, .slice Au nu cu, .bool tu, .slice Bu mu du] rfl rfl HT.out (by kernel_rfl) rfl ?_
             intro w8 hp
             have HP := Lib.hid hp
             have HT2 := Lib.hid ((RNc.out.putVs hp).there (o := 0) (k := 6) (by omega))
             have c0 := hp.here 0 _ rfl
             have c1 := hp.here 1 _ rfl
             have c2 := hp.here 2 _ rfl
             have c3 := hp.here 3 _ rfl
             have c4 := hp.here 4 _ rfl
             have c5 := hp.here 5 _ rfl
             simp only [Nat.zero_add] at c0 c1 c2 c3 c4 c5
             clear hp)
          | (refine wpList_storeV rfl 53 _ _ rfl w.heap.size 0 [.int .u8 0, .string ⟨#[]⟩, .bool false, .slice none 0 0, .bool false, .slice none 0 0] rfl rfl HT2.out (by kernel_rfl) rfl ?_
             intro w9 hp
             clear c0 c1 c2 c3 c4 c5
             have HP2 := Lib.hid hp
             clear hp))
        have c0 := HP2.out.here 0 _ rfl
        have c1 := HP2.out.here 1 _ rfl
        have c2 := HP2.out.here 2 _ rfl
        have c3 := HP2.out.here 3 _ rfl
        have c4 := HP2.out.here 4 _ rfl
        have c5 := HP2.out.here 5 _ rfl
        simp only [Nat.zero_add] at c0 c1 c2 c3 c4 c5
        obtain ⟨hg1, hg2⟩ := tok_put HP.out HE.out (Nat.le_refl _) (B0 := w.heap.size + 1) (Nat.lt_succ_self _) Tu.out
        obtain ⟨hf1, hf2⟩ := tok_put HP2.out hg2 (Nat.le_refl _) (B0 := w.heap.size + 1) (Nat.lt_succ_self _) (tok_zero w8 (w.heap.size + 1) 0 [])
        refine bodyPost_ret (v := .tuple #[.agg #[.int .u8 0, .string ⟨#[]⟩, .bool false, .slice none 0 0, .bool false, .slice none 0 0], .int .i64 0, .int .i64 3]) (by simp [results, Tryz.results42, go_sem, c0, c1, c2, c3, c4, c5]) rfl ?_
        rw [HR.out]
        exact ⟨_, _, _, _, _, _, _, _, rfl, hf1, hf2⟩
      · subst hk
        have hkb : (xk != xk) = false := by simp
        have HR : Hid (Y = ⟨⟨xk, xt, xq⟩, xn, 0⟩) := by unfold Hid; rw [HY3.out, if_neg (by simp)]
        clear HY3
        have TU : ∀ w8 : World, PutVs w.heap.size 0 [.int .u8 xk, .string (bs xt), .bool su, .slice Au nu cu, .bool tu, .slice Bu mu du] w1 w8 → TokIs w8 (w.heap.size + 1) ⟨xk, xt, xq⟩ su Au nu cu tu Bu mu du := fun w8 hp => ⟨⟨(Tu.out.1.touch hp.touch ⟨fun h ad e => by have := (Tu.out.1.away w.heap.size).1 h ad e; omega, fun h ad e => by have := (Tu.out.1.away w.heap.size).2 h ad e; omega⟩).1, (Tu.out.1.touch hp.touch ⟨fun h ad e => by have := (Tu.out.1.away w.heap.size).1 h ad e; omega, fun h ad e => by have := (Tu.out.1.away w.heap.size).2 h ad e; omega⟩).2⟩, Tu.out.2⟩
        have HTU := Lib.hid TU
        clear TU
        go_wp2_with (first
          | (refine wpList_storeV rfl 53 _ _ rfl w.heap.size 0 [.int .u8 xk, .string (bs xt), .bool su, .slice Au nu cu, .bool tu, .slice Bu mu du] rfl rfl HT.out (by kernel_rfl) rfl ?_
             intro w8 hp
             have HP := Lib.hid hp
             have HT2 := Lib.hid ((RNc.out.putVs hp).there (o := 0) (k := 6) (by omega))
             have c0 := hp.here 0 _ rfl
             have c1 := hp.here 1 _ rfl
             have c2 := hp.here 2 _ rfl
             have c3 := hp.here 3 _ rfl
             have c4 := hp.here 4 _ rfl
             have c5 := hp.here 5 _ rfl
             simp only [Nat.zero_add] at c0 c1 c2 c3 c4 c5
             clear hp)
          | (refine wpList_storeV rfl 53 _ _ rfl w.heap.size 0 [.int .u8 xk, .string (bs xt), .bool su, .slice Au nu cu, .bool tu, .slice Bu mu du] rfl rfl HT2.out (by kernel_rfl) rfl ?_
             intro w9 hp
             clear c0 c1 c2 c3 c4 c5
             have HP2 := Lib.hid hp
             clear hp))
        have c0 := HP2.out.here 0 _ rfl
        have c1 := HP2.out.here 1 _ rfl
        have c2 := HP2.out.here 2 _ rfl
        have c3 := HP2.out.here 3 _ rfl
        have c4 := HP2.out.here 4 _ rfl
        have c5 := HP2.out.here 5 _ rfl
        simp only [Nat.zero_add] at c0 c1 c2 c3 c4 c5
        obtain ⟨hg1, hg2⟩ := tok_put HP.out HE.out (Nat.le_refl _) (B0 := w.heap.size + 1) (Nat.lt_succ_self _) Tu.out
        obtain ⟨hf1, hf2⟩ := tok_put HP2.out hg2 (Nat.le_refl _) (B0 := w.heap.size + 1) (Nat.lt_succ_self _) (HTU.out w8 HP.out)
        refine bodyPost_ret (v := .tuple #[.agg #[.int .u8 xk, .string (bs xt), .bool su, .slice Au nu cu, .bool tu, .slice Bu mu du], .int .i64 xn, .int .i64 0]) (by simp [results, Tryz.results42, go_sem, c0, c1, c2, c3, c4, c5]) rfl ?_
        rw [HR.out]
        exact ⟨_, _, _, _, _, _, _, _, rfl, hf1, hf2⟩
set_option maxRecDepth 100000 in
set_option maxHeartbeats 16000000 in
theorem eword_any (s : ByteArray) (k : Int) (W : ByteArray) (w : World) (hs : s.size ≤ maxLen) :
    Calls Tryz.prog 44 #[.string s, .int .i64 k, .string W] w fun e w' => e = .returned (.tuple #[.int .i64 (ewordT s.data.toList k W.data.toList).1, .int .i64 (ewordT s.data.toList k W.data.toList).2]) ∧ Ext w w' := by
  obtain ⟨Y, hY⟩ : ∃ Y, ewordT s.data.toList k W.data.toList = Y := ⟨_, rfl⟩
  rw [hY]
  have HY : Hid (Y = if (expectT s.data.toList k 3).e ≠ 0 then (0, (expectT s.data.toList k 3).e) else if (expectT s.data.toList k 3).t.text ≠ W.data.toList then (0, 3) else ((expectT s.data.toList k 3).nx, 0)) := hY.symm
  clear hY
  have HS := Lib.hid hs
  clear hs
  go_enter Tryz.func44, Tryz.ntmps44
  go_wp2_with fail
  refine (expect_any s k 3 w HS.out).mono ?_
  rintro e w1 ⟨su, Au, nu, cu, tu, Bu, mu, du, rfl, hT, hE⟩
  have Ew1 := Lib.hid hE
  clear hE
  have Tu := Lib.hid hT
  clear hT
  generalize expectT s.data.toList k 3 = X at *
  obtain ⟨⟨xk, xt, xq⟩, xn, xe⟩ := X
  simp only at HY Tu ⊢
  have EB := Lib.hid (show Ext w1 (w1.alloc (.cells #[.int .u8 xk, .string (bs xt), .bool su, .slice Au nu cu, .bool tu, .slice Bu mu du] 53)) from Ext.al Ext.rfl' _)
  have C6 := Lib.hid (Cell6.new w1 (.int .u8 xk) (.string (bs xt)) (.bool su) (.slice Au nu cu) (.bool tu) (.slice Bu mu du) 53)
  obtain ⟨c0, c1, c2, c3, c4, c5, cl⟩ := C6.out
  by_cases h0 : xe = 0
  rotate_left
  · have h0b : (xe != 0) = true := by simp [h0]
    have HR : Hid (Y = (0, xe)) := by unfold Hid; rw [HY.out, if_pos h0]
    clear HY h0
    go_wp2_with fail
    go_ret2
    rw [HR.out]
    exact ⟨rfl, (Ext.trans Ew1.out EB.out)⟩
  · subst h0
    have HY2 : Hid (Y = if xt ≠ W.data.toList then (0, 3) else (xn, 0)) := by unfold Hid; rw [HY.out, if_neg (by simp)]
    clear HY
    have HTL : Hid ((bs xt).toList = xt ∧ W.toList = W.data.toList) := ⟨by rw [ByteArray.toList_eq, bs_list], ByteArray.toList_eq W⟩
    by_cases ht : xt = W.data.toList
    rotate_left
    · have h1 : ((bs xt).toList != W.toList) = true := by rw [HTL.out.1, HTL.out.2]; simpa using ht
      have h2 : ((bs xt).toList == W.toList) = false := by rw [HTL.out.1, HTL.out.2]; simpa using ht
      have h3 : ¬ (bs xt).toList = W.toList := by rw [HTL.out.1, HTL.out.2]; exact ht
      have HR : Hid (Y = (0, 3)) := by unfold Hid; rw [HY2.out, if_pos ht]
      clear HY2 ht
      go_wp2_with fail
      go_ret2
      rw [HR.out]
      exact ⟨rfl, (Ext.trans Ew1.out EB.out)⟩
    · have h1 : ((bs xt).toList != W.toList) = false := by rw [HTL.out.1, HTL.out.2]; simp [ht]
      have h2 : ((bs xt).toList == W.toList) = true := by rw [HTL.out.1, HTL.out.2]; simp [ht]
      have h3 : (bs xt).toList = W.toList := by rw [HTL.out.1, HTL.out.2]; exact ht
      have HR : Hid (Y = (xn, 0)) := by unfold Hid; rw [HY2.out, if_neg (by simp [ht])]
      clear HY2 ht
      go_wp2_with fail
      go_ret2
      rw [HR.out]
      exact ⟨rfl, (Ext.trans Ew1.out EB.out)⟩
set_option maxRecDepth 100000 in
set_option maxHeartbeats 16000000 in
theorem peek_any (s : ByteArray) (k kd : Int) (w : World) (hs : s.size ≤ maxLen) :
    Calls Tryz.prog 28 #[.string s, .int .i64 k, .int .u8 kd] w fun e w' => e = .returned (.bool (peekT s.data.toList k kd)) ∧ Ext w w' := by
  obtain ⟨Y, hY⟩ : ∃ Y, peekT s.data.toList k kd = Y := ⟨_, rfl⟩
  rw [hY]
  have HY : Hid (Y = (decide ((nextT s.data.toList k).e = 0) && decide ((nextT s.data.toList k).t.kind = kd))) := hY.symm
  clear hY
  have HS := Lib.hid hs
  clear hs
  go_enter Tryz.func28, Tryz.ntmps28
  go_wp2_with fail
  refine (next_tok s k w HS.out).mono ?_
  rintro e w1 ⟨su, Au, nu, cu, tu, Bu, mu, du, rfl, hT, hE⟩
  have Ew1 := Lib.hid hE
  clear hE
  have Tu := Lib.hid hT
  clear hT
  generalize nextT s.data.toList k = X at *
  obtain ⟨⟨xk, xt, xq⟩, xn, xe⟩ := X
  simp only at HY Tu ⊢
  have EB := Lib.hid (show Ext w1 (w1.alloc (.cells #[.int .u8 xk, .string (bs xt), .bool su, .slice Au nu cu, .bool tu, .slice Bu mu du] 53)) from Ext.al Ext.rfl' _)
  have C6 := Lib.hid (Cell6.new w1 (.int .u8 xk) (.string (bs xt)) (.bool su) (.slice Au nu cu) (.bool tu) (.slice Bu mu du) 53)
  obtain ⟨c0, c1, c2, c3, c4, c5, cl⟩ := C6.out
  by_cases h0 : xe = 0
  rotate_left
  · have h0b : (xe == 0) = false := by simp [h0]
    have HR : Hid (false = Y) := by unfold Hid; rw [HY.out]; simp [h0]
    clear HY h0
    go_wp2_with fail
    go_ret
    exact ⟨ret_b HR.out, (Ext.trans Ew1.out EB.out)⟩
  · subst h0
    by_cases hk : xk = kd
    rotate_left
    · have hkb : (xk == kd) = false := by simp [hk]
      have HR : Hid (false = Y) := by unfold Hid; rw [HY.out]; simp [hk]
      clear HY hk
      go_wp2_with fail
      go_ret
      exact ⟨ret_b HR.out, (Ext.trans Ew1.out EB.out)⟩
    · subst hk
      have hkb : (xk == xk) = true := by simp
      have HR : Hid (true = Y) := by unfold Hid; rw [HY.out]; simp
      clear HY
      go_wp2_with fail
      go_ret
      exact ⟨ret_b HR.out, (Ext.trans Ew1.out EB.out)⟩
set_option maxRecDepth 100000 in
set_option maxHeartbeats 16000000 in
theorem eint_any (s : ByteArray) (k : Int) (w : World) (hs : s.size ≤ maxLen) :
    Calls Tryz.prog 45 #[.string s, .int .i64 k] w fun e w' => e = .returned (.tuple #[.int .i64 (eintT s.data.toList k).1, .int .i64 (eintT s.data.toList k).2.1, .int .i64 (eintT s.data.toList k).2.2]) ∧ Ext w w' := by
  obtain ⟨Y, hY⟩ : ∃ Y, eintT s.data.toList k = Y := ⟨_, rfl⟩
  rw [hY]
  have HY : Hid (Y = if (expectT s.data.toList k 4).e ≠ 0 then (0, 0, (expectT s.data.toList k 4).e) else if i64B (expectT s.data.toList k 4).t.num.num = false ∨ (expectT s.data.toList k 4).t.num.den ≠ 1 then (0, 0, 1) else ((expectT s.data.toList k 4).t.num.num, (expectT s.data.toList k 4).nx, 0)) := hY.symm
  clear hY
  have HS := Lib.hid hs
  clear hs
  go_enter Tryz.func45, Tryz.ntmps45
  go_wp2_with fail
  refine (expect_any s k 4 w HS.out).mono ?_
  rintro e w1 ⟨su, Au, nu, cu, tu, Bu, mu, du, rfl, hT, hE⟩
  have Ew1 := Lib.hid hE
  clear hE
  have Tu := Lib.hid hT
  clear hT
  generalize expectT s.data.toList k 4 = X at *
  obtain ⟨⟨xk, xt, xq⟩, xn, xe⟩ := X
  simp only at HY Tu ⊢
  have EB := Lib.hid (show Ext w1 (w1.alloc (.cells #[.int .u8 xk, .string (bs xt), .bool su, .slice Au nu cu, .bool tu, .slice Bu mu du] 53)) from Ext.al Ext.rfl' _)
  have C6 := Lib.hid (Cell6.new w1 (.int .u8 xk) (.string (bs xt)) (.bool su) (.slice Au nu cu) (.bool tu) (.slice Bu mu du) 53)
  obtain ⟨c0, c1, c2, c3, c4, c5, cl⟩ := C6.out
  by_cases h0 : xe = 0
  rotate_left
  · have h0b : (xe != 0) = true := by simp [h0]
    have HR : Hid (Y = (0, 0, xe)) := by unfold Hid; rw [HY.out, if_pos h0]
    clear HY h0
    go_wp2_with fail
    refine bodyPost_ret (v := .tuple #[.int .i64 0, .int .i64 0, .int .i64 xe]) (by simp [results, Tryz.results45, go_sem]) rfl ?_
    rw [HR.out]
    exact ⟨rfl, (Ext.trans Ew1.out EB.out)⟩
  · subst h0
    have HY2 : Hid (Y = if i64B xq.num = false ∨ xq.den ≠ 1 then (0, 0, 1) else (xq.num, xn, 0)) := by unfold Hid; rw [HY.out, if_neg (by simp)]
    clear HY
    go_wp2_with fail
    clear c0 c1 c2 c3 c4 c5 cl
    have C6' := C6.out
    have hEB := EB.out
    clear C6 EB
    generalize (w1.alloc (.cells #[.int .u8 xk, .string (bs xt), .bool su, .slice Au nu cu, .bool tu, .slice Bu mu du] 53)) = wb at *
    have C6 := Lib.hid C6'
    have EB := Lib.hid hEB
    clear C6' hEB
    refine (int64_any su Au nu cu xq.num wb (Tu.out.ext EB.out).1.1.is).mono ?_
    rintro e w2 ⟨rfl, hE⟩
    have Ew2 := Lib.hid hE
    clear hE
    obtain ⟨iv, hiv⟩ : ∃ v, i64V xq.num = v := ⟨_, rfl⟩
    obtain ⟨ib, hib⟩ : ∃ v, i64B xq.num = v := ⟨_, rfl⟩
    rw [hib] at HY2
    have HIV : Hid (iv = if ib then xq.num else 0) := by unfold Hid; rw [← hiv, ← hib]; rfl
    rw [hiv, hib]
    clear hiv hib
    cases ib
    · have HR : Hid (Y = (0, 0, 1)) := by unfold Hid; rw [HY2.out, if_pos (.inl rfl)]
      clear HY2
      go_wp2_with fail
      refine bodyPost_ret (v := .tuple #[.int .i64 0, .int .i64 0, .int .i64 1]) (by simp [results, Tryz.results45, go_sem]) rfl ?_
      rw [HR.out]
      exact ⟨rfl, (Ext.trans Ew1.out (Ext.trans EB.out Ew2.out))⟩
    · obtain rfl : iv = xq.num := by rw [HIV.out]; simp
      have HY3 : Hid (Y = if xq.den ≠ 1 then (0, 0, 1) else (xq.num, xn, 0)) := by unfold Hid; rw [HY2.out]; simp
      clear HY2
      obtain ⟨c0, c1, c2, c3, c4, c5, cl⟩ := (C6.out.ext Ew2.out)
      go_wp2_with fail
      clear c0 c1 c2 c3 c4 c5 cl
      refine (sign_any tu Bu mu du (denOf xq) w2 (Tu.out.ext (Ext.trans EB.out Ew2.out)).1.2.is).mono ?_
      rintro e w3 ⟨rfl, hE⟩
      have Ew3 := Lib.hid hE
      clear hE
      by_cases hd : xq.den = 1
      rotate_left
      · have hsg : (denOf xq).sign = 1 := by unfold denOf; rw [if_neg hd]; exact Int.sign_eq_one_of_pos (by have := xq.den_pos; omega)
        rw [hsg]
        have HR : Hid (Y = (0, 0, 1)) := by unfold Hid; rw [HY3.out, if_pos hd]
        clear HY3 hd hsg
        go_wp2_with fail
        refine bodyPost_ret (v := .tuple #[.int .i64 0, .int .i64 0, .int .i64 1]) (by simp [results, Tryz.results45, go_sem]) rfl ?_
        rw [HR.out]
        exact ⟨rfl, (Ext.trans Ew1.out (Ext.trans EB.out (Ext.trans Ew2.out Ew3.out)))⟩
      · have hsg : (denOf xq).sign = 0 := by unfold denOf; rw [if_pos hd]; rfl
        rw [hsg]
        have HR : Hid (Y = (xq.num, xn, 0)) := by unfold Hid; rw [HY3.out, if_neg (by simp [hd])]
        clear HY3 hd hsg
        go_wp2_with fail
        refine bodyPost_ret (v := .tuple #[.int .i64 xq.num, .int .i64 xn, .int .i64 0]) (by simp [results, Tryz.results45, go_sem]) rfl ?_
        rw [HR.out]
        exact ⟨rfl, (Ext.trans Ew1.out (Ext.trans EB.out (Ext.trans Ew2.out Ew3.out)))⟩
end Go.Proofs.YtnofbjcikfofgaaGreat
