/- The contract of token.All at a text that is read token by token. By hand. -/
import Derived.Test.YtkdbpcenehhopaaGreatTxA
namespace Go.Proofs.YtkdbpcenehhopaaGreat
open Go.RowKit
set_option maxRecDepth 100000 in
set_option maxHeartbeats 16000000 in
theorem all_any (s : ByteArray) (ts : List Tok) (k' : Int) (w : World) (hs : s.size ≤ maxLen) (hr : Rd s.data.toList 0 ts k') (hn : nextT s.data.toList k' = nxE 8) (hl : ts.length ≤ 1000) :
    Calls Tryz.prog 19 #[.string s] w fun e w' => (∃ v, e = .returned (.tuple #[v, .int .i64 0]) ∧ RowT w' w.heap.size v ts) ∧ Ext w w' := by
  have HS := Lib.hid hs
  have HN := Lib.hid hn
  have HL := Lib.hid hl
  have HR : Hid (Rd s.data.toList 0 (ts.drop 0) k') := hr
  clear hs hr hn hl
  go_enter Tryz.func19, Tryz.ntmps19
  go_wp2_with fail
  obtain ⟨B, hB⟩ : ∃ B, w.heap.size = B := ⟨_, rfl⟩
  have HBW := Lib.hid hB
  have HS0 : Hid (B ≤ w.heap.size) := Nat.le_of_eq hB.symm
  clear hB
  go_loopw [4, 5] (fun v i wr => ∃ (j : Nat) (k : Int), i = .int .i64 k ∧ Hid (j ≤ ts.length) ∧ Hid (Rd s.data.toList k (ts.drop j) k') ∧ Hid (RowT wr B v (ts.take j)) ∧ Hid (Ext w wr) ∧ Hid (B ≤ wr.heap.size)) (fun _ i _ => s.size + 1 - (intOf i).toNat)
  case atStart => exact ⟨0, 0, rfl, Nat.zero_le _, HR, ⟨[], ⟨by simp, .inl ⟨rfl, rfl⟩⟩, rfl⟩, Ext.rfl', HS0⟩
  case round =>
    obtain ⟨j, k, rfl, HJ, HRD, HROW, HE, HBS⟩ := hrel
    go_wp2_with fail
    refine (next_tok s k wr HS.out).mono ?_
    rintro e w1 ⟨su, Au, nu, cu, tu, Bu, mu, du, rfl, hT, hE⟩
    have HT := Lib.hid hT
    have HE1 := Lib.hid (Ext.trans HE.out hE)
    have HROW1 := Lib.hid (HROW.out.ext hE)
    have HBS1 : Hid (B ≤ w1.heap.size) := Nat.le_trans HBS.out hE.size
    have HGR := Lib.hid hE.size
    clear hT hE
    by_cases hj : j < ts.length
    · obtain ⟨t, r, hd⟩ : ∃ t r, ts.drop j = t :: r := ⟨ts[j], ts.drop (j + 1), List.drop_eq_getElem_cons hj⟩
      obtain ⟨m, hnx, hrd⟩ : ∃ m, nextT s.data.toList k = ⟨t, m, 0⟩ ∧ Rd s.data.toList m r k' := by
        have := HRD.out
        rw [hd] at this
        exact this
      have hdr : r = ts.drop (j + 1) := by
        have h2 := List.drop_eq_getElem_cons hj
        rw [hd] at h2
        injection h2
      have hta : ts.take (j + 1) = ts.take j ++ [t] := by
        rw [List.take_succ_eq_append_getElem hj]
        have h2 := List.drop_eq_getElem_cons hj
        rw [hd] at h2
        injection h2 with h3 h4
        rw [h3]
      have hok := nextT_ok (l := s.data.toList) (k := k) (by rw [hnx])
      rw [hnx] at hok HT ⊢
      rw [hdr] at hrd
      have HRD2 := Lib.hid hrd
      have HTA := Lib.hid hta
      have HOK := Lib.hid hok
      have HJ2 : Hid (j < ts.length) := hj
      clear hd hdr hta hnx hrd hok hj
      obtain ⟨xk, xt, xq⟩ := t
      simp only at HOK
      have hE2 : Ext w1 (w1.alloc (.cells #[.int .u8 xk, .string (bs xt), .bool su, .slice Au nu cu, .bool tu, .slice Bu mu du] 79)) := Ext.al Ext.rfl' _
      have hE3 : Ext w1 ((w1.alloc (.cells #[.int .u8 xk, .string (bs xt), .bool su, .slice Au nu cu, .bool tu, .slice Bu mu du] 79)).alloc (.cells #[.int .u8 xk, .string (bs xt), .bool su, .slice Au nu cu, .bool tu, .slice Bu mu du] 79)) := Ext.al hE2 _
      have hrow := HROW.out
      obtain ⟨cs0, ho0, -⟩ := hrow
      have hw : ∀ x, u4.ownBlock = some x → x < wr.heap.size := fun x hx => (own_lt ho0 hx).1
      have hT9 := HT.out.ext hE3
      have hTC : TokCs ((w1.alloc (.cells #[.int .u8 xk, .string (bs xt), .bool su, .slice Au nu cu, .bool tu, .slice Bu mu du] 79)).alloc (.cells #[.int .u8 xk, .string (bs xt), .bool su, .slice Au nu cu, .bool tu, .slice Bu mu du] 79)) B u4.ownBlock [⟨xk, xt, xq⟩] [.int .u8 xk, .string (bs xt), .bool su, .slice Au nu cu, .bool tu, .slice Bu mu du] := by
        refine ⟨_, [], rfl, ⟨su, Au, nu, cu, tu, Bu, mu, du, rfl, hT9.lite, ?_, ?_⟩, rfl⟩
        · intro _ ad e
          obtain ⟨b2, o2, e2, h1, h2, _⟩ := HT.out.1.1.2.2.2.2 ad e
          have := hE3.size
          have := HBS.out
          rw [e2]
          exact ⟨by show B ≤ b2; omega, by show b2 < _; omega, fun e3 => by have := hw b2 e3; omega⟩
        · intro _ ad e
          obtain ⟨b2, o2, e2, h1, h2, _⟩ := HT.out.1.2.2.2.2.2 ad e
          have := hE3.size
          have := HBS.out
          rw [e2]
          exact ⟨by show B ≤ b2; omega, by show b2 < _; omega, fun e3 => by have := hw b2 e3; omega⟩
      have HTC := Lib.hid hTC
      have HC6 := Lib.hid (Cell6.new w1 (.int .u8 xk) (.string (bs xt)) (.bool su) (.slice Au nu cu) (.bool tu) (.slice Bu mu du) 79)
      have HE2 := Lib.hid (Ext.trans HE1.out hE3)
      have HROW2 := Lib.hid (HROW1.out.ext hE3)
      have HBS2 : Hid (B ≤ ((w1.alloc (.cells #[.int .u8 xk, .string (bs xt), .bool su, .slice Au nu cu, .bool tu, .slice Bu mu du] 79)).alloc (.cells #[.int .u8 xk, .string (bs xt), .bool su, .slice Au nu cu, .bool tu, .slice Bu mu du] 79)).heap.size) := Nat.le_trans HBS1.out hE3.size
      have hnw := World.news_of_block (cs := #[.int .u8 xk, .string (bs xt), .bool su, .slice Au nu cu, .bool tu, .slice Bu mu du]) (t := 79) (fr := (0, 0)) (heap_alloc_new (w1.alloc (.cells #[.int .u8 xk, .string (bs xt), .bool su, .slice Au nu cu, .bool tu, .slice Bu mu du] 79)) (.cells #[.int .u8 xk, .string (bs xt), .bool su, .slice Au nu cu, .bool tu, .slice Bu mu du] 79))
      have hsz : (w1.alloc (.cells #[.int .u8 xk, .string (bs xt), .bool su, .slice Au nu cu, .bool tu, .slice Bu mu du] 79)).heap.size = w1.heap.size + 1 := by simp
      rw [hsz] at hnw
      have HNW := Lib.hid hnw
      have HJL : Hid ((ts.take j).length ≤ 1000) := by have := HL.out; unfold Hid; rw [List.length_take]; omega
      clear hE2 hE3 HT HE1 HROW1 HBS1 HGR cs0 ho0 hw hT9 hTC hnw hsz
      obtain ⟨c0, c1, c2, c3, c4, c5, cl⟩ := HC6.out
      go_wp2_with (
        at_builtin
        refine wpList_append_toks _ rfl (.tmp 20) (.tmp 22) rfl B (ts.take j).length 1 u4 (ts.take j) [⟨xk, xt, xq⟩] [.int .u8 xk, .string (bs xt), .bool su, .slice Au nu cu, .bool tu, .slice Bu mu du] rfl HROW2.out rfl ⟨w1.heap.size + 1, 0, none⟩ 1 rfl rfl HNW.out HTC.out (by omega) (by have := HJL.out; omega) HBS2.out ?_
        intro g cap w9 hr9 hg9
        have HR9 := Lib.hid hr9
        have HE9 : Hid (Ext w w9) := ext_grownW HE2.out hg9 (fun x e => by
          obtain ⟨cs, ho, _⟩ := HROW2.out
          have := (own_lt ho (g := x) e).2
          have := HBW.out
          omega)
        have HBS9 : Hid (B ≤ w9.heap.size) := Nat.le_trans HBS2.out hg9.size
        clear hr9 hg9 c0 c1 c2 c3 c4 c5 cl HC6)
      go_roundw
      case rel =>
        refine ⟨j + 1, m, rfl, HJ2.out, HRD2, ?_, HE9, HBS9⟩
        have h9 := HR9.out
        rw [← HTA.out, List.length_take] at h9
        exact h9
      case measure =>
        have := HOK.out
        have h2 : s.data.toList.length = s.size := rfl
        simp [intOf]
        omega
    · have hnil : ts.drop j = [] := List.drop_eq_nil_of_le (by omega)
      have hall : ts.take j = ts := List.take_of_length_le (by omega)
      have hk : k = k' := by
        have := HRD.out
        rw [hnil] at this
        exact this
      have hnx : nextT s.data.toList k = nxE 8 := by rw [hk]; exact HN.out
      rw [hall] at HROW1
      rw [hnx]
      simp only [nxE, tok0]
      clear HT HRD hnil hall hk hnx
      go_wp2_with fail
      refine bodyPost_ret (v := .tuple #[u4, .int .i64 0]) (by simp [results, Tryz.results19, go_sem]) rfl ?_
      have hE2 : Ext w1 (w1.alloc (.cells #[.int .u8 0, .string (bs []), .bool su, .slice Au nu cu, .bool tu, .slice Bu mu du] 79)) := Ext.al Ext.rfl' _
      refine ⟨⟨_, rfl, ?_⟩, Ext.trans HE1.out hE2⟩
      rw [HBW.out]
      exact HROW1.out.ext hE2
end Go.Proofs.YtkdbpcenehhopaaGreat
